/- An abstract machine over the kit's rules, part 3: operations that compute or read, one law each. -/
import Derived.Test.YtkkcnppgcnmikaaGreatDoorAac
namespace FM
open Go Go.RowKit
def InR(n:Int):Prop:=-9223372036854775808≤n∧n≤9223372036854775807
theorem InR.wrap{n:Int}(h:InR n):IntKind.i64.wrap n=n:=IntWalk.i64_in n h
section
variable {S:Sys} {σ:St} {d:Nat} {ty:Nat} {pos:String} {aft:Array Edge} {g:Option (Nat×Bool)}
theorem ev_av{x:Operand}{y:AV}{w0:World}{L0:Nat→Lab}{N:Nat}{a:Act}{w:World}{L:Nat→Lab}(h:RelL S w0 L0 N σ a w L)(hx:ov σ x=.av y):∃ n,Rep L w (some [n]) y (a.eval x) :=
 let ⟨n,hn,_⟩:=hold_plain h hx (by simp)
 ⟨n,hn⟩
theorem ev_int{x:Operand}{n:Int}{w0:World}{L0:Nat→Lab}{N:Nat}{a:Act}{w:World}{L:Nat→Lab}(h:RelL S w0 L0 N σ a w L)(hx:ov σ x=.av (.int n)):a.eval x=.int .i64 n:=by
 obtain⟨m,hm⟩:=ev_av h hx
 generalize a.eval x=v at hm
 cases hm;rfl
theorem ev_bool{x:Operand}{b:Bool}{w0:World}{L0:Nat→Lab}{N:Nat}{a:Act}{w:World}{L:Nat→Lab}(h:RelL S w0 L0 N σ a w L)(hx:ov σ x=.av (.bool b)):a.eval x=.bool b:=by
 obtain⟨m,hm⟩:=ev_av h hx
 generalize a.eval x=v at hm
 cases hm;rfl
theorem ev_str{x:Operand}{s:List UInt8}{w0:World}{L0:Nat→Lab}{N:Nat}{a:Act}{w:World}{L:Nat→Lab}(h:RelL S w0 L0 N σ a w L)(hx:ov σ x=.av (.str s)):a.eval x=.string ⟨s.toArray⟩:=by
 obtain⟨m,hm⟩:=ev_av h hx
 generalize a.eval x=v at hm
 cases hm;rfl
theorem ev_val{x:Operand}{u:Value}{w0:World}{L0:Nat→Lab}{N:Nat}{a:Act}{w:World}{L:Nat→Lab}(h:RelL S w0 L0 N σ a w L)(hx:ov σ x=.av (.val u)):a.eval x=u:=by
 obtain⟨m,hm⟩:=ev_av h hx
 generalize a.eval x=v at hm
 cases hm;rfl
theorem ev_nil{x:Operand}{w0:World}{L0:Nat→Lab}{N:Nat}{a:Act}{w:World}{L:Nat→Lab}(h:RelL S w0 L0 N σ a w L)(hx:ov σ x=.av .nil):a.eval x=.slice none 0 0:=by
 obtain⟨m,hm⟩:=ev_av h hx
 generalize a.eval x=v at hm
 cases hm;rfl
theorem step_val{op:Op}{y:AV}(hy:y.isOwn=false)(h:∀ w0 L0 N a w L,RelL S w0 L0 N σ a w L→∃ v,(∀ w',Ext w w'→(execOp a.eval ⟨some d,op,ty,pos,aft,g⟩).run S.P w'=.ok (.value v) w')∧Rep L w none y v) :
  Step S ⟨some d,op,ty,pos,aft,g⟩ σ (σ.put d (.av y)):=by
 intro w0 L0 N a w hN ⟨L,hr⟩
 obtain⟨v,h1,h2⟩:=h _ _ _ _ _ _ hr
 exact⟨v,h1,Rel.putPlain (n:=d) hr (hN d rfl) (by simp [TV.plain,hy]) rfl (h2.any _)⟩
theorem s_bin2{op:BinOp}{t t2:Nat}{x y:Operand}{a b:Int}{r:AV}(hx:ov σ x=.av (.int a))(hy:ov σ y=.av (.int b))(hr:r.isOwn=false)
  (h:∃ v,(∀ (L:Nat→Lab) (w:World),Rep L w none r v)∧∀ w,(do eqGuard op t x y (.int .i64 a) (.int .i64 b);binOp op t (.int .i64 a) (.int .i64 b):Sem Value).run S.P w=.ok v w) :
  Step S ⟨some d,.binOp op t x y t2,ty,pos,aft,g⟩ σ (σ.put d (.av r)):=by
 obtain⟨v,h1,h2⟩:=h
 refine step_val hr fun w0 L0 N c w L hR=>⟨v,fun w' _=>?_,h1 L w⟩
 have e:=h2 w'
 simp only [execOp,ev_int hR hx,ev_int hR hy] at e ⊢
 simp only [Sem.run_bind] at e ⊢
 rw [e];rfl
theorem s_add{t t2:Nat}{x y:Operand}{a b:Int}(hx:ov σ x=.av (.int a))(hy:ov σ y=.av (.int b))(hr:InR (a+b)):Step S ⟨some d,.binOp .add t x y t2,ty,pos,aft,g⟩ σ (σ.put d (.av (.int (a+b)))) :=
 s_bin2 hx hy rfl ⟨_,fun _ _=>.int,fun w=>by simp [eqGuard,binOp,Op.intArith,hr.wrap]⟩
theorem s_sub{t t2:Nat}{x y:Operand}{a b:Int}(hx:ov σ x=.av (.int a))(hy:ov σ y=.av (.int b))(hr:InR (a-b)):Step S ⟨some d,.binOp .sub t x y t2,ty,pos,aft,g⟩ σ (σ.put d (.av (.int (a-b)))) :=
 s_bin2 hx hy rfl ⟨_,fun _ _=>.int,fun w=>by simp [eqGuard,binOp,Op.intArith,hr.wrap]⟩
theorem s_mul{t t2:Nat}{x y:Operand}{a b:Int}(hx:ov σ x=.av (.int a))(hy:ov σ y=.av (.int b))(hr:InR (a*b)):Step S ⟨some d,.binOp .mul t x y t2,ty,pos,aft,g⟩ σ (σ.put d (.av (.int (a*b)))) :=
 s_bin2 hx hy rfl ⟨_,fun _ _=>.int,fun w=>by simp [eqGuard,binOp,Op.intArith,hr.wrap]⟩
theorem s_quo{t t2:Nat}{x y:Operand}{a b:Int}(hx:ov σ x=.av (.int a))(hy:ov σ y=.av (.int b))(h0:b≠0)(hr:InR (a.tdiv b)):Step S ⟨some d,.binOp .quo t x y t2,ty,pos,aft,g⟩ σ (σ.put d (.av (.int (a.tdiv b)))) :=
 s_bin2 hx hy rfl ⟨_,fun _ _=>.int,fun w=>by simp [eqGuard,binOp,Op.intDiv,hr.wrap,h0]⟩
theorem s_rem{t t2:Nat}{x y:Operand}{a b:Int}(hx:ov σ x=.av (.int a))(hy:ov σ y=.av (.int b))(h0:b≠0):Step S ⟨some d,.binOp .rem t x y t2,ty,pos,aft,g⟩ σ (σ.put d (.av (.int (a.tmod b)))) :=
 s_bin2 hx hy rfl ⟨_,fun _ _=>.int,fun w=>by simp [eqGuard,binOp,Op.intDiv,h0]⟩
theorem s_lss{t t2:Nat}{x y:Operand}{a b:Int}(hx:ov σ x=.av (.int a))(hy:ov σ y=.av (.int b)):Step S ⟨some d,.binOp .lss t x y t2,ty,pos,aft,g⟩ σ (σ.put d (.av (.bool (decide (a<b))))) :=
 s_bin2 hx hy rfl ⟨_,fun _ _=>.bool,fun w=>by simp [eqGuard,binOp,Op.intCmp]⟩
theorem s_leq{t t2:Nat}{x y:Operand}{a b:Int}(hx:ov σ x=.av (.int a))(hy:ov σ y=.av (.int b)):Step S ⟨some d,.binOp .leq t x y t2,ty,pos,aft,g⟩ σ (σ.put d (.av (.bool (decide (a≤b))))) :=
 s_bin2 hx hy rfl ⟨_,fun _ _=>.bool,fun w=>by simp [eqGuard,binOp,Op.intCmp]⟩
theorem s_gtr{t t2:Nat}{x y:Operand}{a b:Int}(hx:ov σ x=.av (.int a))(hy:ov σ y=.av (.int b)):Step S ⟨some d,.binOp .gtr t x y t2,ty,pos,aft,g⟩ σ (σ.put d (.av (.bool (decide (b<a))))) :=
 s_bin2 hx hy rfl ⟨_,fun _ _=>.bool,fun w=>by simp [eqGuard,binOp,Op.intCmp]⟩
theorem s_geq{t t2:Nat}{x y:Operand}{a b:Int}(hx:ov σ x=.av (.int a))(hy:ov σ y=.av (.int b)):Step S ⟨some d,.binOp .geq t x y t2,ty,pos,aft,g⟩ σ (σ.put d (.av (.bool (decide (b≤a))))) :=
 s_bin2 hx hy rfl ⟨_,fun _ _=>.bool,fun w=>by simp [eqGuard,binOp,Op.intCmp]⟩
theorem s_eql{t t2:Nat}{x y:Operand}{a b:Int}(hx:ov σ x=.av (.int a))(hy:ov σ y=.av (.int b)):Step S ⟨some d,.binOp .eql t x y t2,ty,pos,aft,g⟩ σ (σ.put d (.av (.bool (decide (a=b))))) :=
 s_bin2 hx hy rfl ⟨_,fun _ _=>.bool,fun w=>by simp [eqGuard,binOp,Op.intCmp];rw [Bool.eq_iff_iff];simp⟩
theorem s_neq{t t2:Nat}{x y:Operand}{a b:Int}(hx:ov σ x=.av (.int a))(hy:ov σ y=.av (.int b)):Step S ⟨some d,.binOp .neq t x y t2,ty,pos,aft,g⟩ σ (σ.put d (.av (.bool (decide (a≠b))))) :=
 s_bin2 hx hy rfl ⟨_,fun _ _=>.bool,fun w=>by simp [eqGuard,binOp,Op.intCmp];rw [Bool.eq_iff_iff];simp⟩
theorem bits64_and(a b:Nat)(ha:a<9223372036854775808):IntKind.i64.wrap (((BitVec.ofInt 64 (a:Int)) &&& (BitVec.ofInt 64 (b:Int))).toNat:Int)=((a &&& b:Nat):Int):=by
 have h1:(BitVec.ofInt 64 (a:Int)).toNat=a:=by simp;omega
 have h2:a &&& b≤a:=Nat.and_le_left
 rw [BitVec.toNat_and,h1]
 have h3:a &&& (BitVec.ofInt 64 (b:Int)).toNat=a &&& b:=by
  have:(BitVec.ofInt 64 (b:Int)).toNat=b%2 ^ 64:=by simp
  rw [this]
  apply Nat.eq_of_testBit_eq
  intro i
  rw [Nat.testBit_and,Nat.testBit_and,Nat.testBit_mod_two_pow]
  by_cases hi:i<64
  ·simp [hi]
  ·have:a.testBit i=false:=Nat.testBit_lt_two_pow (Nat.lt_of_lt_of_le ha (by
    calc 9223372036854775808=2 ^ 63:=by decide
     _≤2 ^ i:=Nat.pow_le_pow_right (by decide) (by omega)))
   simp [this]
 rw [h3]
 exact IntWalk.i64_in _ (by omega)
theorem s_and{t t2:Nat}{x y:Operand}{a b:Int}(hx:ov σ x=.av (.int a))(hy:ov σ y=.av (.int b))(h0:0≤a)(h1:0≤b)(hr:InR a):Step S ⟨some d,.binOp .and t x y t2,ty,pos,aft,g⟩ σ (σ.put d (.av (.int ((a.toNat &&& b.toNat:Nat):Int)))) :=
 s_bin2 hx hy rfl ⟨_,fun _ _=>.int,fun w=>by
  obtain⟨n,rfl⟩:=Int.eq_ofNat_of_zero_le h0
  obtain⟨m,rfl⟩:=Int.eq_ofNat_of_zero_le h1
  have:=bits64_and n m (by unfold InR at hr;omega)
  simp only [eqGuard,binOp,Op.intBits,Int.toNat_natCast]
  rw [← this];rfl⟩
theorem s_shl{t t2:Nat}{x y:Operand}{a b:Int}(hx:ov σ x=.av (.int a))(hy:ov σ y=.av (.int b))(h0:0≤b)(h1:b≤62)(hr:InR (a*2 ^ b.toNat)):Step S ⟨some d,.binOp .shl t x y t2,ty,pos,aft,g⟩ σ (σ.put d (.av (.int (a*2 ^ b.toNat)))) :=
 s_bin2 hx hy rfl ⟨_,fun _ _=>.int,fun w=>by
  have hm:min b.toNat IntKind.i64.bits=b.toNat:=by simp [IntKind.bits];omega
  simp only [eqGuard,binOp,Op.shift,hm]
  simp [hr.wrap,show ¬ b<0 by omega]⟩
theorem s_shr{t t2:Nat}{x y:Operand}{a b:Int}(hx:ov σ x=.av (.int a))(hy:ov σ y=.av (.int b))(h0:0≤b)(h1:b≤62):Step S ⟨some d,.binOp .shr t x y t2,ty,pos,aft,g⟩ σ (σ.put d (.av (.int (a.fdiv (2 ^ b.toNat))))) :=
 s_bin2 hx hy rfl ⟨_,fun _ _=>.int,fun w=>by
  have hm:min b.toNat IntKind.i64.bits=b.toNat:=by simp [IntKind.bits];omega
  simp only [eqGuard,binOp,Op.shift,hm]
  simp [show ¬ b<0 by omega]⟩
theorem s_not{t:Nat}{x:Operand}{b:Bool}(hx:ov σ x=.av (.bool b)):Step S ⟨some d,.unOp .not t x,ty,pos,aft,g⟩ σ (σ.put d (.av (.bool (!b)))) :=
 step_val rfl fun w0 L0 N c w L hR=>⟨_,fun w' _=>by
  simp only [execOp,ev_bool hR hx,Op.unary];rfl,.bool⟩
theorem s_pickT{c x y:Operand}{tv:TV}(hc:ov σ c=.av (.bool true))(hx:ov σ x=tv)(hp:tv.plain=true)(hd:tv.dep d=false):Step S ⟨some d,.pick c x y,ty,pos,aft,g⟩ σ (σ.put d tv):=by
 intro w0 L0 N a w hN ⟨L,h⟩
 obtain⟨n,hn,_⟩:=hold_plain h hx (plain_ne hp)
 exact⟨a.eval x,fun w' _=>by simp only [execOp,ev_bool h hc];rfl,Rel.putPlain h (hN d rfl) hp hd hn⟩
theorem s_pickF{c x y:Operand}{tv:TV}(hc:ov σ c=.av (.bool false))(hx:ov σ y=tv)(hp:tv.plain=true)(hd:tv.dep d=false):Step S ⟨some d,.pick c x y,ty,pos,aft,g⟩ σ (σ.put d tv):=by
 intro w0 L0 N a w hN ⟨L,h⟩
 obtain⟨n,hn,_⟩:=hold_plain h hx (plain_ne hp)
 exact⟨a.eval y,fun w' _=>by simp only [execOp,ev_bool h hc];rfl,Rel.putPlain h (hN d rfl) hp hd hn⟩
theorem s_min{ts:Array Nat}{x y:Operand}{a b:Int}(hx:ov σ x=.av (.int a))(hy:ov σ y=.av (.int b)):Step S ⟨some d,.call ⟨.builtin .min,#[x,y],ts⟩,ty,pos,aft,g⟩ σ (σ.put d (.av (.int (min a b)))) :=
 step_val rfl fun w0 L0 N c w L hR=>⟨.int .i64 (min a b),fun w' _=>by
  have:(if b<a then b else a)=min a b:=by split<;>omega
  simp [execOp,resolve,invoke,builtin,Builtin.min_,Builtin.min2,ev_int hR hx,ev_int hR hy,this],.int⟩
theorem s_max{ts:Array Nat}{x y:Operand}{a b:Int}(hx:ov σ x=.av (.int a))(hy:ov σ y=.av (.int b)):Step S ⟨some d,.call ⟨.builtin .max,#[x,y],ts⟩,ty,pos,aft,g⟩ σ (σ.put d (.av (.int (max a b)))) :=
 step_val rfl fun w0 L0 N c w L hR=>⟨.int .i64 (max a b),fun w' _=>by
  have:(if a<b then b else a)=max a b:=by split<;>omega
  simp [execOp,resolve,invoke,builtin,Builtin.max_,Builtin.max2,ev_int hR hx,ev_int hR hy,this],.int⟩
/-! ### slices that are read -/
def rd(σ:St):TV→AV
 | .av x=>x
 | .ref s=>match get σ s with
  | .av x=>x
  | _=>.dead
 | .rref _ _ y=>y
 | .bor _ x=>x
 | _=>.dead
theorem rd_ok{x:Operand}{y:AV}{w0:World}{L0:Nat→Lab}{N:Nat}{a:Act}{w:World}{L:Nat→Lab}(h:RelL S w0 L0 N σ a w L)(hx:rd σ (ov σ x)=y)(hy:y≠.dead) :
  ∃ L' π,(∀ b p,L' b=.my p→L b=.my p)∧(∀ b,b<w.heap.size→L b=.sh→L' b=.sh)∧Rep L' w π y (a.eval x):=by
 cases hov:ov σ x with
 | av z =>
  rw [hov] at hx;simp only [rd] at hx;subst hx
  obtain⟨n,hn⟩:=ev_av h hov
  exact⟨L,_,fun _ _ h=>h,fun _ _ h=>h,hn⟩
 | ref s =>
  rw [hov] at hx;simp only [rd] at hx
  obtain⟨n,hn,_⟩:=hold_plain h hov (by simp)
  simp only [Hold] at hn
  cases hs:get σ s with
  | av z =>
   rw [hs] at hx;simp only at hx;subst hx
   have:=h.hold s (own_lt h hs (by simp))
   rw [hs] at this
   exact⟨L,_,fun _ _ h=>h,fun _ _ h=>h,by rw [hn];exact this⟩
  | _=>rw [hs] at hx;exact absurd hx.symm hy
 | rref s i z =>
  rw [hov] at hx;simp only [rd] at hx;subst hx
  obtain⟨n,⟨b,hb,hcell,hr⟩,_⟩:=hold_plain h hov (by simp)
  exact⟨L,_,fun _ _ h=>h,fun _ _ h=>h,hr hy⟩
 | bor s z =>
  rw [hov] at hx;simp only [rd] at hx;subst hx
  obtain⟨n,hn,_⟩:=hold_plain h hov (by simp)
  exact⟨_,_,fun b p hb=>without_my hb,fun b _ hb=>without_sh hb,hn⟩
 | _=>rw [hov] at hx;exact absurd hx.symm hy
theorem sl_inv{L:Nat→Lab}{w:World}{π:Option (List Nat)}{o:Bool}{c:Nat}{xs:List AV}{v:Value}(h:Rep L w π (.sl o c xs) v):∃ a cap,v=.slice a xs.length cap:=by
 cases h with
 | slE h=>exact⟨_,_,rfl⟩
 | slS=>exact⟨_,_,rfl⟩
 | slO=>exact⟨_,_,rfl⟩
theorem s_lenS{t:Nat}{x:Operand}{o:Bool}{c:Nat}{xs:List AV}{e sz by_:Nat}{z:List AV}(hT:S.T t=some ⟨.slice e,sz,by_,z⟩)(hx:rd σ (ov σ x)=.sl o c xs) :
  Step S ⟨some d,.call ⟨.builtin .len,#[x],#[t]⟩,ty,pos,aft,g⟩ σ (σ.put d (.av (.int (xs.length:Nat)))) :=
 step_val rfl fun w0 L0 N c w L hR=>⟨.int .i64 (xs.length:Nat),fun w' _=>by
  obtain⟨L',π,_,_,h⟩:=rd_ok hR hx (by simp)
  obtain⟨a,cap,hv⟩:=sl_inv h
  obtain⟨dd,hd,he⟩:=(S.ok t _ hT).desc
  simp only [TK.ofDesc] at he
  subst he
  simp [execOp,resolve,invoke,builtin,Builtin.len_,hv,run_underlying hd,goInt],.int⟩
theorem s_lenM{α:Type}{f:α→AV}{l:List α}{t:Nat}{x:Operand}{o:Bool}{c:Nat}{e sz by_:Nat}{z:List AV}(hT:S.T t=some ⟨.slice e,sz,by_,z⟩)(hx:rd σ (ov σ x)=.sl o c (l.map f)) :
  Step S ⟨some d,.call ⟨.builtin .len,#[x],#[t]⟩,ty,pos,aft,g⟩ σ (σ.put d (.av (.int (l.length:Nat)))):=by
 have:=s_lenS (d:=d) (ty:=ty) (pos:=pos) (aft:=aft) (g:=g) hT hx
 rwa [List.length_map] at this
theorem s_lenStr{t:Nat}{x:Operand}{s:List UInt8}{sz by_:Nat}{z:List AV}(hT:S.T t=some ⟨.str,sz,by_,z⟩)(hx:ov σ x=.av (.str s)) :
  Step S ⟨some d,.call ⟨.builtin .len,#[x],#[t]⟩,ty,pos,aft,g⟩ σ (σ.put d (.av (.int (s.length:Nat)))) :=
 step_val rfl fun w0 L0 N c w L hR=>⟨.int .i64 (s.length:Nat),fun w' _=>by
  obtain⟨dd,hd,he⟩:=(S.ok t _ hT).desc
  simp only [TK.ofDesc] at he
  subst he
  have:ByteArray.size ⟨s.toArray⟩=s.length:=by simp [ByteArray.size]
  simp [execOp,resolve,invoke,builtin,Builtin.len_,ev_str hR hx,run_underlying hd,goInt,this],.int⟩
/-! ### addresses and loads -/
theorem addr_add(b o n:Nat):(⟨b,o,none⟩:Addr).add n=⟨b,o+n,none⟩:=by unfold Addr.add;split<;>simp_all
theorem run_indexAt{P:Program}{t e c:Nat}{b off len cap:Nat}{i:Int}(ht:P.underlying t=some (.slice e))(hs:∃ f,P.info? e=some f∧f.size=c)(h0:0≤i)(h1:i.toNat<len)(w:World) :
  (Instr.indexAt t (.slice (some ⟨b,off,none⟩) len cap) (.int .i64 i)).run P w=.ok (.pointer (some ⟨b,off+i.toNat*c,none⟩)) w:=by
 obtain⟨f,hf,rfl⟩:=hs
 have h2:0≤i∧i<(len:Int):=by omega
 simp [Instr.indexAt,asIntOf,run_underlying ht,h2,Go.sizeOf,typeInfo,hf,addr_add]
theorem TOk.slice{P:Program}{t e sz by_:Nat}{z:List AV}(h:TOk P t ⟨.slice e,sz,by_,z⟩):P.underlying t=some (.slice e):=by
 obtain⟨dd,hd,he⟩:=h.desc
 simp only [TK.ofDesc] at he
 subst he;exact hd
theorem TOk.size{P:Program}{t:Nat}{i:TI}(h:TOk P t i):∃ f,P.info? t=some f∧f.size=i.size :=
 let ⟨f,_,h1,h2,_⟩:=h.info;⟨f,h1,h2⟩
theorem elem_cells{L:Nat→Lab}{w:World}{π:Option (List Nat)}{o:Bool}{c:Nat}{xs:List AV}{v:Value}(h:Rep L w π (.sl o c xs) v){i:Nat}{y:AV}(hy:xs[i]?=some y) :
    ∃ b off cap,v=.slice (some ⟨b,off,none⟩) xs.length cap∧b<w.heap.size∧i<xs.length ∧
      ((o=false∧L b=.sh∧∀ j z,y.cells[j]?=some z→∃ u,w.cell? ⟨b,off+i*c+j,none⟩=some u∧Rep L w none z u) ∨
       (o=true∧off=0∧∃ p,π=some p∧L b=.my p∧∀ j z,y.cells[j]?=some z→∃ u,w.cell? ⟨b,off+i*c+j,none⟩=some u∧Rep L w (some (p++[i*c+j])) z u)):=by
  have hi:i<xs.length:=(List.getElem?_eq_some_iff.1 hy).1
  cases h with
  | slE h=>simp at hy
  | @slS _ c xs b off cap u hcap hL hb hc hcell hr =>
    refine⟨b,off,cap,rfl,hb,hi,.inl ⟨rfl,hL,fun j z hz=>?_⟩⟩
    have hf:=flat_get hc hy hz
    have hj:j<c:=by have:=(List.getElem?_eq_some_iff.1 hz).1;rw [hc y (List.mem_of_getElem? hy)] at this;exact this
    have hlt:i*c+j<xs.length*c:=by
      have:=(List.getElem?_eq_some_iff.1 hf).1
      rwa [flat_length hc] at this
    exact⟨_,by rw [Nat.add_assoc];exact hcell _ hlt,hr _ z hf⟩
  | @slO p c xs b cap arr e u hL hb hcap hsz hc hcell hr =>
    refine⟨b,0,cap,rfl,(Array.getElem?_eq_some_iff.1 hb).1,hi,.inr ⟨rfl,rfl,p,rfl,hL,fun j z hz=>?_⟩⟩
    have hf:=flat_get hc hy hz
    have hlt:i*c+j<xs.length*c:=by
      have:=(List.getElem?_eq_some_iff.1 hf).1
      rwa [flat_length hc] at this
    exact⟨_,by rw [Nat.zero_add,cell_of_row w b _ arr e (0,0) hb];exact hcell _ hlt,hr _ z hf⟩
theorem s_ixaS{t e c sz by_:Nat}{z:List AV}{ti:TI}{x i:Operand}{xs:List AV}{n:Int}{y:AV}(hx:ov σ x=.av (.sl false c xs))(hi:ov σ i=.av (.int n))(hT:S.T t=some ⟨.slice e,sz,by_,z⟩)(hE:S.T e=some ti)(hc:ti.size=c)
  (h0:0≤n) (hy:xs[n.toNat]?=some y):Step S ⟨some d,.indexAddr t x i,ty,pos,aft,g⟩ σ (σ.put d (.dptr y)):=by
 intro w0 L0 N a w hN ⟨L,hR⟩
 obtain⟨m,hm⟩:=ev_av hR hx
 obtain⟨b,off,cap,hv,hb,hlt,⟨_,hL,hcs⟩|⟨h,_⟩⟩:=elem_cells hm hy
 ·refine⟨.pointer (some ⟨b,off+n.toNat*c,none⟩),fun w' _=>?_,Rel.putPlain (n:=d) hR (hN d rfl) rfl rfl ⟨b,off+n.toNat*c,rfl,hL,hb,hcs⟩⟩
  subst hc
  simp only [execOp,hv,ev_int hR hi,Sem.run_bind,run_indexAt (S.ok t _ hT).slice (S.ok e _ hE).size h0 hlt]
  rfl
 ·cases h
theorem s_ixaO{t e c sz by_:Nat}{z:List AV}{ti:TI}{x i:Operand}{s:Nat}{xs:List AV}{n:Int}{y:AV}(hx:ov σ x=.ref s)(hs:get σ s=.av (.sl true c xs))(hi:ov σ i=.av (.int n))(hT:S.T t=some ⟨.slice e,sz,by_,z⟩)(hE:S.T e=some ti)(hc:ti.size=c)
  (h0:0≤n) (hy:xs[n.toNat]?=some y) (hsd:Nat.beq s d=false):Step S ⟨some d,.indexAddr t x i,ty,pos,aft,g⟩ σ (σ.put d (.ptr s n.toNat c y)):=by
 intro w0 L0 N a w hN ⟨L,hR⟩
 obtain⟨m,hm,_⟩:=hold_plain hR hx (by simp)
 simp only [Hold] at hm
 have hh:=hR.hold s (own_lt hR hs (by simp))
 rw [hs,←hm] at hh
 obtain⟨b,off,cap,hv,hb,hlt,⟨h,_⟩|⟨_,rfl,p,hp,hL,hcs⟩⟩:=elem_cells hh hy
 ·cases h
 ·cases hp
  refine⟨.pointer (some ⟨b,0+n.toNat*c,none⟩),fun w' _=>?_,Rel.putPlain (n:=d) hR (hN d rfl) rfl hsd ⟨b,hL,by rw [Nat.zero_add],fun _ j z hz=>?_⟩⟩
  ·subst hc
   simp only [execOp,hv,ev_int hR hi,Sem.run_bind,run_indexAt (S.ok t _ hT).slice (S.ok e _ hE).size h0 hlt]
   rfl
  ·have:=hcs j z hz
   rwa [Nat.zero_add] at this
def AV.fits(ti:TI):AV→Bool
 | .agg cs=>ti.k.isAgg&&Nat.beq cs.length ti.size
 | _=>!ti.k.isAgg
theorem isAgg_of{P:Program}{t:Nat}{ti:TI}(h:TOk P t ti)(w:World):(isAgg t).run P w=.ok ti.k.isAgg w:=by
 obtain⟨dd,hd,he⟩:=h.desc
 simp only [isAgg,Sem.run_bind,run_underlying hd,Result.andThen_ok]
 cases hk:ti.k with
 | plain =>
  rw [hk] at he
  simp only [TK.ofDesc] at he
  cases dd<;>first|rfl|exact he.elim
 | slice e=>rw [hk] at he;simp only [TK.ofDesc] at he;subst he;rfl
 | struct fs=>rw [hk] at he;simp only [TK.ofDesc] at he;obtain⟨fields,rfl,_⟩:=he;rfl
 | arr n e=>rw [hk] at he;simp only [TK.ofDesc] at he;subst he;rfl
 | str=>rw [hk] at he;simp only [TK.ofDesc] at he;subst he;rfl
 | int k=>rw [hk] at he;simp only [TK.ofDesc] at he;subst he;rfl
theorem run_loadVar_cells{P:Program}{t:Nat}{ti:TI}(h:TOk P t ti){y:AV}(hf:y.fits ti=true){b off:Nat}{w:World}(us:List Value)(hl:us.length=y.cells.length)(hc:∀ (j:Nat) u,us[j]?=some u→w.cell? ⟨b,off+j,none⟩=some u) :
  (loadVar t ⟨b,off,none⟩).run P w=.ok (match y with|.agg _=>.agg us.toArray|_=>us.headD undef) w:=by
 simp only [loadVar,Sem.run_bind,isAgg_of h,Result.andThen_ok]
 cases y with
 | agg cs =>
  simp only [AV.fits,Bool.and_eq_true] at hf
  obtain⟨f,hi,hs⟩:=h.size
  have hlen:f.size=us.length:=by rw [hs,hl];exact(Nat.eq_of_beq_eq_true hf.2).symm
  simp only [hf.1,if_true,Sem.run_bind,Go.sizeOf,typeInfo,run_program,Result.andThen_ok,hi,Sem.run_pure,hlen]
  have:=run_loadCells_list (P:=P) w ⟨b,off,none⟩ us (fun j v hv=>by rw [addr_add];exact hc j v hv)
  rw [this];rfl
 | _ =>
  simp only [AV.fits,Bool.not_eq_true'] at hf
  simp only [hf]
  cases us with
  | nil=>simp [AV.cells] at hl
  | cons u us =>
   have:=hc 0 u rfl
   rw [Nat.add_zero] at this
   simp [run_load,this]
theorem gather{R:Nat→AV→Value→Prop}:∀ (cs:List AV) (k:Nat),(∀ j z,cs[j]?=some z→∃ u,R (k+j) z u)→∃ us:List Value,us.length=cs.length∧∀ j z u,cs[j]?=some z→us[j]?=some u→R (k+j) z u
 | [],_,_=>⟨[],rfl,fun j z u h=>by simp at h⟩
 | c::cs,k,h=>by
  obtain⟨u,hu⟩:=h 0 c rfl
  obtain⟨us,hl,hr⟩:=gather cs (k+1) fun j z hz=>by
   obtain⟨u,hu⟩:=h (j+1) z (by simpa using hz)
   exact⟨u,by rwa [show k+1+j=k+(j+1) by omega]⟩
  refine⟨u::us,by simp [hl],fun j z u' hz hu'=>?_⟩
  cases j with
  | zero=>simp only [List.getElem?_cons_zero,Option.some.injEq] at hz hu';subst hz;subst hu';exact hu
  | succ j=>simp only [List.getElem?_cons_succ] at hz hu';have:=hr j z u' hz hu';rwa [show k+1+j=k+(j+1) by omega] at this
theorem load_core{P:Program}{t:Nat}{ti:TI}(h:TOk P t ti){y:AV}(hf:y.fits ti=true){b off:Nat}{w:World}{L:Nat→Lab}{π:Nat→Option (List Nat)}(hb:b<w.heap.size)(hno:∀ cs,y=.agg cs→∀ (j:Nat) (z:AV),cs[j]?=some z→z.isOwn=false)
  (hc:∀ j z,y.cells[j]?=some z→∃ u,w.cell? ⟨b,off+j,none⟩=some u∧Rep L w (π j) z u) :
  ∃ v,(∀ w',Ext w w'→(loadVar t ⟨b,off,none⟩).run P w'=.ok v w')∧Rep L w (π 0) y v∧(y.cells=[y]→w.cell? ⟨b,off,none⟩=some v):=by
 obtain⟨us,hl,hus⟩:=gather (R:=fun j z u=>w.cell? ⟨b,off+j,none⟩=some u∧Rep L w (π j) z u) y.cells 0 (by simpa using hc)
 simp only [Nat.zero_add] at hus
 refine⟨_,fun w' e=>run_loadVar_cells h hf us hl fun j u hu=>?_,?_,?_⟩
 ·have hj:j<y.cells.length:=by rw [← hl];exact(List.getElem?_eq_some_iff.1 hu).1
  rw [cell_of_heap (e.block b hb)]
  exact(hus j _ u (List.getElem?_eq_getElem hj) hu).1
 ·cases y with
  | agg cs =>
   exact .agg hl fun i x v hx hv=>Rep.replace (hus i x v hx hv).2 (hno cs rfl i x hx)
  | _ =>
   cases us with
   | nil=>simp [AV.cells] at hl
   | cons u us=>exact(hus 0 _ u rfl rfl).2
 ·intro h1
  cases us with
  | nil=>rw [h1] at hl;simp at hl
  | cons u us =>
   have:=(hus 0 y u (by rw [h1];rfl) rfl).1
   rw [Nat.add_zero] at this
   cases y with
   | agg cs =>
    simp only [AV.cells] at h1
    exfalso
    have h2:SizeOf.sizeOf cs=SizeOf.sizeOf [AV.agg cs]:=congrArg SizeOf.sizeOf h1
    simp at h2
    omega
   | _=>exact this
def AV.noOwn:AV→Bool
 | .agg cs=>cs.all fun z=>!z.isOwn
 | _=>true
theorem noOwn_spec{y:AV}(h:y.noOwn=true):∀ cs,y=.agg cs→∀ (j:Nat) (z:AV),cs[j]?=some z→z.isOwn=false:=by
 intro cs hy j z hz
 subst hy
 simp only [AV.noOwn,List.all_eq_true,Bool.not_eq_true'] at h
 exact h z (List.mem_of_getElem? hz)
theorem s_ldD{t:Nat}{ti:TI}{x:Operand}{y:AV}(hx:ov σ x=.dptr y)(hT:S.T t=some ti)(hf:y.fits ti=true)(hp:y.isOwn=false)(hn:y.noOwn=true):Step S ⟨some d,.load t x,ty,pos,aft,g⟩ σ (σ.put d (.av y)) :=
 step_val hp fun w0 L0 N c w L hR=>by
  obtain⟨m,⟨b,off,hv,hL,hb,hc⟩,_⟩:=hold_plain hR hx (by simp)
  obtain⟨v,h1,h2,_⟩:=load_core (S.ok t ti hT) hf hb (noOwn_spec hn) (π:=fun _=>none) hc
  exact⟨v,fun w' e=>by simp only [execOp,hv,Instr.loadAt,Instr.sureAddr];simp [h1 w' e],h2⟩
theorem s_ldP{t:Nat}{ti:TI}{x:Operand}{s i c:Nat}{y:AV}(hx:ov σ x=.ptr s i c y)(hT:S.T t=some ti)(hf:y.fits ti=true)(hp:y.isOwn=false)(hn:y.noOwn=true)(hy:y≠.dead):Step S ⟨some d,.load t x,ty,pos,aft,g⟩ σ (σ.put d (.av y)) :=
 step_val hp fun w0 L0 N a w L hR=>by
  obtain⟨m,⟨b,hL,hv,hc⟩,_⟩:=hold_plain hR hx (by simp)
  obtain⟨v,h1,h2,_⟩:=load_core (S.ok t ti hT) hf (hR.lok.lt b _ hL) (noOwn_spec hn) (π:=fun j=>some [s,i*c+j]) (hc hy)
  exact⟨v,fun w' e=>by simp only [execOp,hv,Instr.loadAt,Instr.sureAddr];simp [h1 w' e],Rep.replace h2 hp⟩
theorem s_ldF{t:Nat}{ti:TI}{x:Operand}{s o:Nat}{y:AV}(hx:ov σ x=.fpt s o y)(hT:S.T t=some ti)(hf:y.fits ti=true)(hp:y.isOwn=false)(hn:y.noOwn=true)(hy:y≠.dead):Step S ⟨some d,.load t x,ty,pos,aft,g⟩ σ (σ.put d (.av y)) :=
 step_val hp fun w0 L0 N a w L hR=>by
  obtain⟨m,⟨b,hL,hv,hc⟩,_⟩:=hold_plain hR hx (by simp)
  obtain⟨v,h1,h2,_⟩:=load_core (S.ok t ti hT) hf (hR.lok.lt b _ hL) (noOwn_spec hn) (π:=fun j=>some [s,o+j]) (hc hy)
  exact⟨v,fun w' e=>by simp only [execOp,hv,Instr.loadAt,Instr.sureAddr];simp [h1 w' e],Rep.replace h2 hp⟩
theorem Rep.flatPlain{L L':Nat→Lab}{w w':World}{π π':Option (List Nat)}{x:AV}{v:Value}(h:Rep L w π x v)(hx:x.flatPlain=true):Rep L' w' π' x v:=by
 cases h<;>first|exact .int|exact .bool|exact .str|exact .val|exact .nil|(simp [AV.flatPlain] at hx)
/-! ### what is owned changes its place -/
def strip:List Nat→List Nat→Option (List Nat)
 | [],q=>some q
 | a::P,b::q=>bif Nat.beq a b then strip P q else none
 | _::_,[]=>none
theorem strip_spec:∀ {P p q:List Nat},strip P p=some q↔p=P++q
 | [],p,q=>by simp [strip]
 | a::P,[],q=>by simp [strip]
 | a::P,b::p,q=>by
  simp only [strip,List.cons_append,List.cons.injEq]
  cases h:Nat.beq a b with
  | true=>rw [cond_true,strip_spec];have:=Nat.eq_of_beq_eq_true h;simp [this]
  | false=>rw [cond_false];have:=of_not_beq h;simp;intro e;exact absurd e.symm this
def mvl(P:List Nat)(d:Nat)(L:Nat→Lab):Nat→Lab:=fun b =>
 match L b with
 | .my p=>match strip P p with
  | some q=>.my (d::q)
  | none=>(Lab.my p).without d
 | l=>l
theorem mvl_to{P:List Nat}{d:Nat}{L:Nat→Lab}{b:Nat}{q:List Nat}(h:L b=.my (P++q)):mvl P d L b=.my (d::q):=by
 simp only [mvl,h,strip_spec.2 (rfl:P++q=P++q)]
theorem mvl_keep{P:List Nat}{d:Nat}{L:Nat→Lab}{b t:Nat}{q:List Nat}(h:L b=.my (t::q))(ht:t≠d)(hP:strip P (t::q)=none):mvl P d L b=.my (t::q):=by
 simp only [mvl,h,hP,Lab.without,not_beq ht,cond_false]
theorem mvl_sh{P:List Nat}{d:Nat}{L:Nat→Lab}{b:Nat}(h:L b=.sh):mvl P d L b=.sh:=by simp only [mvl,h]
theorem mvl_my{P:List Nat}{d:Nat}{L:Nat→Lab}{b:Nat}{p:List Nat}(h:mvl P d L b=.my p):(∃ q,L b=.my (P++q)∧p=d::q)∨(L b=.my p∧strip P p=none∧p.head?≠some d):=by
 simp only [mvl] at h
 cases hL:L b with
 | my p' =>
  rw [hL] at h
  simp only at h
  cases hs:strip P p' with
  | some q=>rw [hs] at h;injection h with h;exact .inl ⟨q,by rw [strip_spec.1 hs],h.symm⟩
  | none =>
   rw [hs] at h
   have h1:=without_my h
   injection h1 with h1
   subst h1
   refine .inr ⟨rfl,hs,fun e=>?_⟩
   cases p' with
   | nil=>cases e
   | cons t q=>simp only [List.head?_cons,Option.some.injEq] at e;subst e;simp [Lab.without,Nat.beq_refl] at h
 | sh=>rw [hL] at h;cases h
 | fo=>rw [hL] at h;cases h
theorem mvl_fo{P:List Nat}{d:Nat}{L:Nat→Lab}{b:Nat}:mvl P d L b=.fo↔L b=.fo:=by
 simp only [mvl]
 cases hL:L b with
 | my p =>
  simp only
  cases hs:strip P p with
  | some q=>simp
  | none =>
   cases p with
   | nil=>simp [Lab.without]
   | cons t q=>simp only [Lab.without];cases Nat.beq t d<;>simp
 | _=>simp
theorem LOk.mvl{L0 L:Nat→Lab}{w0 w:World}(h:LOk L0 w0 L w)(P:List Nat)(d:Nat):LOk L0 w0 (FM.mvl P d L) w where
 lt b p hb:=by
  rcases mvl_my hb with⟨q,h1,_⟩|⟨h1,_⟩<;>exact h.lt b _ h1
 inj b b' p hb hb':=by
  rcases mvl_my hb with⟨q,h1,h2⟩|⟨h1,h2,h3⟩<;>rcases mvl_my hb' with⟨q',h1',h2'⟩|⟨h1',h2',h3'⟩
  ·rw [h2] at h2';cases h2';exact h.inj _ _ _ h1 h1'
  ·rw [h2] at h3';exact absurd rfl h3'
  ·rw [h2'] at h3;exact absurd rfl h3
  ·exact h.inj _ _ _ h1 h1'
 head b p hb:=by
  rcases mvl_my hb with⟨q,_,h2⟩|⟨h1,_⟩
  ·rw [h2];simp
  ·exact h.head b p h1
 old b p hlt hb:=by
  rcases mvl_my hb with⟨q,h1,_⟩|⟨h1,_⟩<;>exact h.old b _ hlt h1
 fo b hb:=mvl_fo.trans (h.fo b hb)
 new b hb hf:=h.new b hb (mvl_fo.1 hf)
theorem RelL.take{w0:World}{L0:Nat→Lab}{N:Nat}{a:Act}{w:World}{L:Nat→Lab}(h:RelL S w0 L0 N σ a w L){s:Nat}{x:AV}(hs:get σ s=.av x)(hd:DOk S N d)(hsd:s≠d) :
  RelL S w0 L0 N ((σ.put s .none).put d (.av x)) (a.put (some d) (a.tmps.getD s undef)) w (mvl [s] d L):=by
 have hsN:=own_lt h hs (by simp)
 refine⟨h.defers,by simp [Act.put,h.size],h.keep,h.lok.mvl _ _,fun n hn=>?_,fun n hn=>?_,fun i hi=>(getD_set_other (hd.ne hi)).trans (h.fix i hi),h.glob⟩
 ·simp only [get,kill_eq,Act.put]
  by_cases hnd:d=n
  ·subst hnd
   rw [Nat.beq_refl,cond_true,getD_set_same (by rw [h.size];exact hd.lt)]
   have:=h.hold s hsN
   rw [hs] at this
   refine Rep.frame (Nat.le_refl _) rfl rfl rfl (fun b h1 _=>⟨mvl_sh h1,rfl⟩) this _ fun p hp=>?_
   cases hp
   exact⟨[d],rfl,fun b q hb=>⟨mvl_to hb,rfl⟩⟩
  ·rw [not_beq hnd,cond_false,getD_set_other hnd]
   by_cases hns:s=n
   ·subst hns;rw [Nat.beq_refl,cond_true];trivial
   ·rw [not_beq hns,cond_false]
    cases hdep:(get σ n).dep s with
    | true=>trivial
    | false =>
     rw [cond_false]
     cases hdep':(get σ n).dep d with
     | true=>trivial
     | false =>
      rw [cond_false]
      refine Hold.relab (good:=fun t=>t≠d∧t≠s) (Nat.le_refl _) rfl rfl rfl (fun b h1 _=>⟨mvl_sh h1,rfl⟩) (fun b t q h1 h2=>⟨mvl_keep h1 h2.1 ?_,rfl⟩)
       (fun s' hs'=>getD_set_other (fun e=>hs'.1 e.symm)) ⟨fun e=>hnd e.symm,fun e=>hns e.symm⟩ (fun s' hs'=>⟨fun e=>?_,fun e=>?_⟩) (h.hold n hn)
      ·simp only [strip,not_beq (fun e=>h2.2 e.symm:s≠t),cond_false]
      ·subst e;rw [hdep'] at hs';cases hs'
      ·subst e;rw [hdep] at hs';cases hs'
 ·simp only [get,kill_eq]
  rw [not_beq (by have:=hd.lt;omega),cond_false,not_beq (by omega),cond_false]
  have:=h.out n hn
  rw [this];rfl
theorem s_asgR{t s:Nat}{x:AV}(ht:get σ t=.ref s)(hs:get σ s=.av x)(hsd:Nat.beq s d=false):Step S ⟨some d,.assign (.tmp t),ty,pos,aft,g⟩ σ ((σ.put s .none).put d (.av x)):=by
 intro w0 L0 N a w hN ⟨L,h⟩
 have hh:=h.hold t (own_lt h ht (by simp))
 rw [ht] at hh
 simp only [Hold] at hh
 refine⟨a.eval (.tmp t),fun w' _=>by simp [execOp],mvl [s] d L,?_⟩
 have:=h.take hs (hN d rfl) (of_not_beq hsd)
 simp only [Act.eval]
 rw [hh];exact this
theorem s_asgO{s:Nat}{x:AV}(hs:get σ s=.av x)(hsd:Nat.beq s d=false):Step S ⟨some d,.assign (.tmp s),ty,pos,aft,g⟩ σ ((σ.put s .none).put d (.av x)):=by
 intro w0 L0 N a w hN ⟨L,h⟩
 exact⟨a.eval (.tmp s),fun w' _=>by simp [execOp],_,h.take hs (hN d rfl) (of_not_beq hsd)⟩
/-! ### tuples -/
def tupAt(σ:St):Operand→Option (Nat×List AV)
 | .tmp t=>match get σ t with
  | .av (.tup vs)=>some (t,vs)
  | .ref s=>match get σ s with
   | .av (.tup vs)=>some (s,vs)
   | _=>none
  | _=>none
 | _=>none
theorem tupAt_spec{x:Operand}{s:Nat}{vs:List AV}(h:tupAt σ x=some (s,vs)){w0:World}{L0:Nat→Lab}{N:Nat}{a:Act}{w:World}{L:Nat→Lab}(hR:RelL S w0 L0 N σ a w L) :
  get σ s=.av (.tup vs)∧a.eval x=a.tmps.getD s undef∧∃ us:List Value,a.tmps.getD s undef=.tuple us.toArray∧us.length=vs.length∧∀ i y v,vs[i]?=some y→us[i]?=some v→Rep L w (some [s,i]) y v:=by
 have key:get σ s=.av (.tup vs)∧a.eval x=a.tmps.getD s undef:=by
  cases x with
  | tmp t =>
   simp only [tupAt] at h
   cases ht:get σ t with
   | av y =>
    rw [ht] at h
    cases y<;>first|(simp only [Option.some.injEq,Prod.mk.injEq] at h;obtain⟨rfl,rfl⟩:=h;exact⟨ht,rfl⟩)|cases h
   | ref s' =>
    rw [ht] at h
    simp only at h
    cases hs':get σ s' with
    | av y =>
     rw [hs'] at h
     cases y<;>first|(simp only [Option.some.injEq,Prod.mk.injEq] at h;obtain⟨rfl,rfl⟩:=h;refine⟨hs',?_⟩;have:=hR.hold t (own_lt hR ht (by simp));rw [ht] at this;exact this)|cases h
    | _=>rw [hs'] at h;cases h
   | _=>rw [ht] at h;cases h
  | _=>cases h
 refine⟨key.1,key.2,?_⟩
 have:=hR.hold s (own_lt hR key.1 (by simp))
 rw [key.1] at this
 simp only [Hold] at this
 generalize a.tmps.getD s undef=v at this
 cases this with
 | tup hl h=>exact⟨_,rfl,hl,h⟩
theorem s_extP{x:Operand}{s:Nat}{vs:List AV}{i:Nat}{y:AV}(hx:tupAt σ x=some (s,vs))(hy:vs[i]?=some y)(hp:y.isOwn=false):Step S ⟨some d,.extract x i,ty,pos,aft,g⟩ σ (σ.put d (.av y)):=by
 intro w0 L0 N a w hN ⟨L,hR⟩
 obtain⟨_,h2,us,h3,h4,h5⟩:=tupAt_spec hx hR
 have hi:i<us.length:=by rw [h4];exact(List.getElem?_eq_some_iff.1 hy).1
 have hu:=h5 i y us[i] hy (List.getElem?_eq_getElem hi)
 exact⟨us[i],fun w' _=>by simp [execOp,h2,h3,Instr.extract,hi],Rel.putPlain (n:=d) hR (hN d rfl) (by simp [TV.plain,hp]) rfl (Rep.replace hu hp)⟩
theorem s_extO{x:Operand}{s:Nat}{vs:List AV}{i:Nat}{y:AV}(hx:tupAt σ x=some (s,vs))(hy:vs[i]?=some y)(hsd:Nat.beq s d=false):Step S ⟨some d,.extract x i,ty,pos,aft,g⟩ σ ((σ.upd false s (.av (.tup (vs.set i .dead)))).put d (.av y)):=by
 intro w0 L0 N a w hN ⟨L,hR⟩
 have hdN:=hN d rfl
 have hne:=of_not_beq hsd
 obtain⟨h1,h2,us,h3,h4,h5⟩:=tupAt_spec hx hR
 have hi:i<us.length:=by rw [h4];exact(List.getElem?_eq_some_iff.1 hy).1
 have hu:=h5 i y us[i] hy (List.getElem?_eq_getElem hi)
 refine⟨us[i],fun w' _=>by simp [execOp,h2,h3,Instr.extract,hi],mvl [s,i] d L,hR.defers,by simp [Act.put,hR.size],hR.keep,hR.lok.mvl _ _,fun n hn=>?_,fun n hn=>?_,fun i hi=>(getD_set_other (hdN.ne hi)).trans (hR.fix i hi),hR.glob⟩
 ·simp only [get,kill_eq,Act.put]
  by_cases hnd:d=n
  ·subst hnd
   rw [Nat.beq_refl,cond_true,getD_set_same (by rw [hR.size];exact hdN.lt)]
   refine Rep.frame (Nat.le_refl _) rfl rfl rfl (fun b h1 _=>⟨mvl_sh h1,rfl⟩) hu _ fun p hp=>?_
   cases hp
   exact⟨[d],rfl,fun b q hb=>⟨mvl_to hb,rfl⟩⟩
  ·rw [not_beq hnd,cond_false,getD_set_other hnd]
   by_cases hns:s=n
   ·subst hns
    rw [Nat.beq_refl,cond_true]
    simp only [TV.dep,cond_false,Hold]
    rw [h3]
    refine .tup (by simp [h4]) fun k z v hz hv=>?_
    rw [List.getElem?_set] at hz
    by_cases hik:i=k
    ·subst hik
     rw [if_pos rfl] at hz
     split at hz
     ·simp only [Option.some.injEq] at hz;subst hz;exact .dead
     ·cases hz
    ·rw [if_neg hik] at hz
     refine Rep.frame (Nat.le_refl _) rfl rfl rfl (fun b h1 _=>⟨mvl_sh h1,rfl⟩) (h5 k z v hz hv) _ fun p hp=>?_
     cases hp
     exact⟨[s,k],rfl,fun b q hb=>⟨mvl_keep hb hne (by simp [strip,Nat.beq_refl,not_beq hik]),rfl⟩⟩
   ·rw [not_beq hns,cond_false]
    have hh:=hR.hold n hn
    cases hdep:((get σ n).stale false s).dep d with
    | true=>trivial
    | false =>
     rw [cond_false]
     have key:∀ tv:TV,tv.dep s=false→tv.dep d=false→Hold L w a.tmps n tv (a.tmps.getD n undef)→Hold (mvl [s,i] d L) w (a.tmps.setIfInBounds d us[i]) n tv (a.tmps.getD n undef):=fun tv hd1 hd2 hh =>
      Hold.relab (good:=fun t=>t≠d∧t≠s) (Nat.le_refl _) rfl rfl rfl (fun b h1 _=>⟨mvl_sh h1,rfl⟩) (fun b t q h1 h2=>⟨mvl_keep h1 h2.1 (by simp only [strip,not_beq (fun e=>h2.2 e.symm:s≠t),cond_false]),rfl⟩)
       (fun s' hs'=>getD_set_other (fun e=>hs'.1 e.symm)) ⟨fun e=>hnd e.symm,fun e=>hns e.symm⟩ (fun s' hs'=>⟨fun e=>(by subst e;rw [hd2] at hs';cases hs'),fun e=>(by subst e;rw [hd1] at hs';cases hs')⟩) hh
     cases htv:get σ n with
     | none=>trivial
     | av x=>rw [htv] at hh;exact key _ rfl rfl hh
     | ref s' =>
      rw [htv] at hh hdep
      simp only [Hold,TV.stale] at hh ⊢
      rw [getD_set_other (fun e=>of_not_beq hdep e.symm)];exact hh
     | rref s' r y' =>
      rw [htv] at hh hdep
      simp only [TV.stale] at hdep ⊢
      cases hb:Nat.beq s' s with
      | true=>trivial
      | false=>rw [hb] at hdep;exact key _ hb hdep hh
     | ptr s' r c y' =>
      rw [htv] at hh hdep
      simp only [TV.stale] at hdep ⊢
      cases hb:Nat.beq s' s with
      | true =>
       rw [hb] at hdep
       have:=Nat.eq_of_beq_eq_true hb
       subst this
       obtain⟨b,hl,hv,_⟩:=hh
       exact⟨b,mvl_keep hl hne (by simp [strip,Nat.beq_refl]),hv,fun h=>absurd rfl h⟩
      | false=>rw [hb] at hdep;exact key _ hb hdep hh
     | fpt s' o y' =>
      rw [htv] at hh hdep
      simp only [TV.stale] at hdep ⊢
      cases hb:Nat.beq s' s with
      | true =>
       rw [hb] at hdep
       have:=Nat.eq_of_beq_eq_true hb
       subst this
       obtain⟨b,hl,hv,_⟩:=hh
       exact⟨b,mvl_keep hl hne (by simp [strip,Nat.beq_refl]),hv,fun h=>absurd rfl h⟩
      | false=>rw [hb] at hdep;exact key _ hb hdep hh
     | rptr s' r j y' =>
      rw [htv] at hh hdep
      simp only [TV.stale] at hdep ⊢
      cases hb:Nat.beq s' s with
      | true=>trivial
      | false=>rw [hb] at hdep;exact key _ hb hdep hh
     | dptr x=>rw [htv] at hh;exact key _ rfl rfl hh
     | bdp s' x =>
      rw [htv] at hh hdep
      simp only [TV.stale] at hdep ⊢
      cases hb:Nat.beq s' s with
      | true=>trivial
      | false=>rw [hb] at hdep;exact key _ hb hdep hh
     | bor s' x =>
      rw [htv] at hh hdep
      simp only [TV.stale] at hdep ⊢
      cases hb:Nat.beq s' s with
      | true=>trivial
      | false=>rw [hb] at hdep;exact key _ hb hdep hh
     | clo f caps =>
      rw [htv] at hh hdep
      simp only [TV.stale] at hdep ⊢
      simp only [Hold] at hh ⊢
      rw [hh]
      congr 2
      refine List.map_congr_left fun s' hs'=>?_
      rw [getD_set_other]
      intro e
      subst e
      simp only [TV.dep,List.any_eq_false] at hdep
      exact hdep d hs' (Nat.beq_refl d)
 ·simp only [get,kill_eq]
  rw [not_beq (show d≠n by have:=hdN.lt;omega),cond_false]
  by_cases hns:s=n
  ·rw [← hns] at hn;exact absurd (own_lt hR h1 (by simp)) (Nat.not_lt.2 hn)
  ·rw [not_beq hns,cond_false,hR.out n hn];rfl
end
end FM
