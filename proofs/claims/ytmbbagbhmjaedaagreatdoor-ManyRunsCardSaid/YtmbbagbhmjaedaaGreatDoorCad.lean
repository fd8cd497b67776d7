/- Part of the proof. -/
import Derived.Test.YtmbbagbhmjaedaaGreatDoorCac
set_option linter.all false
namespace FM
open Go Go.RowKit
variable {x y:Operand}{t t2 N s c e sz cA i:Nat}{L L0:Nat->aO}{a b:Int}{w w0:World}{ti:TI}{z xs vs:List AV}{P:Program}
def kC(n:Int):Prop:=-9223372036854775808<=n/\n<=9223372036854775807
theorem kC.wrap{n:Int}(h:kC n):IntKind.i64.wrap n=n:=IntWalk.i64_in n h
section
variable {S:Sys} {σ:St} {d:Nat} {ty:Nat} {pos:String} {aft:Array Edge} {g:Option (Nat×Bool)}
theorem cU{y:AV}{a:Act}(h:RelL S w0 L0 N σ a w L)(hx:ov σ x=.av y):∃ n,Rep L w (some [n]) y (a.eval x) :=
 let ⟨n,hn,_⟩:=aM h hx ag
 ⟨n,hn⟩
theorem eu{n:Int}{a:Act}(h:RelL S w0 L0 N σ a w L)(hx:ov σ x=.av (.int n)):a.eval x=.int .i64 n:=by
 obtain⟨m,hm⟩:=cU h hx;generalize a.eval x=v at hm;cases hm;rfl
theorem qv{b:Bool}{a:Act}(h:RelL S w0 L0 N σ a w L)(hx:ov σ x=.av (.bool b)):a.eval x=.bool b:=by
 obtain⟨m,hm⟩:=cU h hx;generalize a.eval x=v at hm;cases hm;rfl
theorem kD{s:List UInt8}{a:Act}(h:RelL S w0 L0 N σ a w L)(hx:ov σ x=.av (.str s)):a.eval x=.string ⟨s.toArray⟩:=by
 obtain⟨m,hm⟩:=cU h hx;generalize a.eval x=v at hm;cases hm;rfl
theorem vV{u:Value}{a:Act}(h:RelL S w0 L0 N σ a w L)(hx:ov σ x=.av (.val u)):a.eval x=u:=by
 obtain⟨m,hm⟩:=cU h hx;generalize a.eval x=v at hm;cases hm;rfl
theorem Bl{a:Act}(h:RelL S w0 L0 N σ a w L)(hx:ov σ x=.av .nil):a.eval x=.slice none 0 0:=by
 obtain⟨m,hm⟩:=cU h hx;generalize a.eval x=v at hm;cases hm;rfl
theorem step_val{op:Op}{y:AV}(hy:y.aW=false)(h:∀ w0 L0 N a w L,RelL S w0 L0 N σ a w L->∃ v,(∀ w',Ext w w'->(execOp a.eval ⟨some d,op,ty,pos,aft,g⟩).run S.P w'=.ok (.value v) w')/\Rep L w none y v):
  Step S ⟨some d,op,ty,pos,aft,g⟩ σ (σ.put d (.av y)):=by
 intro w0 L0 N a w hN ⟨L,hr⟩;obtain⟨v,h1,h2⟩:=h _ _ _ _ _ _ hr;exact⟨v,h1,Rel.aT (n:=d) hr (hN d rfl) (by simp [TV.plain,hy]) rfl (h2.any _)⟩
theorem s_bin2{op:BinOp}{t t2:Nat}{r:AV}(hx:ov σ x=.av (.int a))(hy:ov σ y=.av (.int b))(hr:r.aW=false)
  (h:∃ v,(∀ (L:Nat->aO) (w:World),Rep L w none r v)/\∀ w,(do eqGuard op t x y (.int .i64 a) (.int .i64 b);binOp op t (.int .i64 a) (.int .i64 b):Sem Value).run S.P w=.ok v w) :
  Step S ⟨some d,.binOp op t x y t2,ty,pos,aft,g⟩ σ (σ.put d (.av r)):=by
 obtain⟨v,h1,h2⟩:=h;refine step_val hr fun w0 L0 N c w L hR=>⟨v,fun w' _=>?_,h1 L w⟩;have e:=h2 w';simp only [execOp,eu hR hx,eu hR hy] at e ⊢;simp only [Sem.run_bind] at e ⊢;rw [e];rfl
theorem Tr(hx:ov σ x=.av (.int a))(hy:ov σ y=.av (.int b))(hr:kC (a+b)):Step S ⟨some d,.binOp .add t x y t2,ty,pos,aft,g⟩ σ (σ.put d (.av (.int (a+b)))) :=
 s_bin2 hx hy rfl ⟨_,fun _ _=>.int,fun w=>by simp [eqGuard,binOp,Op.intArith,hr.wrap]⟩
theorem Tt(hx:ov σ x=.av (.int a))(hy:ov σ y=.av (.int b))(hr:kC (a-b)):Step S ⟨some d,.binOp .sub t x y t2,ty,pos,aft,g⟩ σ (σ.put d (.av (.int (a-b)))) :=
 s_bin2 hx hy rfl ⟨_,fun _ _=>.int,fun w=>by simp [eqGuard,binOp,Op.intArith,hr.wrap]⟩
theorem NI(hx:ov σ x=.av (.int a))(hy:ov σ y=.av (.int b))(hr:kC (a*b)):Step S ⟨some d,.binOp .mul t x y t2,ty,pos,aft,g⟩ σ (σ.put d (.av (.int (a*b)))) :=
 s_bin2 hx hy rfl ⟨_,fun _ _=>.int,fun w=>by simp [eqGuard,binOp,Op.intArith,hr.wrap]⟩
theorem NJ(hx:ov σ x=.av (.int a))(hy:ov σ y=.av (.int b))(h0:b≠0)(hr:kC (a.tdiv b)):Step S ⟨some d,.binOp .quo t x y t2,ty,pos,aft,g⟩ σ (σ.put d (.av (.int (a.tdiv b)))) :=
 s_bin2 hx hy rfl ⟨_,fun _ _=>.int,fun w=>by simp [eqGuard,binOp,Op.intDiv,hr.wrap,h0]⟩
theorem NK(hx:ov σ x=.av (.int a))(hy:ov σ y=.av (.int b))(h0:b≠0):Step S ⟨some d,.binOp .rem t x y t2,ty,pos,aft,g⟩ σ (σ.put d (.av (.int (a.tmod b)))) :=
 s_bin2 hx hy rfl ⟨_,fun _ _=>.int,fun w=>by simp [eqGuard,binOp,Op.intDiv,h0]⟩
theorem Tu(hx:ov σ x=.av (.int a))(hy:ov σ y=.av (.int b)):Step S ⟨some d,.binOp .lss t x y t2,ty,pos,aft,g⟩ σ (σ.put d (.av (.bool (decide (a<b))))) :=
 s_bin2 hx hy rfl ⟨_,fun _ _=>.bool,fun w=>by simp [eqGuard,binOp,Op.intCmp]⟩
theorem Tv(hx:ov σ x=.av (.int a))(hy:ov σ y=.av (.int b)):Step S ⟨some d,.binOp .leq t x y t2,ty,pos,aft,g⟩ σ (σ.put d (.av (.bool (decide (a<=b))))) :=
 s_bin2 hx hy rfl ⟨_,fun _ _=>.bool,fun w=>by simp [eqGuard,binOp,Op.intCmp]⟩
theorem Tw(hx:ov σ x=.av (.int a))(hy:ov σ y=.av (.int b)):Step S ⟨some d,.binOp .gtr t x y t2,ty,pos,aft,g⟩ σ (σ.put d (.av (.bool (decide (b<a))))) :=
 s_bin2 hx hy rfl ⟨_,fun _ _=>.bool,fun w=>by simp [eqGuard,binOp,Op.intCmp]⟩
theorem Tx(hx:ov σ x=.av (.int a))(hy:ov σ y=.av (.int b)):Step S ⟨some d,.binOp .geq t x y t2,ty,pos,aft,g⟩ σ (σ.put d (.av (.bool (decide (b<=a))))) :=
 s_bin2 hx hy rfl ⟨_,fun _ _=>.bool,fun w=>by simp [eqGuard,binOp,Op.intCmp]⟩
theorem Tz(hx:ov σ x=.av (.int a))(hy:ov σ y=.av (.int b)):Step S ⟨some d,.binOp .eql t x y t2,ty,pos,aft,g⟩ σ (σ.put d (.av (.bool (decide (a=b))))) :=
 s_bin2 hx hy rfl ⟨_,fun _ _=>.bool,fun w=>by simp [eqGuard,binOp,Op.intCmp];rw [aiG];simp⟩
theorem NL(hx:ov σ x=.av (.int a))(hy:ov σ y=.av (.int b)):Step S ⟨some d,.binOp .neq t x y t2,ty,pos,aft,g⟩ σ (σ.put d (.av (.bool (decide (a≠b))))) :=
 s_bin2 hx hy rfl ⟨_,fun _ _=>.bool,fun w=>by simp [eqGuard,binOp,Op.intCmp];rw [aiG];simp⟩
theorem Bm(a b:Nat)(ha:a<9223372036854775808):IntKind.i64.wrap (((BitVec.ofInt 64 (a:Int)) &&& (BitVec.ofInt 64 (b:Int))).toNat:Int)=((a &&& b:Nat):Int):=by
 have h1:(BitVec.ofInt 64 (a:Int)).toNat=a:=by simp;omega
 have h2:a &&& b<=a:=Nat.and_le_left;rw [BitVec.toNat_and,h1];have h3:a &&& (BitVec.ofInt 64 (b:Int)).toNat=a &&& b:=by
  have:(BitVec.ofInt 64 (b:Int)).toNat=b%2 ^ 64:=ag;rw [this];apply Nat.eq_of_testBit_eq;intro i;rw [Nat.testBit_and,Nat.testBit_and,Nat.testBit_mod_two_pow];by_cases hi:i<64
  ·simp [hi]
  ·have:a.testBit i=false:=Nat.testBit_lt_two_pow (ahv ha (by
    calc 9223372036854775808=2 ^ 63:=af
     _<=2 ^ i:=Nat.pow_le_pow_right af ae))
   simp [this]
 rw [h3];exact IntWalk.i64_in _ ae
theorem NM(hx:ov σ x=.av (.int a))(hy:ov σ y=.av (.int b))(h0:0<=a)(h1:0<=b)(hr:kC a):Step S ⟨some d,.binOp .and t x y t2,ty,pos,aft,g⟩ σ (σ.put d (.av (.int ((a.toNat &&& b.toNat:Nat):Int)))) :=
 s_bin2 hx hy rfl ⟨_,fun _ _=>.int,fun w=>by
  obtain⟨n,rfl⟩:=aiI h0
  obtain⟨m,rfl⟩:=aiI h1
  have:=Bm n m (by unfold kC at hr;omega)
  simp only [eqGuard,binOp,Op.intBits,ahN]
  rw [<- this];rfl⟩
theorem TA{b:Bool}(hx:ov σ x=.av (.bool b)):Step S ⟨some d,.unOp .not t x,ty,pos,aft,g⟩ σ (σ.put d (.av (.bool (!b)))) :=
 step_val rfl fun w0 L0 N c w L hR=>⟨_,fun w' _=>by
  simp only [execOp,qv hR hx,Op.unary];rfl,.bool⟩
theorem Lh{c:Operand}{tv:TV}(hc:ov σ c=.av (.bool true))(hx:ov σ x=tv)(hp:tv.plain=true)(hd:tv.dep d=false):Step S ⟨some d,.pick c x y,ty,pos,aft,g⟩ σ (σ.put d tv):=by
 intro w0 L0 N a w hN ⟨L,h⟩;obtain⟨n,hn,_⟩:=aM h hx (ni hp);exact⟨a.eval x,fun w' _=>by simp only [execOp,qv h hc];rfl,Rel.aT h (hN d rfl) hp hd hn⟩
theorem Li{c:Operand}{tv:TV}(hc:ov σ c=.av (.bool false))(hx:ov σ y=tv)(hp:tv.plain=true)(hd:tv.dep d=false):Step S ⟨some d,.pick c x y,ty,pos,aft,g⟩ σ (σ.put d tv):=by
 intro w0 L0 N a w hN ⟨L,h⟩;obtain⟨n,hn,_⟩:=aM h hx (ni hp);exact⟨a.eval y,fun w' _=>by simp only [execOp,qv h hc];rfl,Rel.aT h (hN d rfl) hp hd hn⟩
def rd(σ:St):TV->AV
 | .av x=>x
 | .ref s=>match get σ s with
  | .av x=>x
  | _=>.dead
 | .rref _ _ y=>y
 | .bor _ x=>x
 | _=>.dead
theorem yo{y:AV}{a:Act}(h:RelL S w0 L0 N σ a w L)(hx:rd σ (ov σ x)=y)(hy:y≠.dead):
  ∃ L' π,(∀ b p,L' b=.my p->L b=.my p)/\(∀ b,b<w.heap.size->L b=.sh->L' b=.sh)/\Rep L' w π y (a.eval x):=by
 cases Hi:ov σ x with
 | av z =>
  rw [Hi] at hx;simp only [rd] at hx;subst hx;obtain⟨n,hn⟩:=cU h Hi;exact⟨L,_,fun _ _ h=>h,fun _ _ h=>h,hn⟩
 | ref s =>
  rw [Hi] at hx;simp only [rd] at hx;obtain⟨n,hn,_⟩:=aM h Hi ag;simp only [Hold] at hn
  cases hs:get σ s with
  | av z =>
   rw [hs] at hx;simp only at hx;subst hx;have:=h.hold s (aJ h hs ag);rw [hs] at this;exact⟨L,_,fun _ _ h=>h,fun _ _ h=>h,by rw [hn];exact this⟩
  | _=>rw [hs] at hx;exact absurd hx.symm hy
 | rref s i z =>
  rw [Hi] at hx;simp only [rd] at hx;subst hx;obtain⟨n,⟨b,hb,aH,hr⟩,_⟩:=aM h Hi ag;exact⟨L,_,fun _ _ h=>h,fun _ _ h=>h,hr hy⟩
 | bor s z =>
  rw [Hi] at hx;simp only [rd] at hx;subst hx;obtain⟨n,hn,_⟩:=aM h Hi ag;exact⟨_,_,fun b p hb=>gM hb,fun b _ hb=>gN hb,hn⟩
 | _=>rw [Hi] at hx;exact absurd hx.symm hy
theorem vW{L:Nat->aO}{w:World}{π:Option (List Nat)}{o:Bool}{c:Nat}{xs:List AV}{v:Value}(h:Rep L w π (.sl o c xs) v):∃ a cap,v=.slice a xs.length cap:=by
 cases h with
 | slE h=>exact⟨_,_,rfl⟩
 | slS=>exact⟨_,_,rfl⟩
 | slO=>exact⟨_,_,rfl⟩
theorem Hj{o:Bool}(hT:S.T t=some ⟨.slice e,sz,cA,z⟩)(hx:rd σ (ov σ x)=.sl o c xs):
  Step S ⟨some d,.call ⟨.builtin .len,#[x],#[t]⟩,ty,pos,aft,g⟩ σ (σ.put d (.av (.int (xs.length:Nat)))) :=
 step_val rfl fun w0 L0 N c w L hR=>⟨.int .i64 (xs.length:Nat),fun w' _=>by
  obtain⟨L',π,_,_,h⟩:=yo hR hx ag
  obtain⟨a,cap,hv⟩:=vW h
  obtain⟨dd,hd,he⟩:=(S.ok t _ hT).desc
  simp only [TK.er] at he
  subst he
  simp [execOp,resolve,invoke,builtin,Builtin.len_,hv,run_underlying hd,goInt],.int⟩
theorem Ph{α:Type}{f:α->AV}{l:List α}{o:Bool}(hT:S.T t=some ⟨.slice e,sz,cA,z⟩)(hx:rd σ (ov σ x)=.sl o c (l.map f)):
  Step S ⟨some d,.call ⟨.builtin .len,#[x],#[t]⟩,ty,pos,aft,g⟩ σ (σ.put d (.av (.int (l.length:Nat)))):=by
 have:=Hj (d:=d) (ty:=ty) (pos:=pos) (aft:=aft) (g:=g) hT hx
 rwa [ahu] at this
theorem Pj(hT:S.T t=some ⟨.slice e,sz,cA,z⟩)(hx:ov σ x=.av .nil):
  Step S ⟨some d,.call ⟨.builtin .len,#[x],#[t]⟩,ty,pos,aft,g⟩ σ (σ.put d (.av (.int 0))) :=
 step_val rfl fun w0 L0 N c w L hR=>⟨.int .i64 0,fun w' _=>by
  obtain⟨dd,hd,he⟩:=(S.ok t _ hT).desc
  simp only [TK.er] at he
  subst he
  simp [execOp,resolve,invoke,builtin,Builtin.len_,Bl hR hx,run_underlying hd,goInt],.int⟩
theorem Hk{s:List UInt8}(hT:S.T t=some ⟨.str,sz,cA,z⟩)(hx:ov σ x=.av (.str s)):
  Step S ⟨some d,.call ⟨.builtin .len,#[x],#[t]⟩,ty,pos,aft,g⟩ σ (σ.put d (.av (.int (s.length:Nat)))) :=
 step_val rfl fun w0 L0 N c w L hR=>⟨.int .i64 (s.length:Nat),fun w' _=>by
  obtain⟨dd,hd,he⟩:=(S.ok t _ hT).desc
  simp only [TK.er] at he
  subst he
  have:ByteArray.size ⟨s.toArray⟩=s.length:=by simp [ByteArray.size]
  simp [execOp,resolve,invoke,builtin,Builtin.len_,kD hR hx,run_underlying hd,goInt,this],.int⟩
theorem addr_add(b o n:Nat):(⟨b,o,none⟩:Addr).add n=⟨b,o+n,none⟩:=by unfold Addr.add;split<;>simp_all
theorem iw{b off len cap:Nat}{i:Int}(ht:P.underlying t=some (.slice e))(hs:∃ f,P.info? e=some f/\f.size=c)(h0:0<=i)(h1:i.toNat<len)(w:World):
  (Instr.indexAt t (.slice (some ⟨b,off,none⟩) len cap) (.int .i64 i)).run P w=.ok (.pointer (some ⟨b,off+i.toNat*c,none⟩)) w:=by
 obtain⟨f,hf,rfl⟩:=hs;have h2:0<=i/\i<(len:Int):=ae;simp [Instr.indexAt,asIntOf,run_underlying ht,h2,Go.sizeOf,typeInfo,hf,addr_add]
theorem tT.slice{P:Program}{t e sz cA:Nat}{z:List AV}(h:tT P t ⟨.slice e,sz,cA,z⟩):P.underlying t=some (.slice e):=by
 obtain⟨dd,hd,he⟩:=h.desc;simp only [TK.er] at he;subst he;exact hd
theorem tT.size{P:Program}{t:Nat}{i:TI}(h:tT P t i):∃ f,P.info? t=some f/\f.size=i.size :=
 let ⟨f,_,h1,h2,_⟩:=h.info;⟨f,h1,h2⟩
theorem gQ{π:Option (List Nat)}{o:Bool}{v:Value}(h:Rep L w π (.sl o c xs) v){y:AV}(hy:xs[i]?=some y):
    ∃ b off cap,v=.slice (some ⟨b,off,none⟩) xs.length cap/\b<w.heap.size/\i<xs.length /\
      ((o=false/\L b=.sh/\∀ j z,y.cells[j]?=some z->∃ u,w.cell? ⟨b,off+i*c+j,none⟩=some u/\Rep L w none z u) ∨
       (o=true/\off=0/\∃ p,π=some p/\L b=.my p/\∀ j z,y.cells[j]?=some z->∃ u,w.cell? ⟨b,off+i*c+j,none⟩=some u/\Rep L w (some (p++[i*c+j])) z u)):=by
  have hi:i<xs.length:=(aho.1 hy).1
  cases h with
  | slE h=>simp at hy
  | @slS _ c xs b off cap u bK hL hb hc aH hr =>
    refine⟨b,off,cap,rfl,hb,hi,.inl ⟨rfl,hL,fun j z hz=>?_⟩⟩;have hf:=flat_get hc hy hz;have hj:j<c:=by have:=(aho.1 hz).1;rw [hc y (ahH hy)] at this;exact this
    have aA:i*c+j<xs.length*c:=by
      have:=(aho.1 hf).1
      rwa [bh hc] at this
    exact⟨_,by rw [aix];exact aH _ aA,hr _ z hf⟩
  | @slO p c xs b cap arr e u hL hb bK bc hc aH hr =>
    refine⟨b,0,cap,rfl,(ahx.1 hb).1,hi,.inr ⟨rfl,rfl,p,rfl,hL,fun j z hz=>?_⟩⟩;have hf:=flat_get hc hy hz;have aA:i*c+j<xs.length*c:=by
      have:=(aho.1 hf).1
      rwa [bh hc] at this
    exact⟨_,by rw [ahR,cell_of_row w b _ arr e (0,0) hb];exact aH _ aA,hr _ z hf⟩
theorem Pk{i:Operand}{n:Int}{y:AV}(hx:ov σ x=.av (.sl false c xs))(hi:ov σ i=.av (.int n))(hT:S.T t=some ⟨.slice e,sz,cA,z⟩)(hE:S.T e=some ti)(hc:ti.size=c)
  (h0:0<=n) (hy:xs[n.toNat]?=some y):Step S ⟨some d,.indexAddr t x i,ty,pos,aft,g⟩ σ (σ.put d (.dptr y)):=by
 intro w0 L0 N a w hN ⟨L,hR⟩;obtain⟨m,hm⟩:=cU hR hx;obtain⟨b,off,cap,hv,hb,aA,⟨_,hL,bt⟩|⟨h,_⟩⟩:=gQ hm hy
 ·refine⟨.pointer (some ⟨b,off+n.toNat*c,none⟩),fun w' _=>?_,Rel.aT (n:=d) hR (hN d rfl) rfl rfl ⟨b,off+n.toNat*c,rfl,hL,hb,bt⟩⟩;subst hc;simp only [execOp,hv,eu hR hi,Sem.run_bind,iw (S.ok t _ hT).slice (S.ok e _ hE).size h0 aA];rfl
 ·cases h
theorem Pm{i:Operand}{n:Int}{y:AV}(hx:ov σ x=.ref s)(hs:get σ s=.av (.sl true c xs))(hi:ov σ i=.av (.int n))(hT:S.T t=some ⟨.slice e,sz,cA,z⟩)(hE:S.T e=some ti)(hc:ti.size=c)
  (h0:0<=n) (hy:xs[n.toNat]?=some y) (c8:Nat.beq s d=false):Step S ⟨some d,.indexAddr t x i,ty,pos,aft,g⟩ σ (σ.put d (.ptr s n.toNat c y)):=by
 intro w0 L0 N a w hN ⟨L,hR⟩;obtain⟨m,hm,_⟩:=aM hR hx ag;simp only [Hold] at hm;have hh:=hR.hold s (aJ hR hs ag);rw [hs,<-hm] at hh;obtain⟨b,off,cap,hv,hb,aA,⟨h,_⟩|⟨_,rfl,p,hp,hL,bt⟩⟩:=gQ hh hy
 ·cases h
 ·cases hp;refine⟨.pointer (some ⟨b,0+n.toNat*c,none⟩),fun w' _=>?_,Rel.aT (n:=d) hR (hN d rfl) rfl c8 ⟨b,hL,by rw [ahR],fun _ j z hz=>?_⟩⟩
  ·subst hc;simp only [execOp,hv,eu hR hi,Sem.run_bind,iw (S.ok t _ hT).slice (S.ok e _ hE).size h0 aA];rfl
  ·have:=bt j z hz
   rwa [ahR] at this
def AV.fits(ti:TI):AV->Bool
 | .agg cs=>ti.k.isAgg&&Nat.beq cs.length ti.size
 | _=>!ti.k.isAgg
theorem Hl(h:tT P t ti)(w:World):(isAgg t).run P w=.ok ti.k.isAgg w:=by
 obtain⟨dd,hd,he⟩:=h.desc;simp only [isAgg,Sem.run_bind,run_underlying hd,Result.andThen_ok]
 cases hk:ti.k with
 | plain =>
  rw [hk] at he;simp only [TK.er] at he;cases dd<;>first|rfl|exact he.elim
 | slice e=>rw [hk] at he;simp only [TK.er] at he;subst he;rfl
 | struct fs=>rw [hk] at he;simp only [TK.er] at he;obtain⟨fields,rfl,_⟩:=he;rfl
 | arr n e=>rw [hk] at he;simp only [TK.er] at he;subst he;rfl
 | str=>rw [hk] at he;simp only [TK.er] at he;subst he;rfl
 | int k=>rw [hk] at he;simp only [TK.er] at he;subst he;rfl
theorem ix(h:tT P t ti){y:AV}(hf:y.fits ti=true){b off:Nat}(us:List Value)(hl:us.length=y.cells.length)(hc:∀ (j:Nat) u,us[j]?=some u->w.cell? ⟨b,off+j,none⟩=some u):
  (loadVar t ⟨b,off,none⟩).run P w=.ok (match y with|.agg _=>.agg us.toArray|_=>us.headD undef) w:=by
 simp only [loadVar,Sem.run_bind,Hl h,Result.andThen_ok]
 cases y with
 | agg cs =>
  simp only [AV.fits,aht] at hf;obtain⟨f,hi,hs⟩:=h.size;have hlen:f.size=us.length:=by rw [hs,hl];exact(ahz hf.2).symm
  simp only [hf.1,if_true,Sem.run_bind,Go.sizeOf,typeInfo,run_program,Result.andThen_ok,hi,Sem.run_pure,hlen];have:=run_loadCells_list (P:=P) w ⟨b,off,none⟩ us (fun j v hv=>by rw [addr_add];exact hc j v hv);rw [this];rfl
 | _ =>
  simp only [AV.fits,Bool.not_eq_true'] at hf;simp only [hf]
  cases us with
  | nil=>simp [AV.cells] at hl
  | cons u us =>
   have:=hc 0 u rfl;rw [aib] at this;simp [run_load,this]
theorem vX{R:Nat->AV->Value->Prop}:∀ (cs:List AV) (k:Nat),(∀ j z,cs[j]?=some z->∃ u,R (k+j) z u)->∃ us:List Value,us.length=cs.length/\∀ j z u,cs[j]?=some z->us[j]?=some u->R (k+j) z u
 | [],_,_=>⟨[],rfl,fun j z u h=>by simp at h⟩
 | c::cs,k,h=>by
  obtain⟨u,hu⟩:=h 0 c rfl;obtain⟨us,hl,hr⟩:=vX cs (k+1) fun j z hz=>by
   obtain⟨u,hu⟩:=h (j+1) z (by simpa using hz);exact⟨u,by rwa [show k+1+j=k+(j+1) by omega]⟩
  refine⟨u::us,by simp [hl],fun j z u' hz qO=>?_⟩
  cases j with
  | zero=>simp only [ahq,ahp] at hz qO;subst hz;subst qO;exact hu
  | succ j=>simp only [ahP] at hz qO;have:=hr j z u' hz qO;rwa [show k+1+j=k+(j+1) by omega] at this
theorem dA(h:tT P t ti){y:AV}(hf:y.fits ti=true){b off:Nat}{L:Nat->aO}{π:Nat->Option (List Nat)}(hb:b<w.heap.size)(dJ:∀ cs,y=.agg cs->∀ (j:Nat) (z:AV),cs[j]?=some z->z.aW=false)
  (hc:∀ j z,y.cells[j]?=some z->∃ u,w.cell? ⟨b,off+j,none⟩=some u/\Rep L w (π j) z u) :
  ∃ v,(∀ w',Ext w w'->(loadVar t ⟨b,off,none⟩).run P w'=.ok v w')/\Rep L w (π 0) y v/\(y.cells=[y]->w.cell? ⟨b,off,none⟩=some v):=by
 obtain⟨us,hl,E9⟩:=vX (R:=fun j z u=>w.cell? ⟨b,off+j,none⟩=some u/\Rep L w (π j) z u) y.cells 0 (by simpa using hc);simp only [ahR] at E9;refine⟨_,fun w' e=>ix h hf us hl fun j u hu=>?_,?_,?_⟩
 ·have hj:j<y.cells.length:=by rw [<- hl];exact(aho.1 hu).1
  rw [cell_of_heap (e.block b hb)];exact(E9 j _ u (ahn hj) hu).1
 ·cases y with
  | agg cs =>
   exact .agg hl fun i x v hx hv=>Rep.replace (E9 i x v hx hv).2 (dJ cs rfl i x hx)
  | _ =>
   cases us with
   | nil=>simp [AV.cells] at hl
   | cons u us=>exact(E9 0 _ u rfl rfl).2
 ·intro h1
  cases us with
  | nil=>rw [h1] at hl;simp at hl
  | cons u us =>
   have:=(E9 0 y u (by rw [h1];rfl) rfl).1;rw [aib] at this
   cases y with
   | agg cs =>
    simp only [AV.cells] at h1;exfalso;have h2:SizeOf.sizeOf cs=SizeOf.sizeOf [AV.agg cs]:=congrArg SizeOf.sizeOf h1;simp at h2;omega
   | _=>exact this
def AV.fv:AV->Bool
 | .agg cs=>cs.all fun z=>!z.aW
 | _=>true
theorem cY{y:AV}(h:y.fv=true):∀ cs,y=.agg cs->∀ (j:Nat) (z:AV),cs[j]?=some z->z.aW=false:=by
 intro cs hy j z hz;subst hy;simp only [AV.fv,ahM,Bool.not_eq_true'] at h;exact h z (ahH hz)
theorem TB{y:AV}(hx:ov σ x=.dptr y)(hT:S.T t=some ti)(hf:y.fits ti=true)(hp:y.aW=false)(hn:y.fv=true):Step S ⟨some d,.load t x,ty,pos,aft,g⟩ σ (σ.put d (.av y)) :=
 step_val hp fun w0 L0 N c w L hR=>by
  obtain⟨m,⟨b,off,hv,hL,hb,hc⟩,_⟩:=aM hR hx ag;obtain⟨v,h1,h2,_⟩:=dA (S.ok t ti hT) hf hb (cY hn) (π:=fun _=>none) hc;exact⟨v,fun w' e=>by simp only [execOp,hv,Instr.loadAt,Instr.sureAddr];simp [h1 w' e],h2⟩
theorem TC{y:AV}(hx:ov σ x=.ptr s i c y)(hT:S.T t=some ti)(hf:y.fits ti=true)(hp:y.aW=false)(hn:y.fv=true)(hy:y≠.dead):Step S ⟨some d,.load t x,ty,pos,aft,g⟩ σ (σ.put d (.av y)) :=
 step_val hp fun w0 L0 N a w L hR=>by
  obtain⟨m,⟨b,hL,hv,hc⟩,_⟩:=aM hR hx ag;obtain⟨v,h1,h2,_⟩:=dA (S.ok t ti hT) hf (hR.lok.lt b _ hL) (cY hn) (π:=fun j=>some [s,i*c+j]) (hc hy);exact⟨v,fun w' e=>by simp only [execOp,hv,Instr.loadAt,Instr.sureAddr];simp [h1 w' e],Rep.replace h2 hp⟩
theorem TD{o:Nat}{y:AV}(hx:ov σ x=.fpt s o y)(hT:S.T t=some ti)(hf:y.fits ti=true)(hp:y.aW=false)(hn:y.fv=true)(hy:y≠.dead):Step S ⟨some d,.load t x,ty,pos,aft,g⟩ σ (σ.put d (.av y)) :=
 step_val hp fun w0 L0 N a w L hR=>by
  obtain⟨m,⟨b,hL,hv,hc⟩,_⟩:=aM hR hx ag;obtain⟨v,h1,h2,_⟩:=dA (S.ok t ti hT) hf (hR.lok.lt b _ hL) (cY hn) (π:=fun j=>some [s,o+j]) (hc hy);exact⟨v,fun w' e=>by simp only [execOp,hv,Instr.loadAt,Instr.sureAddr];simp [h1 w' e],Rep.replace h2 hp⟩
theorem Rep.aR{L L':Nat->aO}{w w':World}{π mv:Option (List Nat)}{x:AV}{v:Value}(h:Rep L w π x v)(hx:x.aR=true):Rep L' w' mv x v:=by
 cases h<;>first|exact .int|exact .bool|exact .str|exact .val|exact .nil|(simp [AV.aR] at hx)
def strip:List Nat->List Nat->Option (List Nat)
 | [],q=>some q
 | a::P,b::q=>bif Nat.beq a b then strip P q else none
 | _::_,[]=>none
theorem dq:∀ {P p q:List Nat},strip P p=some q↔p=P++q
 | [],p,q=>by simp [strip]
 | a::P,[],q=>by simp [strip]
 | a::P,b::p,q=>by
  simp only [strip,aiO,List.cons.injEq]
  cases h:Nat.beq a b with
  | true=>rw [cond_true,dq];have:=ahz h;simp [this]
  | false=>rw [cond_false];have:=aC h;simp;intro e;exact absurd e.symm this
def lZ(P:List Nat)(d:Nat)(L:Nat->aO):Nat->aO:=fun b =>
 match L b with
 | .my p=>match strip P p with
  | some q=>.my (d::q)
  | none=>(aO.my p).bm d
 | l=>l
theorem qQ{P:List Nat}{b:Nat}{q:List Nat}(h:L b=.my (P++q)):lZ P d L b=.my (d::q):=by
 simp only [lZ,h,dq.2 (rfl:P++q=P++q)]
theorem cC{P:List Nat}{b:Nat}{q:List Nat}(h:L b=.my (t::q))(ht:t≠d)(hP:strip P (t::q)=none):lZ P d L b=.my (t::q):=by
 simp only [lZ,h,hP,aO.bm,au ht,cond_false]
theorem ew{P:List Nat}{b:Nat}(h:L b=.sh):lZ P d L b=.sh:=by simp only [lZ,h]
theorem qR{P:List Nat}{d:Nat}{L:Nat->aO}{b:Nat}{p:List Nat}(h:lZ P d L b=.my p):(∃ q,L b=.my (P++q)/\p=d::q)∨(L b=.my p/\strip P p=none/\p.head?≠some d):=by
 simp only [lZ] at h
 cases hL:L b with
 | my p' =>
  rw [hL] at h;simp only at h
  cases hs:strip P p' with
  | some q=>rw [hs] at h;injection h with h;exact .inl ⟨q,by rw [dq.1 hs],h.symm⟩
  | none =>
   rw [hs] at h;have h1:=gM h;injection h1 with h1
   subst h1;refine .inr ⟨rfl,hs,fun e=>?_⟩
   cases p' with
   | nil=>cases e
   | cons t q=>simp only [List.head?_cons,ahp] at e;subst e;simp [aO.bm,ahy] at h
 | sh=>rw [hL] at h;cases h
 | fo=>rw [hL] at h;cases h
theorem Hm{P:List Nat}{d:Nat}{L:Nat->aO}{b:Nat}:lZ P d L b=.fo↔L b=.fo:=by
 simp only [lZ]
 cases hL:L b with
 | my p =>
  simp only
  cases hs:strip P p with
  | some q=>simp
  | none =>
   cases p with
   | nil=>simp [aO.bm]
   | cons t q=>simp only [aO.bm];cases Nat.beq t d<;>simp
 | _=>simp
theorem tU.lZ{L0 L:Nat->aO}{w0 w:World}(h:tU L0 w0 L w)(P:List Nat)(d:Nat):tU L0 w0 (FM.lZ P d L) w where
 lt b p hb:=by
  rcases qR hb with⟨q,h1,_⟩|⟨h1,_⟩<;>exact h.lt b _ h1
 inj b b' p hb bI:=by
  rcases qR hb with⟨q,h1,h2⟩|⟨h1,h2,h3⟩<;>rcases qR bI with⟨q',nj,kh⟩|⟨nj,kh,mA⟩
  ·rw [h2] at kh;cases kh;exact h.inj _ _ _ h1 nj
  ·rw [h2] at mA;exact absurd rfl mA
  ·rw [kh] at h3;exact absurd rfl h3
  ·exact h.inj _ _ _ h1 nj
 head b p hb:=by
  rcases qR hb with⟨q,_,h2⟩|⟨h1,_⟩
  ·rw [h2];simp
  ·exact h.head b p h1
 old b p aA hb:=by
  rcases qR hb with⟨q,h1,_⟩|⟨h1,_⟩<;>exact h.old b _ aA h1
 fo b hb:=Hm.trans (h.fo b hb)
 new b hb hf:=h.new b hb (Hm.1 hf)
theorem RelL.take{a:Act}(h:RelL S w0 L0 N σ a w L){x:AV}(hs:get σ s=.av x)(hd:oC S N d)(c8:s≠d):
  RelL S w0 L0 N ((σ.put s .none).put d (.av x)) (a.put (some d) (a.tmps.getD s undef)) w (lZ [s] d L):=by
 have ja:=aJ h hs ag;refine⟨h.defers,by simp [Act.put,h.size],h.keep,h.lok.lZ _ _,fun n hn=>?_,fun n hn=>?_,fun i hi=>(ay (hd.ne hi)).trans (h.fix i hi),h.glob⟩
 ·simp only [get,aY,Act.put];by_cases gP:d=n
  ·subst gP;rw [ahy,cond_true,bJ (by rw [h.size];exact hd.lt)];have:=h.hold s ja;rw [hs] at this;refine Rep.frame (ahr _) rfl rfl rfl (fun b h1 _=>⟨ew h1,rfl⟩) this _ fun p hp=>?_;cases hp;exact⟨[d],rfl,fun b q hb=>⟨qQ hb,rfl⟩⟩
  ·rw [au gP,cond_false,ay gP];by_cases pv:s=n
   ·subst pv;rw [ahy,cond_true];trivial
   ·rw [au pv,cond_false]
    cases b6:(get σ n).dep s with
    | true=>trivial
    | false =>
     rw [cond_false]
     cases Hn:(get σ n).dep d with
     | true=>trivial
     | false =>
      rw [cond_false];refine Hold.cG (good:=fun t=>t≠d/\t≠s) (ahr _) rfl rfl rfl (fun b h1 _=>⟨ew h1,rfl⟩) (fun b t q h1 h2=>⟨cC h1 h2.1 ?_,rfl⟩)
       (fun s' dz=>ay (fun e=>dz.1 e.symm)) ⟨fun e=>gP e.symm,fun e=>pv e.symm⟩ (fun s' dz=>⟨fun e=>?_,fun e=>?_⟩) (h.hold n hn)
      ·simp only [strip,au (fun e=>h2.2 e.symm:s≠t),cond_false]
      ·subst e;rw [Hn] at dz;cases dz
      ·subst e;rw [b6] at dz;cases dz
 ·simp only [get,aY];rw [au (by have:=hd.lt;omega),cond_false,au ae,cond_false];have:=h.out n hn;rw [this];rfl
theorem Pn{x:AV}(ht:get σ t=.ref s)(hs:get σ s=.av x)(c8:Nat.beq s d=false):Step S ⟨some d,.assign (.tmp t),ty,pos,aft,g⟩ σ ((σ.put s .none).put d (.av x)):=by
 intro w0 L0 N a w hN ⟨L,h⟩;have hh:=h.hold t (aJ h ht ag);rw [ht] at hh;simp only [Hold] at hh;refine⟨a.eval (.tmp t),fun w' _=>by simp [execOp],lZ [s] d L,?_⟩;have:=h.take hs (hN d rfl) (aC c8);simp only [Act.eval];rw [hh];exact this
theorem Po{x:AV}(hs:get σ s=.av x)(c8:Nat.beq s d=false):Step S ⟨some d,.assign (.tmp s),ty,pos,aft,g⟩ σ ((σ.put s .none).put d (.av x)):=by
 intro w0 L0 N a w hN ⟨L,h⟩;exact⟨a.eval (.tmp s),fun w' _=>by simp [execOp],_,h.take hs (hN d rfl) (aC c8)⟩
def Dq(σ:St):Operand->Option (Nat×List AV)
 | .tmp t=>match get σ t with
  | .av (.tup vs)=>some (t,vs)
  | .ref s=>match get σ s with
   | .av (.tup vs)=>some (s,vs)
   | _=>none
  | _=>none
 | _=>none
theorem qS(h:Dq σ x=some (s,vs)){a:Act}(hR:RelL S w0 L0 N σ a w L):
  get σ s=.av (.tup vs)/\a.eval x=a.tmps.getD s undef/\∃ us:List Value,a.tmps.getD s undef=.tuple us.toArray/\us.length=vs.length/\∀ i y v,vs[i]?=some y->us[i]?=some v->Rep L w (some [s,i]) y v:=by
 have key:get σ s=.av (.tup vs)/\a.eval x=a.tmps.getD s undef:=by
  cases x with
  | tmp t =>
   simp only [Dq] at h
   cases ht:get σ t with
   | av y =>
    rw [ht] at h;cases y<;>first|(simp only [ahp,Prod.mk.injEq] at h;obtain⟨rfl,rfl⟩:=h;exact⟨ht,rfl⟩)|cases h
   | ref s' =>
    rw [ht] at h;simp only at h
    cases dz:get σ s' with
    | av y =>
     rw [dz] at h;cases y<;>first|(simp only [ahp,Prod.mk.injEq] at h;obtain⟨rfl,rfl⟩:=h;refine⟨dz,?_⟩;have:=hR.hold t (aJ hR ht ag);rw [ht] at this;exact this)|cases h
    | _=>rw [dz] at h;cases h
   | _=>rw [ht] at h;cases h
  | _=>cases h
 refine⟨key.1,key.2,?_⟩;have:=hR.hold s (aJ hR key.1 ag);rw [key.1] at this;simp only [Hold] at this;generalize a.tmps.getD s undef=v at this
 cases this with
 | tup hl h=>exact⟨_,rfl,hl,h⟩
theorem Pp{y:AV}(hx:Dq σ x=some (s,vs))(hy:vs[i]?=some y)(hp:y.aW=false):Step S ⟨some d,.extract x i,ty,pos,aft,g⟩ σ (σ.put d (.av y)):=by
 intro w0 L0 N a w hN ⟨L,hR⟩;obtain⟨_,h2,us,h3,h4,h5⟩:=qS hx hR;have hi:i<us.length:=by rw [h4];exact(aho.1 hy).1
 have hu:=h5 i y us[i] hy (ahn hi);exact⟨us[i],fun w' _=>by simp [execOp,h2,h3,Instr.extract,hi],Rel.aT (n:=d) hR (hN d rfl) (by simp [TV.plain,hp]) rfl (Rep.replace hu hp)⟩
theorem Pq{y:AV}(hx:Dq σ x=some (s,vs))(hy:vs[i]?=some y)(c8:Nat.beq s d=false):Step S ⟨some d,.extract x i,ty,pos,aft,g⟩ σ ((σ.upd false s (.av (.tup (vs.set i .dead)))).put d (.av y)):=by
 intro w0 L0 N a w hN ⟨L,hR⟩;have Pr:=hN d rfl;have cr:=aC c8;obtain⟨h1,h2,us,h3,h4,h5⟩:=qS hx hR;have hi:i<us.length:=by rw [h4];exact(aho.1 hy).1
 have hu:=h5 i y us[i] hy (ahn hi);refine⟨us[i],fun w' _=>by simp [execOp,h2,h3,Instr.extract,hi],lZ [s,i] d L,hR.defers,by simp [Act.put,hR.size],hR.keep,hR.lok.lZ _ _,fun n hn=>?_,fun n hn=>?_,fun i hi=>(ay (Pr.ne hi)).trans (hR.fix i hi),hR.glob⟩
 ·simp only [get,aY,Act.put];by_cases gP:d=n
  ·subst gP;rw [ahy,cond_true,bJ (by rw [hR.size];exact Pr.lt)];refine Rep.frame (ahr _) rfl rfl rfl (fun b h1 _=>⟨ew h1,rfl⟩) hu _ fun p hp=>?_;cases hp;exact⟨[d],rfl,fun b q hb=>⟨qQ hb,rfl⟩⟩
  ·rw [au gP,cond_false,ay gP];by_cases pv:s=n
   ·subst pv;rw [ahy,cond_true];simp only [TV.dep,cond_false,Hold];rw [h3];refine .tup (by simp [h4]) fun k z v hz hv=>?_;rw [aio] at hz;by_cases Ps:i=k
    ·subst Ps;rw [if_pos rfl] at hz;split at hz
     ·simp only [ahp] at hz;subst hz;exact .dead
     ·cases hz
    ·rw [if_neg Ps] at hz;refine Rep.frame (ahr _) rfl rfl rfl (fun b h1 _=>⟨ew h1,rfl⟩) (h5 k z v hz hv) _ fun p hp=>?_;cases hp;exact⟨[s,k],rfl,fun b q hb=>⟨cC hb cr (by simp [strip,ahy,au Ps]),rfl⟩⟩
   ·rw [au pv,cond_false];have hh:=hR.hold n hn
    cases b6:((get σ n).bk false s).dep d with
    | true=>trivial
    | false =>
     rw [cond_false];have key:∀ tv:TV,tv.dep s=false->tv.dep d=false->Hold L w a.tmps n tv (a.tmps.getD n undef)->Hold (lZ [s,i] d L) w (a.tmps.setIfInBounds d us[i]) n tv (a.tmps.getD n undef):=fun tv yc NN hh =>
      Hold.cG (good:=fun t=>t≠d/\t≠s) (ahr _) rfl rfl rfl (fun b h1 _=>⟨ew h1,rfl⟩) (fun b t q h1 h2=>⟨cC h1 h2.1 (by simp only [strip,au (fun e=>h2.2 e.symm:s≠t),cond_false]),rfl⟩)
       (fun s' dz=>ay (fun e=>dz.1 e.symm)) ⟨fun e=>gP e.symm,fun e=>pv e.symm⟩ (fun s' dz=>⟨fun e=>(by subst e;rw [NN] at dz;cases dz),fun e=>(by subst e;rw [yc] at dz;cases dz)⟩) hh
     cases KI:get σ n with
     | none=>trivial
     | av x=>rw [KI] at hh;exact key _ rfl rfl hh
     | ref s' =>
      rw [KI] at hh b6;simp only [Hold,TV.bk] at hh ⊢;rw [ay (fun e=>aC b6 e.symm)];exact hh
     | rref s' r y' =>
      rw [KI] at hh b6;simp only [TV.bk] at b6 ⊢
      cases hb:Nat.beq s' s with
      | true=>trivial
      | false=>rw [hb] at b6;exact key _ hb b6 hh
     | ptr s' r c y' =>
      rw [KI] at hh b6;simp only [TV.bk] at b6 ⊢
      cases hb:Nat.beq s' s with
      | true =>
       rw [hb] at b6;have:=ahz hb;subst this;obtain⟨b,hl,hv,_⟩:=hh;exact⟨b,cC hl cr (by simp [strip,ahy]),hv,fun h=>absurd rfl h⟩
      | false=>rw [hb] at b6;exact key _ hb b6 hh
     | fpt s' o y' =>
      rw [KI] at hh b6;simp only [TV.bk] at b6 ⊢
      cases hb:Nat.beq s' s with
      | true =>
       rw [hb] at b6;have:=ahz hb;subst this;obtain⟨b,hl,hv,_⟩:=hh;exact⟨b,cC hl cr (by simp [strip,ahy]),hv,fun h=>absurd rfl h⟩
      | false=>rw [hb] at b6;exact key _ hb b6 hh
     | rptr s' r j y' =>
      rw [KI] at hh b6;simp only [TV.bk] at b6 ⊢
      cases hb:Nat.beq s' s with
      | true=>trivial
      | false=>rw [hb] at b6;exact key _ hb b6 hh
     | dptr x=>rw [KI] at hh;exact key _ rfl rfl hh
     | bdp s' x =>
      rw [KI] at hh b6;simp only [TV.bk] at b6 ⊢
      cases hb:Nat.beq s' s with
      | true=>trivial
      | false=>rw [hb] at b6;exact key _ hb b6 hh
     | bor s' x =>
      rw [KI] at hh b6;simp only [TV.bk] at b6 ⊢
      cases hb:Nat.beq s' s with
      | true=>trivial
      | false=>rw [hb] at b6;exact key _ hb b6 hh
     | clo f caps =>
      rw [KI] at hh b6;simp only [TV.bk] at b6 ⊢;simp only [Hold] at hh ⊢;rw [hh];congr 2
      refine List.map_congr_left fun s' dz=>?_;rw [ay];intro e;subst e;simp only [TV.dep,List.any_eq_false] at b6;exact b6 d dz (ahy d)
 ·simp only [get,aY];rw [au (show d≠n by have:=Pr.lt;omega),cond_false];by_cases pv:s=n
  ·rw [<- pv] at hn;exact absurd (aJ hR h1 ag) (Nat.not_lt.2 hn)
  ·rw [au pv,cond_false,hR.out n hn];rfl
end
end FM
