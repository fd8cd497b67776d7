/- Strings, bytes and small integers, as steps. No program in sight. -/
import Derived.Test.YtkkcnppgcnmikaaGreatDoorAbb
import Derived.Lib.ConvBytes
import Derived.Lib.Strings
namespace FM
open Go Go.RowKit
set_option linter.all false
theorem less_lt:∀ (x y:List UInt8),Op.bytesLess x y=decide (x<y)
 | x,[]=>by rw [decide_eq_false (by simp)];cases x<;>rfl
 | [],b::y=>by rw [decide_eq_true (by simp)];rfl
 | a::x,b::y=>by
  have ih:=less_lt x y
  unfold Op.bytesLess
  rw [ih,Bool.eq_iff_iff,decide_eq_true_iff,List.cons_lt_cons_iff]
  simp
abbrev u8(n:Nat):AV:=.val (.int .u8 (n:Int))
abbrev u16(n:Nat):AV:=.val (.int .u16 (n:Int))
def sl16(a n:Nat):Nat:=a*2 ^ n%65536
theorem sl16_lt(a n:Nat):sl16 a n<65536:=Nat.mod_lt _ (by decide)
abbrev b8(b:UInt8):AV:=.val (.int .u8 (b.toNat:Int))
section
variable {S:Sys} {σ:St} {d:Nat} {ty:Nat} {pos:String} {aft:Array Edge} {g:Option (Nat×Bool)}
theorem s_binV{op:BinOp}{t t2:Nat}{x y:Operand}{u v:Value}{r:AV}(hx:ov σ x=.av (.val u))(hy:ov σ y=.av (.val v))(hr:r.isOwn=false)
  (h:∃ z,(∀ (L:Nat→Lab) (w:World),Rep L w none r z)∧∀ w,(do eqGuard op t x y u v;binOp op t u v:Sem Value).run S.P w=.ok z w) :
  Step S ⟨some d,.binOp op t x y t2,ty,pos,aft,g⟩ σ (σ.put d (.av r)):=by
 obtain⟨z,h1,h2⟩:=h
 refine step_val hr fun w0 L0 N c w L hR=>⟨z,fun w' _=>?_,h1 L w⟩
 have e:=h2 w'
 simp only [execOp,ev_val hR hx,ev_val hR hy] at e ⊢
 simp only [Sem.run_bind] at e ⊢
 rw [e];rfl
theorem s_binVI{op:BinOp}{t t2:Nat}{x y:Operand}{u:Value}{n:Int}{r:AV}(hx:ov σ x=.av (.val u))(hy:ov σ y=.av (.int n))(hr:r.isOwn=false)
  (h:∃ z,(∀ (L:Nat→Lab) (w:World),Rep L w none r z)∧∀ w,(do eqGuard op t x y u (.int .i64 n);binOp op t u (.int .i64 n):Sem Value).run S.P w=.ok z w) :
  Step S ⟨some d,.binOp op t x y t2,ty,pos,aft,g⟩ σ (σ.put d (.av r)):=by
 obtain⟨z,h1,h2⟩:=h
 refine step_val hr fun w0 L0 N c w L hR=>⟨z,fun w' _=>?_,h1 L w⟩
 have e:=h2 w'
 simp only [execOp,ev_val hR hx,ev_int hR hy] at e ⊢
 simp only [Sem.run_bind] at e ⊢
 rw [e];rfl
theorem wrap_u16{a:Nat}(h:a<65536):IntKind.u16.wrap (a:Int)=a:=by
 simp only [IntKind.wrap,IntKind.bits,IntKind.signed,Bool.false_and,Bool.false_eq_true,if_false];omega
theorem wrap_u8{a:Nat}(h:a<256):IntKind.u8.wrap (a:Int)=a:=by
 simp only [IntKind.wrap,IntKind.bits,IntKind.signed,Bool.false_and,Bool.false_eq_true,if_false];omega
theorem wrap_u16m{a:Nat}:IntKind.u16.wrap (a:Int)=((a%65536:Nat):Int):=by
 simp only [IntKind.wrap,IntKind.bits,IntKind.signed,Bool.false_and,Bool.false_eq_true,if_false];omega
theorem wrap_u8m{a:Nat}:IntKind.u8.wrap (a:Int)=((a%256:Nat):Int):=by
 simp only [IntKind.wrap,IntKind.bits,IntKind.signed,Bool.false_and,Bool.false_eq_true,if_false];omega
theorem xor_u16{a b:Nat}(ha:a<65536)(hb:b<65536):a ^^^ b<65536:=Nat.xor_lt_two_pow (n:=16) ha hb
theorem bv16{a:Nat}(ha:a<65536):(BitVec.ofInt 16 (a:Int)).toNat=a:=by
 rw [BitVec.ofInt_natCast,BitVec.toNat_ofNat];omega
theorem bv8{a:Nat}(ha:a<256):(BitVec.ofInt 8 (a:Int)).toNat=a:=by
 rw [BitVec.ofInt_natCast,BitVec.toNat_ofNat];omega
theorem s_xor16{t t2 a b:Nat}{x y:Operand}(hx:ov σ x=.av (u16 a))(hy:ov σ y=.av (u16 b))(ha:a<65536)(hb:b<65536):Step S ⟨some d,.binOp .xor t x y t2,ty,pos,aft,g⟩ σ (σ.put d (.av (u16 (a ^^^ b)))) :=
 s_binV hx hy rfl ⟨_,fun _ _=>.val,fun w=>by
  have e:((BitVec.ofInt 16 (a:Int)) ^^^ (BitVec.ofInt 16 (b:Int))).toNat=a ^^^ b:=by rw [BitVec.toNat_xor,bv16 ha,bv16 hb]
  simp only [eqGuard,binOp,Op.intBits,Sem.run_bind]
  have e2:IntKind.u16.wrap (((BitVec.ofInt 16 (a:Int)) ^^^ (BitVec.ofInt 16 (b:Int))).toNat:Int)=((a ^^^ b:Nat):Int):=by rw [e,wrap_u16 (xor_u16 ha hb)]
  exact congrArg (fun z=>Result.ok (Value.int .u16 z) w) e2⟩
theorem s_shl16{t t2 a n:Nat}{x y:Operand}(hx:ov σ x=.av (u16 a))(hy:ov σ y=.av (.val (.int .u64 (n:Int))))(hn:n≤16):Step S ⟨some d,.binOp .shl t x y t2,ty,pos,aft,g⟩ σ (σ.put d (.av (u16 (sl16 a n)))) :=
 s_binV hx hy rfl ⟨_,fun _ _=>.val,fun w=>by
  have h0:¬ ((n:Int)<0):=by omega
  have e1:min n 16=n:=by omega
  have e2:(a:Int)*2 ^ n=((a*2 ^ n:Nat):Int):=by simp
  simp only [eqGuard,binOp,Op.shift,h0,if_false,Int.toNat_natCast,IntKind.bits,e1,e2,wrap_u16m]
  rfl⟩
theorem fdiv_nat(a n:Nat):Int.fdiv (a:Int) (2 ^ n)=((a / 2 ^ n:Nat):Int):=by
 rw [Int.fdiv_eq_ediv_of_nonneg _ (by exact Int.pow_nonneg (by decide))];simp
theorem s_shr16{t t2 a n:Nat}{x y:Operand}(hx:ov σ x=.av (u16 a))(hy:ov σ y=.av (.val (.int .u64 (n:Int))))(hn:n≤16):Step S ⟨some d,.binOp .shr t x y t2,ty,pos,aft,g⟩ σ (σ.put d (.av (u16 (shr a n)))) :=
 s_binV hx hy rfl ⟨_,fun _ _=>.val,fun w=>by
  have h0:¬ ((n:Int)<0):=by omega
  have e1:min n 16=n:=by omega
  simp only [eqGuard,binOp,Op.shift,h0,if_false,Int.toNat_natCast,IntKind.bits,e1,fdiv_nat]
  rfl⟩
theorem s_shl16_8{t t2 a:Nat}{x y:Operand}(hx:ov σ x=.av (u16 a))(hy:ov σ y=.av (.val (.int .u64 8))):Step S ⟨some d,.binOp .shl t x y t2,ty,pos,aft,g⟩ σ (σ.put d (.av (u16 (sl16 a 8)))):=s_shl16 hx hy (by decide)
theorem s_shl16_1{t t2 a:Nat}{x y:Operand}(hx:ov σ x=.av (u16 a))(hy:ov σ y=.av (.val (.int .u64 1))):Step S ⟨some d,.binOp .shl t x y t2,ty,pos,aft,g⟩ σ (σ.put d (.av (u16 (sl16 a 1)))):=s_shl16 hx hy (by decide)
theorem s_shr16_15{t t2 a:Nat}{x y:Operand}(hx:ov σ x=.av (u16 a))(hy:ov σ y=.av (.val (.int .u64 15))):Step S ⟨some d,.binOp .shr t x y t2,ty,pos,aft,g⟩ σ (σ.put d (.av (u16 (shr a 15)))):=s_shr16 hx hy (by decide)
theorem s_shr16_8{t t2 a:Nat}{x y:Operand}(hx:ov σ x=.av (u16 a))(hy:ov σ y=.av (.val (.int .u64 8))):Step S ⟨some d,.binOp .shr t x y t2,ty,pos,aft,g⟩ σ (σ.put d (.av (u16 (shr a 8)))):=s_shr16 hx hy (by decide)
theorem s_xor16c{t t2 a:Nat}{x y:Operand}(hx:ov σ x=.av (u16 a))(hy:ov σ y=.av (.val (.int .u16 4129)))(ha:a<65536):Step S ⟨some d,.binOp .xor t x y t2,ty,pos,aft,g⟩ σ (σ.put d (.av (u16 (a ^^^ 4129)))):=s_xor16 hx hy ha (by decide)
theorem s_shr8I{t t2 a n:Nat}{x y:Operand}(hx:ov σ x=.av (u8 a))(hy:ov σ y=.av (.int (n:Int)))(hn:n≤8):Step S ⟨some d,.binOp .shr t x y t2,ty,pos,aft,g⟩ σ (σ.put d (.av (u8 (shr a n)))) :=
 s_binVI hx hy rfl ⟨_,fun _ _=>.val,fun w=>by
  have h0:¬ ((n:Int)<0):=by omega
  have e1:min n 8=n:=by omega
  simp only [eqGuard,binOp,Op.shift,h0,if_false,Int.toNat_natCast,IntKind.bits,e1,fdiv_nat]
  rfl⟩
theorem s_and81{t t2 a:Nat}{x y:Operand}(hx:ov σ x=.av (u8 a))(hy:ov σ y=.av (.val (.int .u8 1)))(ha:a<256):Step S ⟨some d,.binOp .and t x y t2,ty,pos,aft,g⟩ σ (σ.put d (.av (u8 (a%2)))) :=
 s_binV hx hy rfl ⟨_,fun _ _=>.val,fun w=>by
  have e:((BitVec.ofInt 8 (a:Int)) &&& (BitVec.ofInt 8 1)).toNat=a%2:=by
   rw [BitVec.toNat_and,bv8 ha,show(BitVec.ofInt 8 1).toNat=1 from rfl,Nat.and_one_is_mod]
  have e2:IntKind.u8.wrap (((BitVec.ofInt 8 (a:Int)) &&& (BitVec.ofInt 8 1)).toNat:Int)=((a%2:Nat):Int):=by rw [e,wrap_u8 (by omega)]
  simp only [eqGuard,binOp,Op.intBits,Sem.run_bind]
  exact congrArg (fun z=>Result.ok (Value.int .u8 z) w) e2⟩
theorem s_quo16{t t2 a b:Nat}{x y:Operand}(hx:ov σ x=.av (u16 a))(hy:ov σ y=.av (u16 b))(hb:0<b)(ha:a<65536):Step S ⟨some d,.binOp .quo t x y t2,ty,pos,aft,g⟩ σ (σ.put d (.av (u16 (a / b)))) :=
 s_binV hx hy rfl ⟨_,fun _ _=>.val,fun w=>by
  have h0:¬ ((b:Int)=0):=by omega
  have e:Int.tdiv (a:Int) (b:Int)=((a / b:Nat):Int):=rfl
  have hl:a / b<65536:=Nat.lt_of_le_of_lt (Nat.div_le_self _ _) ha
  simp only [eqGuard,binOp,Op.intDiv,h0,if_false,e,wrap_u16 hl]
  rfl⟩
theorem s_rem16{t t2 a b:Nat}{x y:Operand}(hx:ov σ x=.av (u16 a))(hy:ov σ y=.av (u16 b))(hb:0<b):Step S ⟨some d,.binOp .rem t x y t2,ty,pos,aft,g⟩ σ (σ.put d (.av (u16 (a%b)))) :=
 s_binV hx hy rfl ⟨_,fun _ _=>.val,fun w=>by
  have h0:¬ ((b:Int)=0):=by omega
  have e:Int.tmod (a:Int) (b:Int)=((a%b:Nat):Int):=rfl
  simp only [eqGuard,binOp,Op.intDiv,h0,if_false,e]
  rfl⟩
section
variable {t t2:Nat} {x y:Operand} {k:IntKind} {a b:Int}
theorem s_eqlV(hx:ov σ x=.av (.val (.int k a)))(hy:ov σ y=.av (.val (.int k b))):Step S ⟨some d,.binOp .eql t x y t2,ty,pos,aft,g⟩ σ (σ.put d (.av (.bool (decide (a=b))))) :=
 s_binV hx hy rfl ⟨_,fun _ _=>.bool,fun w=>by simp [eqGuard,binOp,Op.intCmp];rw [Bool.eq_iff_iff];simp⟩
theorem s_neqV(hx:ov σ x=.av (.val (.int k a)))(hy:ov σ y=.av (.val (.int k b))):Step S ⟨some d,.binOp .neq t x y t2,ty,pos,aft,g⟩ σ (σ.put d (.av (.bool (decide (a≠b))))) :=
 s_binV hx hy rfl ⟨_,fun _ _=>.bool,fun w=>by simp [eqGuard,binOp,Op.intCmp];rw [Bool.eq_iff_iff];simp⟩
theorem s_lssV(hx:ov σ x=.av (.val (.int k a)))(hy:ov σ y=.av (.val (.int k b))):Step S ⟨some d,.binOp .lss t x y t2,ty,pos,aft,g⟩ σ (σ.put d (.av (.bool (decide (a<b))))) :=
 s_binV hx hy rfl ⟨_,fun _ _=>.bool,fun w=>by simp [eqGuard,binOp,Op.intCmp]⟩
theorem s_gtrV(hx:ov σ x=.av (.val (.int k a)))(hy:ov σ y=.av (.val (.int k b))):Step S ⟨some d,.binOp .gtr t x y t2,ty,pos,aft,g⟩ σ (σ.put d (.av (.bool (decide (b<a))))) :=
 s_binV hx hy rfl ⟨_,fun _ _=>.bool,fun w=>by simp [eqGuard,binOp,Op.intCmp]⟩
end
/-! ### conversions of integers -/
theorem TOk.intk{P:Program}{t sz by_:Nat}{k:IntKind}{z:List AV}(h:TOk P t ⟨.int k,sz,by_,z⟩):P.underlying t=some (.int k):=by
 obtain⟨dd,hd,he⟩:=h.desc
 simp only [TK.ofDesc] at he
 subst he;exact hd
theorem s_cvV{src dst sz by_ sz2 by2:Nat}{k k0 k':IntKind}{z z2:List AV}{x:Operand}{a:Int}(hS:S.T src=some ⟨.int k0,sz,by_,z⟩)(hD:S.T dst=some ⟨.int k',sz2,by2,z2⟩)(hx:ov σ x=.av (.val (.int k a))){r:AV}(hr:r.isOwn=false)(hz:∀ (L:Nat→Lab) (w:World),Rep L w none r (.int k' (k'.wrap a))) :
  Step S ⟨some d,.convert src dst x,ty,pos,aft,g⟩ σ (σ.put d (.av r)) :=
 step_val hr fun w0 L0 N c w L hR=>⟨_,fun w' _=>by
  simp [execOp,ev_val hR hx,convert,run_underlying (S.ok _ _ hS).intk,run_underlying (S.ok _ _ hD).intk,Conv.intToInt],hz L w⟩
theorem s_cvI{src dst sz by_ sz2 by2:Nat}{k0 k':IntKind}{z z2:List AV}{x:Operand}{a:Int}(hS:S.T src=some ⟨.int k0,sz,by_,z⟩)(hD:S.T dst=some ⟨.int k',sz2,by2,z2⟩)(hx:ov σ x=.av (.int a)){r:AV}(hr:r.isOwn=false)(hz:∀ (L:Nat→Lab) (w:World),Rep L w none r (.int k' (k'.wrap a))) :
  Step S ⟨some d,.convert src dst x,ty,pos,aft,g⟩ σ (σ.put d (.av r)) :=
 step_val hr fun w0 L0 N c w L hR=>⟨_,fun w' _=>by
  simp [execOp,ev_int hR hx,convert,run_underlying (S.ok _ _ hS).intk,run_underlying (S.ok _ _ hD).intk,Conv.intToInt],hz L w⟩
section
variable {src dst sz by_ sz2 by2 a:Nat} {z z2:List AV} {x:Operand}
theorem s_cv8_16(hS:S.T src=some ⟨.int .u8,sz,by_,z⟩)(hD:S.T dst=some ⟨.int .u16,sz2,by2,z2⟩)(hx:ov σ x=.av (u8 a))(ha:a<256):Step S ⟨some d,.convert src dst x,ty,pos,aft,g⟩ σ (σ.put d (.av (u16 a))) :=
 s_cvV hS hD hx rfl fun L w=>by rw [wrap_u16 (by omega)];exact .val
theorem s_cv8_64(hS:S.T src=some ⟨.int .u8,sz,by_,z⟩)(hD:S.T dst=some ⟨.int .i64,sz2,by2,z2⟩)(hx:ov σ x=.av (u8 a))(ha:a<256):Step S ⟨some d,.convert src dst x,ty,pos,aft,g⟩ σ (σ.put d (.av (.int a))) :=
 s_cvV hS hD hx rfl fun L w=>by rw [IntWalk.i64_in _ (by omega)];exact .int
theorem s_cv16_8(hS:S.T src=some ⟨.int .u16,sz,by_,z⟩)(hD:S.T dst=some ⟨.int .u8,sz2,by2,z2⟩)(hx:ov σ x=.av (u16 a)):Step S ⟨some d,.convert src dst x,ty,pos,aft,g⟩ σ (σ.put d (.av (u8 (a%256)))) :=
 s_cvV hS hD hx rfl fun L w=>by rw [wrap_u8m];exact .val
theorem s_cv64_8(hS:S.T src=some ⟨.int .i64,sz,by_,z⟩)(hD:S.T dst=some ⟨.int .u8,sz2,by2,z2⟩)(hx:ov σ x=.av (.int (a:Int))):Step S ⟨some d,.convert src dst x,ty,pos,aft,g⟩ σ (σ.put d (.av (u8 (a%256)))) :=
 s_cvI hS hD hx rfl fun L w=>by rw [wrap_u8m];exact .val
theorem s_cv64_16(hS:S.T src=some ⟨.int .i64,sz,by_,z⟩)(hD:S.T dst=some ⟨.int .u16,sz2,by2,z2⟩)(hx:ov σ x=.av (.int (a:Int))):Step S ⟨some d,.convert src dst x,ty,pos,aft,g⟩ σ (σ.put d (.av (u16 (a%65536)))) :=
 s_cvI hS hD hx rfl fun L w=>by rw [wrap_u16m];exact .val
end
/-! ### strings -/
theorem TOk.str{P:Program}{t sz by_:Nat}{z:List AV}(h:TOk P t ⟨.str,sz,by_,z⟩):P.underlying t=some .string:=by
 obtain⟨dd,hd,he⟩:=h.desc
 simp only [TK.ofDesc] at he
 subst he;exact hd
theorem mk_size(s:List UInt8):ByteArray.size ⟨s.toArray⟩=s.length:=by simp [ByteArray.size]
theorem mk_toList(s:List UInt8):ByteArray.toList ⟨s.toArray⟩=s:=by rw [Lib.toList_data]
theorem s_strOp{op:BinOp}{t t2:Nat}{x y:Operand}{a b:List UInt8}{r:AV}(hx:ov σ x=.av (.str a))(hy:ov σ y=.av (.str b))(hr:r.isOwn=false)
  (h:∃ z,(∀ (L:Nat→Lab) (w:World),Rep L w none r z)∧∀ w,(do eqGuard op t x y (.string ⟨a.toArray⟩) (.string ⟨b.toArray⟩);binOp op t (.string ⟨a.toArray⟩) (.string ⟨b.toArray⟩):Sem Value).run S.P w=.ok z w) :
  Step S ⟨some d,.binOp op t x y t2,ty,pos,aft,g⟩ σ (σ.put d (.av r)):=by
 obtain⟨z,h1,h2⟩:=h
 refine step_val hr fun w0 L0 N c w L hR=>⟨z,fun w' _=>?_,h1 L w⟩
 have e:=h2 w'
 simp only [execOp,ev_str hR hx,ev_str hR hy] at e ⊢
 simp only [Sem.run_bind] at e ⊢
 rw [e];rfl
section
variable {t t2:Nat} {x y:Operand} {a b:List UInt8}
theorem s_strEq(hx:ov σ x=.av (.str a))(hy:ov σ y=.av (.str b)):Step S ⟨some d,.binOp .eql t x y t2,ty,pos,aft,g⟩ σ (σ.put d (.av (.bool (decide (a=b))))) :=
 s_strOp hx hy rfl ⟨_,fun _ _=>.bool,fun w=>by simp [eqGuard,binOp,Op.stringOp,mk_toList];rw [Bool.eq_iff_iff];simp⟩
theorem s_strNe(hx:ov σ x=.av (.str a))(hy:ov σ y=.av (.str b)):Step S ⟨some d,.binOp .neq t x y t2,ty,pos,aft,g⟩ σ (σ.put d (.av (.bool (decide (a≠b))))) :=
 s_strOp hx hy rfl ⟨_,fun _ _=>.bool,fun w=>by simp [eqGuard,binOp,Op.stringOp,mk_toList];rw [Bool.eq_iff_iff];simp⟩
theorem s_strEq0(hx:ov σ x=.av (.str a))(hy:ov σ y=.av (.str [])):Step S ⟨some d,.binOp .eql t x y t2,ty,pos,aft,g⟩ σ (σ.put d (.av (.bool (decide (a=[]))))):=s_strEq hx hy
theorem s_strNe0(hx:ov σ x=.av (.str a))(hy:ov σ y=.av (.str [])):Step S ⟨some d,.binOp .neq t x y t2,ty,pos,aft,g⟩ σ (σ.put d (.av (.bool (decide (a≠[]))))):=s_strNe hx hy
theorem s_strLt(hx:ov σ x=.av (.str a))(hy:ov σ y=.av (.str b)):Step S ⟨some d,.binOp .lss t x y t2,ty,pos,aft,g⟩ σ (σ.put d (.av (.bool (decide (a<b))))) :=
 s_strOp hx hy rfl ⟨_,fun _ _=>.bool,fun w=>by simp [eqGuard,binOp,Op.stringOp,mk_toList,less_lt,-List.not_lt,-List.not_le]⟩
theorem s_strLe(hx:ov σ x=.av (.str a))(hy:ov σ y=.av (.str b)):Step S ⟨some d,.binOp .leq t x y t2,ty,pos,aft,g⟩ σ (σ.put d (.av (.bool (decide (a<b∨a=b))))) :=
 s_strOp hx hy rfl ⟨_,fun _ _=>.bool,fun w=>by simp [eqGuard,binOp,Op.stringOp,mk_toList,less_lt,-List.not_lt,-List.not_le];rw [Bool.eq_iff_iff];simp⟩
theorem s_strAdd(hx:ov σ x=.av (.str a))(hy:ov σ y=.av (.str b))(hl:a.length+b.length≤9223372036854775807):Step S ⟨some d,.binOp .add t x y t2,ty,pos,aft,g⟩ σ (σ.put d (.av (.str (a++b)))) :=
 s_strOp hx hy rfl ⟨.string ⟨(a++b).toArray⟩,fun _ _=>.str,fun w=>by
  have h0:¬ (((a.length+b.length:Nat):Int)>IntKind.i64.max):=by simp only [IntKind.max,IntKind.signed,IntKind.bits,if_true];omega
  have e:(⟨a.toArray⟩:ByteArray)++⟨b.toArray⟩=⟨(a++b).toArray⟩:=by apply ByteArray.ext;simp
  simp only [eqGuard,binOp,Op.stringOp,mk_size,h0,if_false,e]
  rfl⟩
theorem s_strIx{n:Int}{b:UInt8}{sz by_:Nat}{z:List AV}(hT:S.T t=some ⟨.str,sz,by_,z⟩)(hx:ov σ x=.av (.str a))(hy:ov σ y=.av (.int n))(h0:0≤n)(h1:a[n.toNat]?=some b):Step S ⟨some d,.index t x y,ty,pos,aft,g⟩ σ (σ.put d (.av (b8 b))) :=
 step_val rfl fun w0 L0 N c w L hR=>⟨.int .u8 (b.toNat:Int),fun w' _=>by
  have hg:(⟨a.toArray⟩:ByteArray)[n.toNat]?=some b:=by
   have hl:=(List.getElem?_eq_some_iff.1 h1).1
   have:n.toNat<ByteArray.size ⟨a.toArray⟩:=by rw [mk_size];exact hl
   rw [getElem?_pos (⟨a.toArray⟩:ByteArray) n.toNat this]
   have h2:=(List.getElem?_eq_some_iff.1 h1).2
   exact congrArg some (h2▸rfl)
  simp [execOp,ev_str hR hx,ev_int hR hy,Instr.index,asIntOf,run_underlying (S.ok _ _ hT).str,h0,hg],.val⟩
theorem run_strSlice{P:Program}{t:Nat}(ht:P.underlying t=some .string){s:List UInt8}{lo hi:Option Value}{l u:Nat}(hl:(lo=none∧l=0)∨lo=some (.int .i64 (l:Nat)))(hu:(hi=none∧u=s.length)∨hi=some (.int .i64 (u:Nat)))(h1:l≤u)(h2:u≤s.length)(w:World) :
  (Instr.sliceAt t (.string ⟨s.toArray⟩) lo hi none).run P w=.ok (.string ⟨((s.take u).drop l).toArray⟩) w:=by
 have e:(⟨s.toArray⟩:ByteArray).extract l u=⟨((s.take u).drop l).toArray⟩:=by
  rw [Lib.extract_eq,List.drop_take]
 have k1:(u:Int)≤(s.length:Int):=by omega
 have k2:(l:Int)≤(u:Int):=by omega
 have k3:(l:Int)≤(s.length:Int):=by omega
 rcases hl with⟨rfl,rfl⟩|rfl<;>rcases hu with⟨rfl,rfl⟩|rfl
 ·simp [Instr.sliceAt,Instr.slice,run_underlying ht,Instr.sliceBounds,mk_size,←e]
 ·simp only [Instr.sliceAt,Instr.slice,Sem.run_bind,run_underlying ht,Result.andThen_ok,Instr.sliceBounds,Instr.sliceBound,asIntOf,mk_size,Sem.run_pure,e,Int.toNat_natCast]
  simp [h2];simpa using e
 ·simp only [Instr.sliceAt,Instr.slice,Sem.run_bind,run_underlying ht,Result.andThen_ok,Instr.sliceBounds,Instr.sliceBound,asIntOf,mk_size,Sem.run_pure,e,Int.toNat_natCast]
  simp [h1];simpa using e
 ·simp only [Instr.sliceAt,Instr.slice,Sem.run_bind,run_underlying ht,Result.andThen_ok,Instr.sliceBounds,Instr.sliceBound,asIntOf,mk_size,Sem.run_pure,e,Int.toNat_natCast]
  simp [h1,h2];simpa using e
theorem s_strSl{lo hi:Option Operand}{l u:Nat}{sz by_:Nat}{z:List AV}(hT:S.T t=some ⟨.str,sz,by_,z⟩)(hx:ov σ x=.av (.str a))(hl:bound σ 0 lo=some l)(hu:bound σ a.length hi=some u)(h1:l≤u)(h2:u≤a.length) :
  Step S ⟨some d,.slice t x lo hi none,ty,pos,aft,g⟩ σ (σ.put d (.av (.str ((a.take u).drop l)))) :=
 step_val rfl fun w0 L0 N c w L hR=>⟨_,fun w' _=>by
  simp only [execOp,Option.map_none,ev_str hR hx,Sem.run_bind]
  rw [run_strSlice (S.ok _ _ hT).str (bound_ev hR hl) (bound_ev hR hu) h1 h2];rfl,.str⟩
theorem s_strLo{n:Int}{sz by_:Nat}{z:List AV}{q:Operand}(hT:S.T t=some ⟨.str,sz,by_,z⟩)(hx:ov σ x=.av (.str a))(hl:ov σ q=.av (.int n))(h0:0≤n)(h1:n.toNat≤a.length) :
  Step S ⟨some d,.slice t x (some q) none none,ty,pos,aft,g⟩ σ (σ.put d (.av (.str (a.drop n.toNat)))):=by
 have:=s_strSl (d:=d) (ty:=ty) (pos:=pos) (aft:=aft) (g:=g) hT hx (ovb hl h0) (show bound σ _ none=some _ from rfl) h1 (Nat.le_refl _)
 rwa [List.take_length] at this
theorem s_strHi{n:Int}{sz by_:Nat}{z:List AV}{q:Operand}(hT:S.T t=some ⟨.str,sz,by_,z⟩)(hx:ov σ x=.av (.str a))(hl:ov σ q=.av (.int n))(h0:0≤n)(h1:n.toNat≤a.length) :
  Step S ⟨some d,.slice t x none (some q) none,ty,pos,aft,g⟩ σ (σ.put d (.av (.str (a.take n.toNat)))):=by
 have:=s_strSl (d:=d) (ty:=ty) (pos:=pos) (aft:=aft) (g:=g) hT hx (show bound σ 0 none=some 0 from rfl) (ovb hl h0) (Nat.zero_le _) h1
 rwa [List.drop_zero] at this
theorem s_strLH{n n2:Int}{sz by_:Nat}{z:List AV}{q q2:Operand}(hT:S.T t=some ⟨.str,sz,by_,z⟩)(hx:ov σ x=.av (.str a))(hl:ov σ q=.av (.int n))(hu:ov σ q2=.av (.int n2))(h0:0≤n)(h1:n≤n2)(h2:n2.toNat≤a.length) :
  Step S ⟨some d,.slice t x (some q) (some q2) none,ty,pos,aft,g⟩ σ (σ.put d (.av (.str ((a.take n2.toNat).drop n.toNat)))) :=
 s_strSl hT hx (ovb hl h0) (ovb hu (by omega)) (by omega) h2
theorem e_toB{src dst e sz by_ sz2 by2 sz3 by3:Nat}{z z2 z3:List AV}(hS:S.T src=some ⟨.str,sz,by_,z⟩)(hD:S.T dst=some ⟨.slice e,sz2,by2,z2⟩)(hE:S.T e=some ⟨.int .u8,sz3,by3,z3⟩)(hx:ov σ x=.av (.str a)) :
  EStep S ⟨some d,.convert src dst x,ty,pos,aft,g⟩ σ (σ.put d (.av (.sl false 1 (a.map b8)))):=by
 intro w0 L0 N c w hN ⟨L,hR⟩
 have hrun:=Lib.run_convert_string_bytes (P:=S.P) w src dst e ⟨a.toArray⟩ (S.ok _ _ hS).str (S.ok _ _ hD).slice (S.ok _ _ hE).intk
 have hsz:=Lib.bytesWorld_size w e ⟨a.toArray⟩
 have hext:Ext w (Lib.bytesWorld w e ⟨a.toArray⟩):=by
  refine⟨rfl,rfl,rfl,by omega,fun b hb=>Lib.bytesWorld_at_old w e _ b hb⟩
 have hLs:L w.heap.size=.sh:=by
  cases h:L w.heap.size with
  | sh=>rfl
  | fo=>exact absurd h (hR.lok.new _ hR.keep.size)
  | my p=>exact absurd (hR.lok.lt _ _ h) (Nat.lt_irrefl _)
 refine⟨_,_,.inl (by simp only [execOp,ev_str hR hx,Sem.run_bind,hrun];rfl),Rel.putPlain (n:=d) (hR.ext hext) (hN d rfl) rfl rfl ?_⟩
 simp only [Hold]
 rw [mk_size]
 cases ha:a with
 | nil=>exact .slE (by simp)
 | cons a0 ar =>
  rw [← ha]
  have hcap:a.length≤grownCap w a.length 0 e:=grownCap_ge ..
  rw [show a.length=(a.map b8).length by simp]
  refine .slS (fun o=>.int .u8 ((a.getD o 0).toNat:Int)) (by simpa using hcap) hLs (by omega) (fun x hx=>by obtain⟨y,_,rfl⟩:=List.mem_map.1 hx;rfl) (fun o ho=>?_) (fun o y hy=>?_)
  ·rw [Nat.zero_add]
   have:=Lib.bytesWorld_cell w e ⟨a.toArray⟩ o (by rw [mk_size];simpa using ho)
   simpa using this
  ·rw [flat_single (fun x hx=>by obtain⟨y,_,rfl⟩:=List.mem_map.1 hx;rfl),List.getElem?_map,Option.map_eq_some_iff] at hy
   obtain⟨b,hb,rfl⟩:=hy
   rw [List.getD_eq_getElem?_getD,hb];exact .val
theorem run_bytesStr{P:Program}{e:Nat}{L:Nat→Lab}{w:World}{π:Option (List Nat)}{o:Bool}{xs:List AV}{v:Value}(h:Rep L w π (.sl o 1 xs) v)(l:List UInt8)(hl:∀ (i:Nat) (y:AV),xs[i]?=some y→∃ b,l[i]?=some b∧y=b8 b)(hlen:l.length=xs.length){w':World}(he:Ext w w')(hlt:∀ b p,L b=.my p→b<w.heap.size) :
  (Conv.bytesToString v).run P w'=.ok (.string ⟨l.toArray⟩) w':=by
 obtain⟨adr,cap,rfl⟩:=sl_inv h
 cases adr with
 | none =>
  have:xs=[]:=by cases h with|slE=>rfl
  subst this
  have:l=[]:=List.eq_nil_of_length_eq_zero hlen
  subst this
  simp [Conv.bytesToString];rfl
 | some adr =>
  have hcells:∀ j v,(l.map fun b=>Value.int .u8 (b.toNat:Int))[j]?=some v→w'.cell? (adr.add j)=some v:=by
   intro j v hv
   rw [List.getElem?_map,Option.map_eq_some_iff] at hv
   obtain⟨b,hb,rfl⟩:=hv
   have hj:j<xs.length:=by rw [← hlen];exact(List.getElem?_eq_some_iff.1 hb).1
   obtain⟨b',hb',hy⟩:=hl j xs[j] (List.getElem?_eq_getElem hj)
   rw [hb] at hb';cases hb'
   have hr:=Rep.ext hlt he h
   have hfl:(flat xs)[j]?=some (b8 b):=by
    have hs:∀ x∈xs,x.cells=[x]:=fun x hx=>by
     obtain⟨i,hi⟩:=List.getElem?_of_mem hx
     obtain⟨b,_,rfl⟩:=hl i x hi;rfl
    rw [flat_single hs,List.getElem?_eq_getElem hj,hy]
   generalize hxs:xs.length=n at hr
   cases hr with
   | slE=>simp at hj
   | slS u _ _ _ _ hc hr =>
    rw [addr_add,hc j (by omega)]
    have:=hr j _ hfl
    generalize u j=z at this
    cases this;rfl
   | slO u _ hb0 _ _ _ hc hr =>
    rw [addr_add,cell_of_row w' _ _ _ _ (0,0) hb0,Nat.zero_add,hc j (by omega)]
    have:=hr j _ hfl
    generalize u j=z at this
    cases this;rfl
  have hload:=run_loadCells_list (P:=P) w' adr (l.map fun b=>Value.int .u8 (b.toNat:Int)) hcells
  rw [List.length_map,hlen] at hload
  have hfold:∀ (F:Value→ByteArray→Sem (ForInStep ByteArray)),(∀ (b:UInt8) r,F (.int .u8 (b.toNat:Int)) r=pure (ForInStep.yield (r.push b)))→∀ (l:List UInt8) (s:ByteArray),(forIn (l.map fun b=>Value.int .u8 (b.toNat:Int)) s F:Sem ByteArray).run P w'=.ok (s++⟨l.toArray⟩) w':=by
   intro F hF l
   induction l with
   | nil=>intro s;simp;apply ByteArray.ext;simp
   | cons b l ih =>
    intro s
    rw [List.map_cons,List.forIn_cons,hF]
    simp only [Sem.run_bind,Sem.run_pure,Result.andThen_ok]
    rw [ih (s.push b)]
    congr 1
    apply ByteArray.ext
    simp
  simp only [Conv.bytesToString,Sem.run_bind,hload,Result.andThen_ok,List.forIn_toArray]
  rw [hfold _ (fun b r=>by simp) l ByteArray.empty]
  simp only [Result.andThen_ok,Sem.run_pure]
  congr 2
theorem s_strB{src dst e sz by_ sz2 by2 sz3 by3:Nat}{z z2 z3:List AV}{o:Bool}{xs:List AV}(l:List UInt8)(hS:S.T src=some ⟨.slice e,sz,by_,z⟩)(hD:S.T dst=some ⟨.str,sz2,by2,z2⟩)(hE:S.T e=some ⟨.int .u8,sz3,by3,z3⟩)(hx:rd σ (ov σ x)=.sl o 1 xs)(hl:∀ (i:Nat) (y:AV),xs[i]?=some y→∃ b,l[i]?=some b∧y=b8 b)(hlen:l.length=xs.length) :
  Step S ⟨some d,.convert src dst x,ty,pos,aft,g⟩ σ (σ.put d (.av (.str l))) :=
 step_val rfl fun w0 L0 N c w L hR=>⟨.string ⟨l.toArray⟩,fun w' he=>by
  obtain⟨L',π,hm,_,h⟩:=rd_ok hR hx (by simp)
  have hrun:=run_bytesStr (P:=S.P) (e:=e) h l hl hlen he (fun b p hb=>hR.lok.lt b p (hm b p hb))
  have hv:=sl_inv h
  obtain⟨adr,cap,hv⟩:=hv
  simp only [execOp,Sem.run_bind]
  have:(convert src dst (c.eval x)).run S.P w'=(Conv.bytesToString (c.eval x)).run S.P w':=by
   rw [hv]
   cases adr<;>simp [convert,run_underlying (S.ok _ _ hS).slice,run_underlying (S.ok _ _ hD).str,run_underlying (S.ok _ _ hE).intk]
  rw [this,hrun];rfl,.str⟩
theorem s_str1{src dst e sz by_ sz2 by2 sz3 by3 n:Nat}{z z2 z3:List AV}{o:Bool}(hx:rd σ (ov σ x)=.sl o 1 [u8 n])(hS:S.T src=some ⟨.slice e,sz,by_,z⟩)(hD:S.T dst=some ⟨.str,sz2,by2,z2⟩)(hE:S.T e=some ⟨.int .u8,sz3,by3,z3⟩)(hn:n<256) :
  Step S ⟨some d,.convert src dst x,ty,pos,aft,g⟩ σ (σ.put d (.av (.str [UInt8.ofNat n]))) :=
 s_strB [UInt8.ofNat n] hS hD hE hx (fun i y hy=>by
  match i with
  | 0=>simp only [List.getElem?_cons_zero,Option.some.injEq] at hy;subst hy;exact⟨_,rfl,by simp [u8,b8,Nat.mod_eq_of_lt hn]⟩
  | i+1=>simp at hy) rfl
theorem s_str2{src dst e sz by_ sz2 by2 sz3 by3 n m:Nat}{z z2 z3:List AV}{o:Bool}(hx:rd σ (ov σ x)=.sl o 1 [u8 n,u8 m])(hS:S.T src=some ⟨.slice e,sz,by_,z⟩)(hD:S.T dst=some ⟨.str,sz2,by2,z2⟩)(hE:S.T e=some ⟨.int .u8,sz3,by3,z3⟩)(hn:n<256)(hm:m<256) :
  Step S ⟨some d,.convert src dst x,ty,pos,aft,g⟩ σ (σ.put d (.av (.str [UInt8.ofNat n,UInt8.ofNat m]))) :=
 s_strB [UInt8.ofNat n,UInt8.ofNat m] hS hD hE hx (fun i y hy=>by
  match i with
  | 0=>simp only [List.getElem?_cons_zero,Option.some.injEq] at hy;subst hy;exact⟨_,rfl,by simp [u8,b8,Nat.mod_eq_of_lt hn]⟩
  | 1=>simp only [List.getElem?_cons_succ,List.getElem?_cons_zero,Option.some.injEq] at hy;subst hy;exact⟨_,rfl,by simp [u8,b8,Nat.mod_eq_of_lt hm]⟩
  | i+2=>simp at hy) rfl
end
end
theorem noSh_plain{x:AV}(h:x.flatPlain=true):NoSh x:=by
 cases x<;>first|exact .int|exact .bool|exact .str|exact .val|exact .nil|(simp [AV.flatPlain] at h)
theorem noSh_aggL{cs:List AV}(h:cs.all AV.flatPlain=true):NoSh (.agg cs):=.agg fun x hx=>noSh_plain (List.all_eq_true.1 h x hx)
section
variable {S:Sys} {σ:St} {d:Nat} {ty:Nat} {pos:String} {aft:Array Edge} {g:Option (Nat×Bool)}
inductive FillOk(σ:St):Nat→List AV→List (Nat×Operand)→List AV→Prop
 | nil {k}:FillOk σ k [] [] []
 | part {k i:Nat} {z y:AV} {x:Operand} {zs ys:List AV} {ps:List (Nat×Operand)} (hi:Nat.beq k i=true) (hx:ov σ x=.av y) (hy:y.cellOk=true) (ho:y.isOwn=false) (h:FillOk σ (k+1) zs ps ys):FillOk σ k (z::zs) ((i,x)::ps) (y::ys)
 | zero {k:Nat} {z:AV} {zs ys:List AV} {ps:List (Nat×Operand)} (h:FillOk σ (k+1) zs ps ys):FillOk σ k (z::zs) ps (z::ys)
theorem FillOk.length{k:Nat}{zs ys:List AV}{ps:List (Nat×Operand)}(h:FillOk σ k zs ps ys):ys.length=zs.length:=by
 induction h with
 | nil=>rfl
 | part _ _ _ _ _ ih=>simp [ih]
 | zero _ ih=>simp [ih]
theorem FillOk.run{w0:World}{L0:Nat→Lab}{N:Nat}{a:Act}{w:World}{L:Nat→Lab}(hR:RelL S w0 L0 N σ a w L){place:Nat→Option (Nat×Nat)}{n:Nat}(hp:∀ i,i<n→place i=some (i,1)){k:Nat}{zs ys:List AV}{ps:List (Nat×Operand)}(h:FillOk σ k zs ps ys) :
  ∀ cells:Array Value,cells.size=n→k+zs.length=n→(∀ j z,zs[j]?=some z→∃ u,cells[k+j]?=some u∧Rep L w none z u) →
   ∃ cells',Instr.fill place cells (ps.map fun p=>(p.1,a.eval p.2))=some cells'∧cells'.size=n∧(∀ j,j<k→cells'[j]?=cells[j]?)∧∀ j y,ys[j]?=some y→∃ u,cells'[k+j]?=some u∧Rep L w none y u:=by
 induction h with
 | nil=>exact fun cells hs _ _=>⟨cells,rfl,hs,fun _ _=>rfl,fun j y hy=>by simp at hy⟩
 | @part k i z y x zs ys ps hi hx hy ho _ ih =>
  intro cells hs hk hz
  have hi:=Nat.eq_of_beq_eq_true hi
  subst hi
  rw [List.length_cons] at hk
  obtain⟨m,hm⟩:=ev_av hR hx
  obtain⟨c1,c2,c3⟩:=cellOk_spec hm hy
  have hm':Rep L w none y (a.eval x):=Rep.replace hm ho
  have hlt:k<cells.size:=by omega
  obtain⟨cells',e1,e2,e3,e4⟩:=ih (cells.setIfInBounds k (a.eval x)) (by simp [hs]) (by omega) (fun j z' hz'=>by
   obtain⟨u,hu,hr⟩:=hz (j+1) z' (by simpa using hz')
   refine⟨u,?_,hr⟩
   rw [Array.getElem?_setIfInBounds_ne (by omega),show k+1+j=k+(j+1) by omega];exact hu)
  refine⟨cells',?_,e2,fun j hj=>by rw [e3 j (by omega),Array.getElem?_setIfInBounds_ne (by omega)],fun j y' hy'=>?_⟩
  ·simp only [List.map_cons,Instr.fill,hp k (by omega)]
   have hsz:(a.eval x).cells.size=1:=by rw [c1];rfl
   have hne:((a.eval x).cells.size≠1||k+(a.eval x).cells.size>cells.size)=false:=by
    simp [hsz];omega
   simp only [hne,Bool.false_eq_true,if_false]
   have hf:((a.eval x).cells.zipIdx.foldl (fun cs (p:Value×Nat)=>cs.setIfInBounds (k+p.2) p.1) cells)=cells.setIfInBounds k (a.eval x):=by
    rw [c1];simp
   rw [← hf] at e1
   exact e1
  ·cases j with
   | zero =>
    simp only [List.getElem?_cons_zero,Option.some.injEq] at hy';subst hy'
    refine⟨a.eval x,?_,hm'⟩
    rw [Nat.add_zero,e3 k (by omega)]
    simp [hlt]
   | succ j =>
    simp only [List.getElem?_cons_succ] at hy'
    obtain⟨u,hu,hr⟩:=e4 j y' hy'
    exact⟨u,by rw [show k+(j+1)=k+1+j by omega];exact hu,hr⟩
 | @zero k z zs ys ps _ ih =>
  intro cells hs hk hz
  rw [List.length_cons] at hk
  obtain⟨cells',e1,e2,e3,e4⟩:=ih cells hs (by omega) (fun j z' hz'=>by
   obtain⟨u,hu,hr⟩:=hz (j+1) z' (by simpa using hz')
   exact⟨u,by rw [show k+1+j=k+(j+1) by omega];exact hu,hr⟩)
  refine⟨cells',e1,e2,fun j hj=>e3 j (by omega),fun j y' hy'=>?_⟩
  cases j with
  | zero =>
   simp only [List.getElem?_cons_zero,Option.some.injEq] at hy';subst hy'
   obtain⟨u,hu,hr⟩:=hz 0 z rfl
   exact⟨u,by rw [Nat.add_zero,e3 k (by omega)];exact hu,hr⟩
  | succ j =>
   simp only [List.getElem?_cons_succ] at hy'
   obtain⟨u,hu,hr⟩:=e4 j y' hy'
   exact⟨u,by rw [show k+(j+1)=k+1+j by omega];exact hu,hr⟩
def ones1(T:Nat→Option TI):List (Nat×Nat)→Nat→Bool
 | [],_=>true
 | f::fs,j=>Nat.beq f.1 j&&(match T f.2 with|some ti=>Nat.beq ti.size 1|none=>false)&&ones1 T fs (j+1)
theorem ones1_get{T:Nat→Option TI}:∀ {fs:List (Nat×Nat)} {j i:Nat} {f:Nat×Nat},ones1 T fs j=true→fs[i]?=some f→f.1=j+i∧∃ ti,T f.2=some ti∧ti.size=1
 | [],j,i,f,_,h=>by simp at h
 | x::fs,j,i,f,h,hf=>by
  simp only [ones1,Bool.and_eq_true] at h
  cases i with
  | zero =>
   simp only [List.getElem?_cons_zero,Option.some.injEq] at hf;subst hf
   refine⟨Nat.eq_of_beq_eq_true h.1.1,?_⟩
   have h2:=h.1.2
   cases hT:T x.2 with
   | none=>rw [hT] at h2;cases h2
   | some ti=>rw [hT] at h2;exact⟨ti,rfl,Nat.eq_of_beq_eq_true h2⟩
  | succ i =>
   simp only [List.getElem?_cons_succ] at hf
   have:=ones1_get (j:=j+1) h.2 hf
   exact⟨by omega,this.2⟩
theorem s_bldS{t sz by_:Nat}{fs:List (Nat×Nat)}{zz ys:List AV}{ps:Array (Nat×Operand)}(hT:S.T t=some ⟨.struct fs,sz,by_,zz⟩)(hf:ones1 S.T fs 0=true)(hl:Nat.beq fs.length sz=true)(hp:FillOk σ 0 zz ps.toList ys):Step S ⟨some d,.build t ps,ty,pos,aft,g⟩ σ (σ.put d (.av (.agg ys))):=by
 refine step_val rfl fun w0 L0 N a w L hR=>?_
 have hl:=Nat.eq_of_beq_eq_true hl
 obtain⟨f,zv,hf1,hf2,hf3,hf4,hf5,hf6,hf7⟩:=(S.ok t _ hT).info
 obtain⟨dd,hd,fields,hde,hfl⟩:=(S.ok t _ hT).desc
 subst hde
 simp only at hf2 hf3 hf5 hf6 hf7
 have hfz:fields.size=sz:=by
  have:=congrArg List.length hfl
  rw [List.length_map,Array.length_toList] at this
  omega
 have hzl:zz.length=sz:=by
  have:=congrArg List.length hf5
  rw [List.length_map,Array.length_toList] at this
  omega
 have hcell:∀ j z,zz[j]?=some z→∃ u,zv.cells[0+j]?=some u∧Rep L w none z u:=fun j z hz=>by
  refine⟨z.toV,?_,toV_rep (List.all_eq_true.1 hf6 z (List.mem_of_getElem? hz))⟩
  rw [Nat.zero_add,←Array.getElem?_toList,hf5,List.getElem?_map,hz];rfl
 have hfield:∀ (i:Nat) (fd:Field),fields[i]?=some fd→fd.offset=i∧∃ fe,S.P.info? fd.type=some fe∧fe.size=1:=fun i fd hfd=>by
  have h1:fs[i]?=some (fd.offset,fd.type):=by rw [← hfl,List.getElem?_map,Array.getElem?_toList,hfd];rfl
  obtain⟨h2,ti,h3,h4⟩:=ones1_get hf h1
  obtain⟨fe,h5,h6⟩:=(S.ok _ ti h3).size
  exact⟨by simpa using h2,fe,h5,by rw [h6,h4]⟩
 obtain⟨cells',e1,e2,_,e4⟩:=hp.run hR (place:=fun i=>((Array.range sz).map fun i=>(i,1))[i]?) (n:=sz) (fun i hi=>by simp [hi]) zv.cells hf7 (by rw [hzl];omega) hcell
 refine⟨.agg cells',fun w' _=>?_,?_⟩
 ·have hplaces:(fields.mapM fun f=>do pure (f.offset,←Go.sizeOf f.type):Sem (Array (Nat×Nat))).run S.P w'=.ok ((Array.range sz).map fun i=>(i,1)) w':=by
   have hmr:=mapM_run (P:=S.P) (w:=w') (fun f:Field=>(do pure (f.offset,←Go.sizeOf f.type):Sem (Nat×Nat))) fields.toList ((List.range sz).map fun i=>(i,1)) (by simp [hfz]) (fun k x v hx hv=>by
    rw [Array.getElem?_toList] at hx
    obtain⟨h1,fe,h2,h3⟩:=hfield k x hx
    have hk:k<sz:=by rw [← hfz];exact(Array.getElem?_eq_some_iff.1 hx).1
    rw [List.getElem?_map,List.getElem?_range hk] at hv
    simp only [Option.map_some,Option.some.injEq] at hv
    subst hv
    simp [Go.sizeOf,typeInfo,h2,h3,h1])
   rw [Array.mapM_eq_mapM_toList]
   simp only [map_eq_pure_bind,Sem.run_bind,hmr,Result.andThen_ok,Sem.run_pure]
   congr 1
   apply Array.ext'
   simp
  simp only [execOp,Sem.run_bind,Instr.build,zeroValue,typeInfo,run_program,hf1,hf4,Result.andThen_ok,Sem.run_pure,run_underlying hd]
  rw [hplaces]
  simp only [Result.andThen_ok,Array.toList_map]
  rw [show(ps.toList.map fun x=>match x with|(i,x)=>(i,a.eval x))=ps.toList.map fun p=>(p.1,a.eval p.2) from rfl,e1]
  simp
 ·have hys:ys.length=sz:=by rw [hp.length,hzl]
  have:(Value.agg cells')=.agg cells'.toList.toArray:=by simp
  rw [this]
  refine .agg (by rw [Array.length_toList,e2,hys]) fun i x v hx hv=>?_
  obtain⟨u,hu,hr⟩:=e4 i x hx
  rw [Nat.zero_add] at hu
  rw [Array.getElem?_toList,hu] at hv
  cases hv
  exact hr
theorem s_nilR{x:Operand}{s:Nat}{o:Bool}{cs:List AV}(hx:ov σ x=.ref s)(hs:get σ s=.av (.pt o cs))(hsd:Nat.beq s d=false):Step S ⟨some d,.nilCheck x,ty,pos,aft,g⟩ σ (σ.put d (.ref s)):=by
 intro w0 L0 N a w hN ⟨L,h⟩
 obtain⟨m,hm,_⟩:=hold_plain h hx (by simp)
 simp only [Hold] at hm
 have hh:=h.hold s (own_lt h hs (by simp))
 rw [hs,←hm] at hh
 obtain⟨ad,hv⟩:∃ ad,a.eval x=.pointer (some ad):=by generalize a.eval x=v at hh;cases hh<;>exact⟨_,rfl⟩
 refine⟨a.eval x,fun w' _=>?_,_,h.put (hN d rfl) ?_⟩
 ·simp [execOp,hv]
 ·simp only [Hold]
  rw [hm,getD_set_other (fun e=>of_not_beq hsd e.symm)]
theorem s_nilS{x:Operand}{cs:List AV}(hx:ov σ x=.av (.pt false cs)):Step S ⟨some d,.nilCheck x,ty,pos,aft,g⟩ σ (σ.put d (.av (.pt false cs))) :=
 step_val rfl fun w0 L0 N c w L hR=>by
  obtain⟨m,hm⟩:=ev_av hR hx
  obtain⟨ad,hv⟩:∃ ad,c.eval x=.pointer (some ad):=by generalize c.eval x=v at hm;cases hm;exact⟨_,rfl⟩
  exact⟨c.eval x,fun w' _=>by simp [execOp,hv],Rep.replace hm rfl⟩
end
end FM
