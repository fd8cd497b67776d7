/- Part of the proof. -/
import Derived.Test.YtmbbagbhmjaedaaGreatDoorCaj
import Derived.Lib.ConvBytes
import Derived.Lib.Strings
set_option linter.all false
namespace FM
open Go Go.RowKit
variable {a t t2 sz cA src dst tJ tK e b W3 tM:Nat}{x y q:Operand}{z z2 z3:List AV}{r:AV}{n:Int}{o:Bool}{P:Program}
theorem ny:∀ (x y:List UInt8),Op.bytesLess x y=decide (x<y)
 | x,[]=>by rw [decide_eq_false ag];cases x<;>rfl
 | [],b::y=>by rw [decide_eq_true ag];rfl
 | a::x,b::y=>by
  have ih:=ny x y;unfold Op.bytesLess;rw [ih,aiG,decide_eq_true_iff,List.cons_lt_cons_iff];simp
abbrev u8(n:Nat):AV:=.val (.int .u8 (n:Int))
abbrev u16(n:Nat):AV:=.val (.int .u16 (n:Int))
def rC(a n:Nat):Nat:=a*2 ^ n%65536
theorem qz(a n:Nat):rC a n<65536:=Nat.mod_lt _ af
abbrev b8(b:UInt8):AV:=.val (.int .u8 (b.toNat:Int))
section
variable {S:Sys} {σ:St} {d:Nat} {ty:Nat} {pos:String} {aft:Array Edge} {g:Option (Nat×Bool)}
theorem s_binV{op:BinOp}{t t2:Nat}{u v:Value}(hx:ov σ x=.av (.val u))(hy:ov σ y=.av (.val v))(hr:r.aW=false)
  (h:∃ z,(∀ (L:Nat->aO) (w:World),Rep L w none r z)/\∀ w,(do eqGuard op t x y u v;binOp op t u v:Sem Value).run S.P w=.ok z w) :
  Step S ⟨some d,.binOp op t x y t2,ty,pos,aft,g⟩ σ (σ.put d (.av r)):=by
 obtain⟨z,h1,h2⟩:=h;refine step_val hr fun w0 L0 N c w L hR=>⟨z,fun w' _=>?_,h1 L w⟩;have e:=h2 w';simp only [execOp,vV hR hx,vV hR hy] at e ⊢;simp only [Sem.run_bind] at e ⊢;rw [e];rfl
theorem s_binVI{op:BinOp}{t t2:Nat}{u:Value}(hx:ov σ x=.av (.val u))(hy:ov σ y=.av (.int n))(hr:r.aW=false)
  (h:∃ z,(∀ (L:Nat->aO) (w:World),Rep L w none r z)/\∀ w,(do eqGuard op t x y u (.int .i64 n);binOp op t u (.int .i64 n):Sem Value).run S.P w=.ok z w) :
  Step S ⟨some d,.binOp op t x y t2,ty,pos,aft,g⟩ σ (σ.put d (.av r)):=by
 obtain⟨z,h1,h2⟩:=h;refine step_val hr fun w0 L0 N c w L hR=>⟨z,fun w' _=>?_,h1 L w⟩;have e:=h2 w';simp only [execOp,vV hR hx,eu hR hy] at e ⊢;simp only [Sem.run_bind] at e ⊢;rw [e];rfl
theorem wrap_u16(h:a<65536):IntKind.u16.wrap (a:Int)=a:=by
 simp only [IntKind.wrap,IntKind.bits,IntKind.signed,aiL,ahD,if_false];omega
theorem wrap_u8(h:a<256):IntKind.u8.wrap (a:Int)=a:=by
 simp only [IntKind.wrap,IntKind.bits,IntKind.signed,aiL,ahD,if_false];omega
theorem uQ:IntKind.u16.wrap (a:Int)=((a%65536:Nat):Int):=by
 simp only [IntKind.wrap,IntKind.bits,IntKind.signed,aiL,ahD,if_false];omega
theorem yL:IntKind.u8.wrap (a:Int)=((a%256:Nat):Int):=by
 simp only [IntKind.wrap,IntKind.bits,IntKind.signed,aiL,ahD,if_false];omega
theorem qA(ha:a<65536)(hb:b<65536):a ^^^ b<65536:=Nat.xor_lt_two_pow (n:=16) ha hb
theorem Ub(ha:a<65536):(BitVec.ofInt 16 (a:Int)).toNat=a:=by
 rw [BitVec.ofInt_natCast,BitVec.toNat_ofNat];omega
theorem bv8(ha:a<256):(BitVec.ofInt 8 (a:Int)).toNat=a:=by
 rw [BitVec.ofInt_natCast,BitVec.toNat_ofNat];omega
theorem DL(hx:ov σ x=.av (u16 a))(hy:ov σ y=.av (u16 b))(ha:a<65536)(hb:b<65536):Step S ⟨some d,.binOp .xor t x y t2,ty,pos,aft,g⟩ σ (σ.put d (.av (u16 (a ^^^ b)))) :=
 s_binV hx hy rfl ⟨_,fun _ _=>.val,fun w=>by
  have e:((BitVec.ofInt 16 (a:Int)) ^^^ (BitVec.ofInt 16 (b:Int))).toNat=a ^^^ b:=by rw [BitVec.toNat_xor,Ub ha,Ub hb]
  simp only [eqGuard,binOp,Op.intBits,Sem.run_bind]
  have e2:IntKind.u16.wrap (((BitVec.ofInt 16 (a:Int)) ^^^ (BitVec.ofInt 16 (b:Int))).toNat:Int)=((a ^^^ b:Nat):Int):=by rw [e,wrap_u16 (qA ha hb)]
  exact congrArg (fun z=>Result.ok (Value.int .u16 z) w) e2⟩
theorem DM{n:Nat}(hx:ov σ x=.av (u16 a))(hy:ov σ y=.av (.val (.int .u64 (n:Int))))(hn:n<=16):Step S ⟨some d,.binOp .shl t x y t2,ty,pos,aft,g⟩ σ (σ.put d (.av (u16 (rC a n)))) :=
 s_binV hx hy rfl ⟨_,fun _ _=>.val,fun w=>by
  have h0:¬ ((n:Int)<0):=ae
  have e1:min n 16=n:=ae
  have e2:(a:Int)*2 ^ n=((a*2 ^ n:Nat):Int):=ag
  simp only [eqGuard,binOp,Op.shift,h0,if_false,ahN,IntKind.bits,e1,e2,uQ]
  rfl⟩
theorem yM(a n:Nat):Int.fdiv (a:Int) (2 ^ n)=((a / 2 ^ n:Nat):Int):=by
 rw [Int.fdiv_eq_ediv_of_nonneg _ (by exact Int.pow_nonneg af)];simp
theorem DN{n:Nat}(hx:ov σ x=.av (u16 a))(hy:ov σ y=.av (.val (.int .u64 (n:Int))))(hn:n<=16):Step S ⟨some d,.binOp .shr t x y t2,ty,pos,aft,g⟩ σ (σ.put d (.av (u16 (shr a n)))) :=
 s_binV hx hy rfl ⟨_,fun _ _=>.val,fun w=>by
  have h0:¬ ((n:Int)<0):=ae
  have e1:min n 16=n:=ae
  simp only [eqGuard,binOp,Op.shift,h0,if_false,ahN,IntKind.bits,e1,yM]
  rfl⟩
theorem Fv(hx:ov σ x=.av (u16 a))(hy:ov σ y=.av (.val (.int .u64 8))):Step S ⟨some d,.binOp .shl t x y t2,ty,pos,aft,g⟩ σ (σ.put d (.av (u16 (rC a 8)))):=DM hx hy af
theorem Fw(hx:ov σ x=.av (u16 a))(hy:ov σ y=.av (.val (.int .u64 1))):Step S ⟨some d,.binOp .shl t x y t2,ty,pos,aft,g⟩ σ (σ.put d (.av (u16 (rC a 1)))):=DM hx hy af
theorem BC(hx:ov σ x=.av (u16 a))(hy:ov σ y=.av (.val (.int .u64 15))):Step S ⟨some d,.binOp .shr t x y t2,ty,pos,aft,g⟩ σ (σ.put d (.av (u16 (shr a 15)))):=DN hx hy af
theorem Fx(hx:ov σ x=.av (u16 a))(hy:ov σ y=.av (.val (.int .u64 8))):Step S ⟨some d,.binOp .shr t x y t2,ty,pos,aft,g⟩ σ (σ.put d (.av (u16 (shr a 8)))):=DN hx hy af
theorem HV(hx:ov σ x=.av (u16 a))(hy:ov σ y=.av (.val (.int .u16 4129)))(ha:a<65536):Step S ⟨some d,.binOp .xor t x y t2,ty,pos,aft,g⟩ σ (σ.put d (.av (u16 (a ^^^ 4129)))):=DL hx hy ha af
theorem LF{n:Nat}(hx:ov σ x=.av (u8 a))(hy:ov σ y=.av (.int (n:Int)))(hn:n<=8):Step S ⟨some d,.binOp .shr t x y t2,ty,pos,aft,g⟩ σ (σ.put d (.av (u8 (shr a n)))) :=
 s_binVI hx hy rfl ⟨_,fun _ _=>.val,fun w=>by
  have h0:¬ ((n:Int)<0):=ae
  have e1:min n 8=n:=ae
  simp only [eqGuard,binOp,Op.shift,h0,if_false,ahN,IntKind.bits,e1,yM]
  rfl⟩
theorem LG(hx:ov σ x=.av (u8 a))(hy:ov σ y=.av (.val (.int .u8 1)))(ha:a<256):Step S ⟨some d,.binOp .and t x y t2,ty,pos,aft,g⟩ σ (σ.put d (.av (u8 (a%2)))) :=
 s_binV hx hy rfl ⟨_,fun _ _=>.val,fun w=>by
  have e:((BitVec.ofInt 8 (a:Int)) &&& (BitVec.ofInt 8 1)).toNat=a%2:=by
   rw [BitVec.toNat_and,bv8 ha,show(BitVec.ofInt 8 1).toNat=1 from rfl,Nat.and_one_is_mod]
  have e2:IntKind.u8.wrap (((BitVec.ofInt 8 (a:Int)) &&& (BitVec.ofInt 8 1)).toNat:Int)=((a%2:Nat):Int):=by rw [e,wrap_u8 ae]
  simp only [eqGuard,binOp,Op.intBits,Sem.run_bind]
  exact congrArg (fun z=>Result.ok (Value.int .u8 z) w) e2⟩
theorem LH(hx:ov σ x=.av (u16 a))(hy:ov σ y=.av (u16 b))(hb:0<b)(ha:a<65536):Step S ⟨some d,.binOp .quo t x y t2,ty,pos,aft,g⟩ σ (σ.put d (.av (u16 (a / b)))) :=
 s_binV hx hy rfl ⟨_,fun _ _=>.val,fun w=>by
  have h0:¬ ((b:Int)=0):=ae
  have e:Int.tdiv (a:Int) (b:Int)=((a / b:Nat):Int):=rfl
  have hl:a / b<65536:=Nat.lt_of_le_of_lt (Nat.div_le_self _ _) ha
  simp only [eqGuard,binOp,Op.intDiv,h0,if_false,e,wrap_u16 hl]
  rfl⟩
theorem LI(hx:ov σ x=.av (u16 a))(hy:ov σ y=.av (u16 b))(hb:0<b):Step S ⟨some d,.binOp .rem t x y t2,ty,pos,aft,g⟩ σ (σ.put d (.av (u16 (a%b)))) :=
 s_binV hx hy rfl ⟨_,fun _ _=>.val,fun w=>by
  have h0:¬ ((b:Int)=0):=ae
  have e:Int.tmod (a:Int) (b:Int)=((a%b:Nat):Int):=rfl
  simp only [eqGuard,binOp,Op.intDiv,h0,if_false,e]
  rfl⟩
section
variable {t t2:Nat} {x y:Operand} {k:IntKind} {a b:Int}
theorem Qf(hx:ov σ x=.av (.val (.int k a)))(hy:ov σ y=.av (.val (.int k b))):Step S ⟨some d,.binOp .eql t x y t2,ty,pos,aft,g⟩ σ (σ.put d (.av (.bool (decide (a=b))))) :=
 s_binV hx hy rfl ⟨_,fun _ _=>.bool,fun w=>by simp [eqGuard,binOp,Op.intCmp];rw [aiG];simp⟩
theorem Qg(hx:ov σ x=.av (.val (.int k a)))(hy:ov σ y=.av (.val (.int k b))):Step S ⟨some d,.binOp .neq t x y t2,ty,pos,aft,g⟩ σ (σ.put d (.av (.bool (decide (a≠b))))) :=
 s_binV hx hy rfl ⟨_,fun _ _=>.bool,fun w=>by simp [eqGuard,binOp,Op.intCmp];rw [aiG];simp⟩
theorem Qh(hx:ov σ x=.av (.val (.int k a)))(hy:ov σ y=.av (.val (.int k b))):Step S ⟨some d,.binOp .lss t x y t2,ty,pos,aft,g⟩ σ (σ.put d (.av (.bool (decide (a<b))))) :=
 s_binV hx hy rfl ⟨_,fun _ _=>.bool,fun w=>by simp [eqGuard,binOp,Op.intCmp]⟩
theorem Qi(hx:ov σ x=.av (.val (.int k a)))(hy:ov σ y=.av (.val (.int k b))):Step S ⟨some d,.binOp .gtr t x y t2,ty,pos,aft,g⟩ σ (σ.put d (.av (.bool (decide (b<a))))) :=
 s_binV hx hy rfl ⟨_,fun _ _=>.bool,fun w=>by simp [eqGuard,binOp,Op.intCmp]⟩
end
theorem tT.Fy{k:IntKind}(h:tT P t ⟨.int k,sz,cA,z⟩):P.underlying t=some (.int k):=by
 obtain⟨dd,hd,he⟩:=h.desc;simp only [TK.er] at he;subst he;exact hd
theorem s_cvV{k k0 k':IntKind}{a:Int}(hS:S.T src=some ⟨.int k0,sz,cA,z⟩)(hD:S.T dst=some ⟨.int k',tJ,tK,z2⟩)(hx:ov σ x=.av (.val (.int k a)))(hr:r.aW=false)(hz:∀ (L:Nat->aO) (w:World),Rep L w none r (.int k' (k'.wrap a))):
  Step S ⟨some d,.convert src dst x,ty,pos,aft,g⟩ σ (σ.put d (.av r)) :=
 step_val hr fun w0 L0 N c w L hR=>⟨_,fun w' _=>by
  simp [execOp,vV hR hx,convert,run_underlying (S.ok _ _ hS).Fy,run_underlying (S.ok _ _ hD).Fy,Conv.intToInt],hz L w⟩
theorem s_cvI{k0 k':IntKind}{a:Int}(hS:S.T src=some ⟨.int k0,sz,cA,z⟩)(hD:S.T dst=some ⟨.int k',tJ,tK,z2⟩)(hx:ov σ x=.av (.int a))(hr:r.aW=false)(hz:∀ (L:Nat->aO) (w:World),Rep L w none r (.int k' (k'.wrap a))):
  Step S ⟨some d,.convert src dst x,ty,pos,aft,g⟩ σ (σ.put d (.av r)) :=
 step_val hr fun w0 L0 N c w L hR=>⟨_,fun w' _=>by
  simp [execOp,eu hR hx,convert,run_underlying (S.ok _ _ hS).Fy,run_underlying (S.ok _ _ hD).Fy,Conv.intToInt],hz L w⟩
section
variable {src dst sz cA tJ tK a:Nat} {z z2:List AV} {x:Operand}
theorem HW(hS:S.T src=some ⟨.int .u8,sz,cA,z⟩)(hD:S.T dst=some ⟨.int .u16,tJ,tK,z2⟩)(hx:ov σ x=.av (u8 a))(ha:a<256):Step S ⟨some d,.convert src dst x,ty,pos,aft,g⟩ σ (σ.put d (.av (u16 a))) :=
 s_cvV hS hD hx rfl fun L w=>by rw [wrap_u16 ae];exact .val
theorem HX(hS:S.T src=some ⟨.int .u8,sz,cA,z⟩)(hD:S.T dst=some ⟨.int .i64,tJ,tK,z2⟩)(hx:ov σ x=.av (u8 a))(ha:a<256):Step S ⟨some d,.convert src dst x,ty,pos,aft,g⟩ σ (σ.put d (.av (.int a))) :=
 s_cvV hS hD hx rfl fun L w=>by rw [IntWalk.i64_in _ ae];exact .int
theorem HY(hS:S.T src=some ⟨.int .u16,sz,cA,z⟩)(hD:S.T dst=some ⟨.int .u8,tJ,tK,z2⟩)(hx:ov σ x=.av (u16 a)):Step S ⟨some d,.convert src dst x,ty,pos,aft,g⟩ σ (σ.put d (.av (u8 (a%256)))) :=
 s_cvV hS hD hx rfl fun L w=>by rw [yL];exact .val
theorem HZ(hS:S.T src=some ⟨.int .i64,sz,cA,z⟩)(hD:S.T dst=some ⟨.int .u8,tJ,tK,z2⟩)(hx:ov σ x=.av (.int (a:Int))):Step S ⟨some d,.convert src dst x,ty,pos,aft,g⟩ σ (σ.put d (.av (u8 (a%256)))) :=
 s_cvI hS hD hx rfl fun L w=>by rw [yL];exact .val
theorem Fz(hS:S.T src=some ⟨.int .i64,sz,cA,z⟩)(hD:S.T dst=some ⟨.int .u16,tJ,tK,z2⟩)(hx:ov σ x=.av (.int (a:Int))):Step S ⟨some d,.convert src dst x,ty,pos,aft,g⟩ σ (σ.put d (.av (u16 (a%65536)))) :=
 s_cvI hS hD hx rfl fun L w=>by rw [uQ];exact .val
end
theorem tT.str{P:Program}{t sz cA:Nat}{z:List AV}(h:tT P t ⟨.str,sz,cA,z⟩):P.underlying t=some .string:=by
 obtain⟨dd,hd,he⟩:=h.desc;simp only [TK.er] at he;subst he;exact hd
theorem cK(s:List UInt8):ByteArray.size ⟨s.toArray⟩=s.length:=by simp [ByteArray.size]
theorem lE(s:List UInt8):ByteArray.toList ⟨s.toArray⟩=s:=by rw [Lib.toList_data]
theorem s_strOp{op:BinOp}{t t2:Nat}{a b:List UInt8}(hx:ov σ x=.av (.str a))(hy:ov σ y=.av (.str b))(hr:r.aW=false)
  (h:∃ z,(∀ (L:Nat->aO) (w:World),Rep L w none r z)/\∀ w,(do eqGuard op t x y (.string ⟨a.toArray⟩) (.string ⟨b.toArray⟩);binOp op t (.string ⟨a.toArray⟩) (.string ⟨b.toArray⟩):Sem Value).run S.P w=.ok z w) :
  Step S ⟨some d,.binOp op t x y t2,ty,pos,aft,g⟩ σ (σ.put d (.av r)):=by
 obtain⟨z,h1,h2⟩:=h;refine step_val hr fun w0 L0 N c w L hR=>⟨z,fun w' _=>?_,h1 L w⟩;have e:=h2 w';simp only [execOp,kD hR hx,kD hR hy] at e ⊢;simp only [Sem.run_bind] at e ⊢;rw [e];rfl
section
variable {t t2:Nat} {x y:Operand} {a b:List UInt8}
theorem DQ(hx:ov σ x=.av (.str a))(hy:ov σ y=.av (.str b)):Step S ⟨some d,.binOp .eql t x y t2,ty,pos,aft,g⟩ σ (σ.put d (.av (.bool (decide (a=b))))) :=
 s_strOp hx hy rfl ⟨_,fun _ _=>.bool,fun w=>by simp [eqGuard,binOp,Op.stringOp,lE];rw [aiG];simp⟩
theorem DU(hx:ov σ x=.av (.str a))(hy:ov σ y=.av (.str b)):Step S ⟨some d,.binOp .neq t x y t2,ty,pos,aft,g⟩ σ (σ.put d (.av (.bool (decide (a≠b))))) :=
 s_strOp hx hy rfl ⟨_,fun _ _=>.bool,fun w=>by simp [eqGuard,binOp,Op.stringOp,lE];rw [aiG];simp⟩
theorem H0(hx:ov σ x=.av (.str a))(hy:ov σ y=.av (.str [])):Step S ⟨some d,.binOp .eql t x y t2,ty,pos,aft,g⟩ σ (σ.put d (.av (.bool (decide (a=[]))))):=DQ hx hy
theorem H2(hx:ov σ x=.av (.str a))(hy:ov σ y=.av (.str [])):Step S ⟨some d,.binOp .neq t x y t2,ty,pos,aft,g⟩ σ (σ.put d (.av (.bool (decide (a≠[]))))):=DU hx hy
theorem LJ(hx:ov σ x=.av (.str a))(hy:ov σ y=.av (.str b)):Step S ⟨some d,.binOp .lss t x y t2,ty,pos,aft,g⟩ σ (σ.put d (.av (.bool (decide (a<b))))) :=
 s_strOp hx hy rfl ⟨_,fun _ _=>.bool,fun w=>by simp [eqGuard,binOp,Op.stringOp,lE,ny,-List.not_lt,-List.not_le]⟩
theorem LK(hx:ov σ x=.av (.str a))(hy:ov σ y=.av (.str b)):Step S ⟨some d,.binOp .leq t x y t2,ty,pos,aft,g⟩ σ (σ.put d (.av (.bool (decide (a<b∨a=b))))) :=
 s_strOp hx hy rfl ⟨_,fun _ _=>.bool,fun w=>by simp [eqGuard,binOp,Op.stringOp,lE,ny,-List.not_lt,-List.not_le];rw [aiG];simp⟩
theorem H3(hx:ov σ x=.av (.str a))(hy:ov σ y=.av (.str b))(hl:a.length+b.length<=9223372036854775807):Step S ⟨some d,.binOp .add t x y t2,ty,pos,aft,g⟩ σ (σ.put d (.av (.str (a++b)))) :=
 s_strOp hx hy rfl ⟨.string ⟨(a++b).toArray⟩,fun _ _=>.str,fun w=>by
  have h0:¬ (((a.length+b.length:Nat):Int)>IntKind.i64.max):=by simp only [IntKind.max,IntKind.signed,IntKind.bits,if_true];omega
  have e:(⟨a.toArray⟩:ByteArray)++⟨b.toArray⟩=⟨(a++b).toArray⟩:=by apply ByteArray.ext;simp
  simp only [eqGuard,binOp,Op.stringOp,cK,h0,if_false,e]
  rfl⟩
theorem LL{b:UInt8}(hT:S.T t=some ⟨.str,sz,cA,z⟩)(hx:ov σ x=.av (.str a))(hy:ov σ y=.av (.int n))(h0:0<=n)(h1:a[n.toNat]?=some b):Step S ⟨some d,.index t x y,ty,pos,aft,g⟩ σ (σ.put d (.av (b8 b))) :=
 step_val rfl fun w0 L0 N c w L hR=>⟨.int .u8 (b.toNat:Int),fun w' _=>by
  have hg:(⟨a.toArray⟩:ByteArray)[n.toNat]?=some b:=by
   have hl:=(aho.1 h1).1
   have:n.toNat<ByteArray.size ⟨a.toArray⟩:=by rw [cK];exact hl
   rw [getElem?_pos (⟨a.toArray⟩:ByteArray) n.toNat this]
   have h2:=(aho.1 h1).2
   exact congrArg some (h2▸rfl)
  simp [execOp,kD hR hx,eu hR hy,Instr.index,asIntOf,run_underlying (S.ok _ _ hT).str,h0,hg],.val⟩
theorem wy(ht:P.underlying t=some .string){s:List UInt8}{lo hi:Option Value}{l u:Nat}(hl:(lo=none/\l=0)∨lo=some (.int .i64 (l:Nat)))(hu:(hi=none/\u=s.length)∨hi=some (.int .i64 (u:Nat)))(h1:l<=u)(h2:u<=s.length)(w:World):
  (Instr.sliceAt t (.string ⟨s.toArray⟩) lo hi none).run P w=.ok (.string ⟨((s.take u).drop l).toArray⟩) w:=by
 have e:(⟨s.toArray⟩:ByteArray).extract l u=⟨((s.take u).drop l).toArray⟩:=by
  rw [Lib.extract_eq,List.drop_take]
 have k1:(u:Int)<=(s.length:Int):=ae;have k2:(l:Int)<=(u:Int):=ae;have k3:(l:Int)<=(s.length:Int):=ae;rcases hl with⟨rfl,rfl⟩|rfl<;>rcases hu with⟨rfl,rfl⟩|rfl
 ·simp [Instr.sliceAt,Instr.slice,run_underlying ht,Instr.sliceBounds,cK,<-e]
 ·simp only [Instr.sliceAt,Instr.slice,Sem.run_bind,run_underlying ht,Result.andThen_ok,Instr.sliceBounds,Instr.sliceBound,asIntOf,cK,Sem.run_pure,e,ahN];simp [h2];simpa using e
 ·simp only [Instr.sliceAt,Instr.slice,Sem.run_bind,run_underlying ht,Result.andThen_ok,Instr.sliceBounds,Instr.sliceBound,asIntOf,cK,Sem.run_pure,e,ahN];simp [h1];simpa using e
 ·simp only [Instr.sliceAt,Instr.slice,Sem.run_bind,run_underlying ht,Result.andThen_ok,Instr.sliceBounds,Instr.sliceBound,asIntOf,cK,Sem.run_pure,e,ahN];simp [h1,h2];simpa using e
theorem s_strSl{lo hi:Option Operand}{l u:Nat}(hT:S.T t=some ⟨.str,sz,cA,z⟩)(hx:ov σ x=.av (.str a))(hl:bound σ 0 lo=some l)(hu:bound σ a.length hi=some u)(h1:l<=u)(h2:u<=a.length):
  Step S ⟨some d,.slice t x lo hi none,ty,pos,aft,g⟩ σ (σ.put d (.av (.str ((a.take u).drop l)))) :=
 step_val rfl fun w0 L0 N c w L hR=>⟨_,fun w' _=>by
  simp only [execOp,Option.map_none,kD hR hx,Sem.run_bind]
  rw [wy (S.ok _ _ hT).str (ji hR hl) (ji hR hu) h1 h2];rfl,.str⟩
theorem LM(hT:S.T t=some ⟨.str,sz,cA,z⟩)(hx:ov σ x=.av (.str a))(hl:ov σ q=.av (.int n))(h0:0<=n)(h1:n.toNat<=a.length):
  Step S ⟨some d,.slice t x (some q) none none,ty,pos,aft,g⟩ σ (σ.put d (.av (.str (a.drop n.toNat)))):=by
 have:=s_strSl (d:=d) (ty:=ty) (pos:=pos) (aft:=aft) (g:=g) hT hx (PW hl h0) (show bound σ _ none=some _ from rfl) h1 (ahr _)
 rwa [ah7] at this
theorem LN(hT:S.T t=some ⟨.str,sz,cA,z⟩)(hx:ov σ x=.av (.str a))(hl:ov σ q=.av (.int n))(h0:0<=n)(h1:n.toNat<=a.length):
  Step S ⟨some d,.slice t x none (some q) none,ty,pos,aft,g⟩ σ (σ.put d (.av (.str (a.take n.toNat)))):=by
 have:=s_strSl (d:=d) (ty:=ty) (pos:=pos) (aft:=aft) (g:=g) hT hx (show bound σ 0 none=some 0 from rfl) (PW hl h0) (ahQ _) h1
 rwa [List.drop_zero] at this
theorem LO{n2:Int}{q2:Operand}(hT:S.T t=some ⟨.str,sz,cA,z⟩)(hx:ov σ x=.av (.str a))(hl:ov σ q=.av (.int n))(hu:ov σ q2=.av (.int n2))(h0:0<=n)(h1:n<=n2)(h2:n2.toNat<=a.length):
  Step S ⟨some d,.slice t x (some q) (some q2) none,ty,pos,aft,g⟩ σ (σ.put d (.av (.str ((a.take n2.toNat).drop n.toNat)))) :=
 s_strSl hT hx (PW hl h0) (PW hu ae) ae h2
theorem Uc(hS:S.T src=some ⟨.str,sz,cA,z⟩)(hD:S.T dst=some ⟨.slice e,tJ,tK,z2⟩)(hE:S.T e=some ⟨.int .u8,W3,tM,z3⟩)(hx:ov σ x=.av (.str a)):
  EStep S ⟨some d,.convert src dst x,ty,pos,aft,g⟩ σ (σ.put d (.av (.sl false 1 (a.map b8)))):=by
 intro w0 L0 N c w hN ⟨L,hR⟩;have aD:=Lib.run_convert_string_bytes (P:=S.P) w src dst e ⟨a.toArray⟩ (S.ok _ _ hS).str (S.ok _ _ hD).slice (S.ok _ _ hE).Fy;have bc:=Lib.bytesWorld_size w e ⟨a.toArray⟩;have q7:Ext w (Lib.bytesWorld w e ⟨a.toArray⟩):=by
  refine⟨rfl,rfl,rfl,ae,fun b hb=>Lib.bytesWorld_at_old w e _ b hb⟩
 have hLs:L w.heap.size=.sh:=by
  cases h:L w.heap.size with
  | sh=>rfl
  | fo=>exact absurd h (hR.lok.new _ hR.keep.size)
  | my p=>exact absurd (hR.lok.lt _ _ h) (Nat.lt_irrefl _)
 refine⟨_,_,.inl (by simp only [execOp,kD hR hx,Sem.run_bind,aD];rfl),Rel.aT (n:=d) (hR.ext q7) (hN d rfl) rfl rfl ?_⟩;simp only [Hold];rw [cK]
 cases ha:a with
 | nil=>exact .slE ag
 | cons a0 ar =>
  rw [<- ha];have bK:a.length<=grownCap w a.length 0 e:=grownCap_ge ..;rw [show a.length=(a.map b8).length by simp];refine .slS (fun o=>.int .u8 ((a.getD o 0).toNat:Int)) (by simpa using bK) hLs ae (fun x hx=>by obtain⟨y,_,rfl⟩:=ahY.1 hx;rfl) (fun o ho=>?_) (fun o y hy=>?_)
  ·rw [ahR];have:=Lib.bytesWorld_cell w e ⟨a.toArray⟩ o (by rw [cK];simpa using ho);simpa using this
  ·rw [cJ (fun x hx=>by obtain⟨y,_,rfl⟩:=ahY.1 hx;rfl),ahE,ahs] at hy;obtain⟨b,hb,rfl⟩:=hy;rw [ahK,hb];exact .val
theorem wz{P:Program}{e:Nat}{L:Nat->aO}{w:World}{π:Option (List Nat)}{xs:List AV}{v:Value}(h:Rep L w π (.sl o 1 xs) v)(l:List UInt8)(hl:∀ (i:Nat) (y:AV),xs[i]?=some y->∃ b,l[i]?=some b/\y=b8 b)(hlen:l.length=xs.length){w':World}(he:Ext w w')(aA:∀ b p,L b=.my p->b<w.heap.size):
  (Conv.bytesToString v).run P w'=.ok (.string ⟨l.toArray⟩) w':=by
 obtain⟨SM,cap,rfl⟩:=vW h
 cases SM with
 | none =>
  have:xs=[]:=by cases h with|slE=>rfl
  subst this;have:l=[]:=ah4 hlen;subst this;simp [Conv.bytesToString];rfl
 | some SM =>
  have BD:∀ j v,(l.map fun b=>Value.int .u8 (b.toNat:Int))[j]?=some v->w'.cell? (SM.add j)=some v:=by
   intro j v hv;rw [ahE,ahs] at hv;obtain⟨b,hb,rfl⟩:=hv;have hj:j<xs.length:=by rw [<- hlen];exact(aho.1 hb).1
   obtain⟨b',bI,hy⟩:=hl j xs[j] (ahn hj);rw [hb] at bI;cases bI;have hr:=Rep.ext aA he h;have DV:(flat xs)[j]?=some (b8 b):=by
    have hs:∀ x∈xs,x.cells=[x]:=fun x hx=>by
     obtain⟨i,hi⟩:=List.getElem?_of_mem hx;obtain⟨b,_,rfl⟩:=hl i x hi;rfl
    rw [cJ hs,ahn hj,hy]
   generalize ua:xs.length=n at hr
   cases hr with
   | slE=>simp at hj
   | slS u _ _ _ _ hc hr =>
    rw [addr_add,hc j ae];have:=hr j _ DV;generalize u j=z at this;cases this;rfl
   | slO u _ SN _ _ _ hc hr =>
    rw [addr_add,cell_of_row w' _ _ _ _ (0,0) SN,ahR,hc j ae];have:=hr j _ DV;generalize u j=z at this;cases this;rfl
  have N2:=run_loadCells_list (P:=P) w' SM (l.map fun b=>Value.int .u8 (b.toNat:Int)) BD;rw [ahu,hlen] at N2;have Ud:∀ (F:Value->ByteArray->Sem (ForInStep ByteArray)),(∀ (b:UInt8) r,F (.int .u8 (b.toNat:Int)) r=pure (ForInStep.yield (r.push b)))->∀ (l:List UInt8) (s:ByteArray),(forIn (l.map fun b=>Value.int .u8 (b.toNat:Int)) s F:Sem ByteArray).run P w'=.ok (s++⟨l.toArray⟩) w':=by
   intro F hF l
   induction l with
   | nil=>intro s;simp;apply ByteArray.ext;simp
   | cons b l ih =>
    intro s;rw [aiw,List.forIn_cons,hF];simp only [Sem.run_bind,Sem.run_pure,Result.andThen_ok];rw [ih (s.push b)];congr 1
    apply ByteArray.ext;simp
  simp only [Conv.bytesToString,Sem.run_bind,N2,Result.andThen_ok,List.forIn_toArray];rw [Ud _ (fun b r=>ag) l ByteArray.empty];simp only [Result.andThen_ok,Sem.run_pure];congr 2
theorem s_strB{xs:List AV}(l:List UInt8)(hS:S.T src=some ⟨.slice e,sz,cA,z⟩)(hD:S.T dst=some ⟨.str,tJ,tK,z2⟩)(hE:S.T e=some ⟨.int .u8,W3,tM,z3⟩)(hx:rd σ (ov σ x)=.sl o 1 xs)(hl:∀ (i:Nat) (y:AV),xs[i]?=some y->∃ b,l[i]?=some b/\y=b8 b)(hlen:l.length=xs.length):
  Step S ⟨some d,.convert src dst x,ty,pos,aft,g⟩ σ (σ.put d (.av (.str l))) :=
 step_val rfl fun w0 L0 N c w L hR=>⟨.string ⟨l.toArray⟩,fun w' he=>by
  obtain⟨L',π,hm,_,h⟩:=yo hR hx ag
  have aD:=wz (P:=S.P) (e:=e) h l hl hlen he (fun b p hb=>hR.lok.lt b p (hm b p hb))
  have hv:=vW h
  obtain⟨SM,cap,hv⟩:=hv
  simp only [execOp,Sem.run_bind]
  have:(convert src dst (c.eval x)).run S.P w'=(Conv.bytesToString (c.eval x)).run S.P w':=by
   rw [hv]
   cases SM<;>simp [convert,run_underlying (S.ok _ _ hS).slice,run_underlying (S.ok _ _ hD).str,run_underlying (S.ok _ _ hE).Fy]
  rw [this,aD];rfl,.str⟩
theorem Qj{n:Nat}(hx:rd σ (ov σ x)=.sl o 1 [u8 n])(hS:S.T src=some ⟨.slice e,sz,cA,z⟩)(hD:S.T dst=some ⟨.str,tJ,tK,z2⟩)(hE:S.T e=some ⟨.int .u8,W3,tM,z3⟩)(hn:n<256):
  Step S ⟨some d,.convert src dst x,ty,pos,aft,g⟩ σ (σ.put d (.av (.str [UInt8.ofNat n]))) :=
 s_strB [UInt8.ofNat n] hS hD hE hx (fun i y hy=>by
  match i with
  | 0=>simp only [ahq,ahp] at hy;subst hy;exact⟨_,rfl,by simp [u8,b8,Nat.mod_eq_of_lt hn]⟩
  | i+1=>simp at hy) rfl
theorem Qk{n m:Nat}(hx:rd σ (ov σ x)=.sl o 1 [u8 n,u8 m])(hS:S.T src=some ⟨.slice e,sz,cA,z⟩)(hD:S.T dst=some ⟨.str,tJ,tK,z2⟩)(hE:S.T e=some ⟨.int .u8,W3,tM,z3⟩)(hn:n<256)(hm:m<256):
  Step S ⟨some d,.convert src dst x,ty,pos,aft,g⟩ σ (σ.put d (.av (.str [UInt8.ofNat n,UInt8.ofNat m]))) :=
 s_strB [UInt8.ofNat n,UInt8.ofNat m] hS hD hE hx (fun i y hy=>by
  match i with
  | 0=>simp only [ahq,ahp] at hy;subst hy;exact⟨_,rfl,by simp [u8,b8,Nat.mod_eq_of_lt hn]⟩
  | 1=>simp only [ahP,ahq,ahp] at hy;subst hy;exact⟨_,rfl,by simp [u8,b8,Nat.mod_eq_of_lt hm]⟩
  | i+2=>simp at hy) rfl
end
end
end FM
namespace Go.Proofs.YtmbbagbhmjaedaaGreatDoor
open Go FM
def st1(y:Nat):Nat:=if shr y 15=1 then rC y 1 ^^^ 4129 else rC y 1
def ub(y:Nat):Nat->Nat
 | 0=>y
 | j+1=>st1 (ub y j)
def st2(c x i:Nat):Nat:=if x / 32768 ^^^ (shr c i%2)=1 then(x*2%65536) ^^^ 4129 else x*2%65536
def oJ(c x:Nat):Nat->Nat
 | 0=>x
 | j+1=>st2 c (oJ c x j) (7-j)
theorem LP{a b:Nat}:(a ^^^ b)*2%65536=(a*2%65536) ^^^ (b*2%65536):=by
 have h1:(a ^^^ b)*2=a*2 ^^^ b*2:=by
  have:=Nat.shiftLeft_xor_distrib (a:=a) (b:=b) (i:=1);simpa [Nat.shiftLeft_eq] using this
 have h2:=Nat.xor_mod_two_pow (a:=a*2) (b:=b*2) (n:=16);rw [h1];exact h2
theorem Ql{c x i:Nat}:st2 c x i<65536:=by
 unfold st2;split
 ·exact qA ae ae
 ·omega
theorem Qm{y:Nat}:st1 y<65536:=by
 unfold st1;split
 ·exact qA (qz _ _) af
 ·exact qz _ _
theorem wA{c x:Nat}(h:x<65536):∀ j,oJ c x j<65536
 | 0=>h
 | j+1=>Ql
theorem LQ{y:Nat}(h:y<65536):∀ j,ub y j<65536
 | 0=>h
 | j+1=>Qm
theorem LS:∀ c,c<256->∀ j,j<8->(c*2 ^ (8+j)%65536) / 2 ^ 15=c / 2 ^ (7-j)%2/\(c*2 ^ (8+j)%65536)*2%65536=c*2 ^ (9+j)%65536:=by decide +kernel
theorem DW{c x:Nat}(hc:c<256)(hx:x<65536):∀ j,j<=8->ub (x ^^^ rC c 8) j=oJ c x j ^^^ (c*2 ^ (8+j)%65536)
 | 0,_=>rfl
 | j+1,hj=>by
  have ih:=DW hc hx j ae;obtain⟨t1,t2⟩:=LS c hc j ae;have aA:=wA (c:=c) hx j;show st1 (ub _ j)=st2 c (oJ c x j) (7-j) ^^^ _;rw [ih];generalize oJ c x j=X at *;generalize c*2 ^ (8+j)%65536=C at *;have e1:(X ^^^ C) / 2 ^ 15=X / 32768 ^^^ (c / 2 ^ (7-j)%2):=by rw [Nat.xor_div_two_pow,t1]
  have e2:(X ^^^ C)*2 ^ 1%65536=(X*2%65536) ^^^ (c*2 ^ (8+(j+1))%65536):=by
   rw [Nat.pow_one,LP,t2,show 9+j=8+(j+1) by omega]
  unfold st1 st2 shr rC;rw [e1,e2];split
  ·rw [Nat.xor_assoc,Nat.xor_comm (c*2 ^ (8+(j+1))%65536),<-Nat.xor_assoc]
  ·rfl
theorem Ue{c x:Nat}(hc:c<256)(hx:x<65536):ub (x ^^^ rC c 8) 8=oJ c x 8:=by
 rw [DW hc hx 8 (ahr _)];have:c*2 ^ (8+8)%65536=0:=ae;rw [this,Nat.xor_zero]
def lR(s:List UInt8):Nat:=s.foldl (fun x c=>oJ c.toNat x 8) 65535
theorem mE(s:List UInt8):lR s<65536:=by
 unfold lR;have:∀ (s:List UInt8) x,x<65536->s.foldl (fun x c=>oJ c.toNat x 8) x<65536:=fun s=>by
  induction s with
  | nil=>intro x h;exact h
  | cons c s ih=>intro x h;exact ih _ (wA h 8)
 exact this s _ af
theorem yN{s:List UInt8}{k:Nat}(h:k<s.length):lR (s.take (k+1))=oJ s[k].toNat (lR (s.take k)) 8:=by
 unfold lR;rw [aid h,List.foldl_append];rfl
theorem FA{s:List UInt8}{k:Nat}(h:k<s.length):lR (s.take (k+1))=ub (lR (s.take k) ^^^ rC s[k].toNat 8) 8:=by
 rw [yN h,Ue s[k].toNat_lt (mE _)]
def body(rec:List UInt8):List UInt8:=[UInt8.ofNat (rec.length%256)]++rec
def Qn(x:Nat):UInt8:=UInt8.ofNat (x / 256%256)
def Qo(x:Nat):UInt8:=UInt8.ofNat (x%256)
def lF(rec:List UInt8):List UInt8:=body rec++[Qn (lR (body rec)),Qo (lR (body rec))]
theorem bO(rec:List UInt8):(lF rec).length=rec.length+3:=by simp [lF,body]
def nx:List UInt8->Option (List UInt8)
 | []=>none
 | b::r=>if 64<b.toNat∨r.length<b.toNat+2 then none else if lF (r.take b.toNat)=(b::r).take (b.toNat+3) then some (r.take b.toNat) else none
theorem lG(b:UInt8)(r:List UInt8):nx (b::r)=if 64<b.toNat∨r.length<b.toNat+2 then none else if lF (r.take b.toNat)=(b::r).take (b.toNat+3) then some (r.take b.toNat) else none:=rfl
theorem nz{s rec:List UInt8}(h:nx s=some rec):rec.length<=64/\rec.length+3<=s.length/\s.take (rec.length+3)=lF rec:=by
 cases s with
 | nil=>cases h
 | cons b r =>
  rw [lG] at h;split at h
  ·cases h
  ·split at h
   ·rename_i h1 h2;injection h with h
    subst h;have hl:(r.take b.toNat).length=b.toNat:=by rw [ahF];omega
    rw [hl,ahI];exact⟨ae,ae,h2.symm⟩
   ·cases h
def N3:Nat->List UInt8->List (List UInt8)×Nat
 | 0,_=>([],0)
 | f+1,s=>match nx s with
  | none=>([],0)
  | some rec=>(rec::(N3 f (s.drop (rec.length+3))).1,(N3 f (s.drop (rec.length+3))).2+(rec.length+3))
abbrev scan(s:List UInt8):List (List UInt8)×Nat:=N3 s.length s
theorem yO:∀ (f g:Nat) (s:List UInt8),s.length<=f->s.length<=g->N3 f s=N3 g s
 | 0,0,_,_,_=>rfl
 | 0,g+1,s,h,_=>by
  have:s=[]:=ah4 ae;subst this;rfl
 | f+1,0,s,_,h=>by
  have:s=[]:=ah4 ae;subst this;rfl
 | f+1,g+1,s,h1,h2=>by
  unfold N3
  cases h:nx s with
  | none=>rfl
  | some rec =>
   have:=nz h;simp only;rw [yO f g (s.drop (rec.length+3)) (by rw [ahV];omega) (by rw [ahV];omega)]
theorem eY{s:List UInt8}(h:nx s=none):scan s=([],0):=by
 unfold scan
 cases hs:s.length with
 | zero=>rfl
 | succ n=>unfold N3;rw [h]
theorem jj{s rec:List UInt8}(h:nx s=some rec):scan s=(rec::(scan (s.drop (rec.length+3))).1,(scan (s.drop (rec.length+3))).2+(rec.length+3)):=by
 have h1:=nz h;unfold scan
 cases hs:s.length with
 | zero=>omega
 | succ n =>
  rw [N3,h];simp only;rw [yO n (s.drop (rec.length+3)).length _ (by rw [ahV];omega) (ahr _)]
theorem qB:∀ (n:Nat) (s:List UInt8),s.length<=n->(scan s).2<=s.length
 | 0,s,h=>by
  have:s=[]:=ah4 ae;subst this;exact ahr _
 | n+1,s,h=>by
  cases hn:nx s with
  | none=>rw [eY hn];exact ahQ _
  | some rec =>
   have h1:=nz hn;have ih:=qB n (s.drop (rec.length+3)) (by rw [ahV];omega);rw [jj hn];rw [ahV] at ih;simp only;omega
theorem LU{s:List UInt8}{b:UInt8}{p q:UInt8}(h0:s[0]?=some b)(h1:¬ 64<b.toNat)(h2:b.toNat+3<=s.length)(hp:s[b.toNat+1]?=some p)(hq:s[b.toNat+2]?=some q):
  (p=Qn (lR (s.take (b.toNat+1)))/\q=Qo (lR (s.take (b.toNat+1)))->nx s=some ((s.take (b.toNat+1)).drop 1))/\(¬ (p=Qn (lR (s.take (b.toNat+1)))/\q=Qo (lR (s.take (b.toNat+1))))->nx s=none):=by
 cases s with
 | nil=>cases h0
 | cons b' r =>
  simp only [ahq,ahp] at h0;subst h0;rw [ahI] at h2;rw [ahP] at hp hq;have hl:(r.take b'.toNat).length=b'.toNat:=by rw [ahF];omega
  have hb:body (r.take b'.toNat)=(b'::r).take (b'.toNat+1):=by
   unfold body;rw [hl,aiu];have:UInt8.ofNat (b'.toNat%256)=b':=by rw [Nat.mod_eq_of_lt b'.toNat_lt];exact UInt8.ofNat_toNat
   rw [this];rfl
  have ht:(b'::r).take (b'.toNat+3)=(b'::r).take (b'.toNat+1)++[p,q]:=by
   rw [show b'.toNat+3=b'.toNat+2+1 by omega,aiu,aiu];have e1:r.take (b'.toNat+1)=r.take b'.toNat++[p]:=by rw [List.take_succ,hp];rfl
   have e2:r.take (b'.toNat+1+1)=r.take (b'.toNat+1)++[q]:=by rw [List.take_succ,hq];rfl
   rw [show b'.toNat+2=b'.toNat+1+1 by omega,e2,e1];simp
  have hd:((b'::r).take (b'.toNat+1)).drop 1=r.take b'.toNat:=by rw [aiu];rfl
  have Uf:lF (r.take b'.toNat)=(b'::r).take (b'.toNat+3)↔(p=Qn (lR ((b'::r).take (b'.toNat+1)))/\q=Qo (lR ((b'::r).take (b'.toNat+1)))):=by
   unfold lF;rw [hb,ht,List.append_cancel_left_eq];constructor
   ·intro h;injection h with h1 h2;injection h2 with h2 _;exact⟨h1.symm,h2.symm⟩
   ·rintro⟨rfl,rfl⟩;rfl
  rw [lG,if_neg ae];constructor
  ·intro h;rw [if_pos (Uf.2 h),hd]
  ·intro h;rw [if_neg (fun e=>h (Uf.1 e))]
def dk:List (List UInt8)->List UInt8
 | []=>[]
 | r::l=>lF r++dk l
theorem dB:∀ a b:List (List UInt8),dk (a++b)=dk a++dk b
 | [],b=>rfl
 | r::a,b=>by rw [aiO,dk,dB a b,dk,ahX]
theorem oK(r:List UInt8):dk [r]=lF r:=ais _
theorem nA(l:List (List UInt8))(j:Nat):dk (l.take j)++dk (l.drop j)=dk l:=by rw [<- dB,List.take_append_drop]
theorem LV(l:List (List UInt8))(j:Nat):(dk l).take (dk (l.take j)).length=dk (l.take j):=by
 rw [<- nA l j];exact List.take_left' rfl
theorem H4:∀ l:List (List UInt8),l.length<=(dk l).length
 | []=>ahr _
 | r::l=>by
  have:=H4 l;rw [dk,ahC,bO,ahI];omega
theorem yP(r:List UInt8):lF r=UInt8.ofNat (r.length%256)::(r++[Qn (lR (body r)),Qo (lR (body r))]):=by
 unfold lF body;simp
theorem Qp{r:List UInt8}(s:List UInt8)(h:r.length<=64):nx (lF r++s)=some r:=by
 have hb:(UInt8.ofNat (r.length%256)).toNat=r.length:=by rw [UInt8.toNat_ofNat'];omega
 have e:lF r++s=UInt8.ofNat (r.length%256)::(r++([Qn (lR (body r)),Qo (lR (body r))]++s)):=by rw [yP];simp
 have h2:(lF r++s).take (r.length+3)=lF r:=List.take_left' (bO r);rw [e] at h2 ⊢;rw [lG,hb,if_neg (by simp only [ahC,ahI,aim];omega),List.take_left' rfl,h2,if_pos rfl]
theorem Qq{r:List UInt8}(s:List UInt8)(h:r.length<=64){m:Nat}(hm:m<r.length+3):nx ((lF r++s).take m)=none:=by
 have hb:(UInt8.ofNat (r.length%256)).toNat=r.length:=by rw [UInt8.toNat_ofNat'];omega
 rw [yP,aiO]
 cases m with
 | zero=>rfl
 | succ m=>rw [aiu,lG,hb,if_pos (.inr (by rw [ahF];omega))]
theorem rD:∀ (l:List (List UInt8)) (m:Nat),(∀ r∈l,r.length<=64)->m<=(dk l).length ->
  ∃ j,j<=l.length/\(scan ((dk l).take m)).1=l.take j/\(scan ((dk l).take m)).2=(dk (l.take j)).length/\(dk (l.take j)).length<=m/\(m=(dk l).length->j=l.length)
 | [],m,_,hm=>⟨0,ahr _,by
   have:(dk []).take m=[]:=by cases m<;>rfl
   rw [this];exact⟨rfl,rfl,ahQ _,fun _=>rfl⟩⟩
 | r::l,m,h,hm=>by
  have hr:=h r (ahU ..);have qb:(dk (r::l)).length=r.length+3+(dk l).length:=by rw [dk,ahC,bO]
  by_cases hc:m<r.length+3
  ·refine⟨0,ahQ _,?_⟩;rw [dk,eY (Qq _ hr hc)];refine⟨rfl,rfl,ahQ _,fun e=>?_⟩;rw [ahC,bO] at e;omega
  ·obtain⟨j,h1,h2,h3,h4,h5⟩:=rD l (m-(r.length+3)) (fun r hr=>h r (ahW _ hr)) (by rw [qb] at hm;omega);have e:(dk (r::l)).take m=lF r++(dk l).take (m-(r.length+3)):=by
    rw [dk,List.take_append,bO,aiM (by rw [bO];omega)]
   refine⟨j+1,by simpa using h1,?_⟩;rw [e,jj (Qp _ hr),List.drop_left' (bO r),aiu,dk,ahC,bO,h2,h3];refine⟨rfl,?_,ae,fun e=>?_⟩
   ·show(dk (l.take j)).length+(r.length+3)=_;omega
   ·rw [h5 (by have:(dk (r::l)).length=_:=qb;omega)];rfl
theorem DX{l:List (List UInt8)}(h:∀ r∈l,r.length<=64):scan (dk l)=(l,(dk l).length):=by
 obtain⟨j,h1,h2,h3,h4,h5⟩:=rD l (dk l).length h (ahr _);have:=h5 rfl;subst this;rw [ah7,ah7] at h2 h3;exact Prod.ext h2 h3
end Go.Proofs.YtmbbagbhmjaedaaGreatDoor
