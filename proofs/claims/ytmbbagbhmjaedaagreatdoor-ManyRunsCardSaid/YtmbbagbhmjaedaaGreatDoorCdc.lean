/- Part of the proof. -/
import Derived.Test.YtmbbagbhmjaedaaGreatDoorCdb
set_option linter.all false
namespace CO
open Go
section
variable {P:Program} {ρ:Ren}
abbrev PPR:Ren->Value->Value->Prop:=fun ρ a b=>∃ x x',a=.pointer (some x)/\b=.pointer (some x')/\cu ρ x x'
theorem me(ts:Array TypeId)(t:TypeId){x x' y y':Value}(hx:VR ρ x x')(hy:VR ρ y y'):SR P PPR ρ (Builtin.unsafeAdd_ ts t #[x,y]) (Builtin.unsafeAdd_ ts t #[x',y']):=by
 unfold Builtin.unsafeAdd_
 cases hx with
 | ptrN =>
  refine(dH hy).seq fun db hl n _ e=>?_;subst e;refine ar_ite (fun _=>.halt) fun _=>ar_ite (fun _=>.halt) fun _=>.halt
 | ptr ha =>
  refine(dH hy).seq fun db hl n _ e=>?_;subst e;have ha:=ha.mono hl;have Oq:=ha;obtain @⟨b,b',off,spot,hr⟩:=ha;refine ar_ite (fun _=>?_) fun _=>ar_ite (fun _=>.halt) fun _=>?_
  ·refine(lL hr).seq fun dX bZ u v e=>?_
   cases e with
   | none=>exact .pure ⟨_,_,rfl,rfl,Oq.mono bZ⟩
   | some t _=>exact .halt
  ·refine(ll hr).seq fun dX bZ s _ e=>?_;subst e
   cases s with
   | none=>exact .halt
   | some z =>
    obtain⟨e,cells⟩:=z;refine cP ?_;dsimp only
    cases cellAtBytes P P.depth e (cells / P.cellsOf e) off n with
    | none=>exact .halt
    | some o=>exact .pure ⟨_,_,rfl,rfl,.mk o spot (bZ.r _ _ hr)⟩
 | _=>exact .halt
theorem a8(ts:Array TypeId)(t:TypeId){x x' y y':Value}(hx:VR ρ x x')(hy:VR ρ y y'):SR P VV ρ (Builtin.unsafeAdd_ ts t #[x,y]) (Builtin.unsafeAdd_ ts t #[x',y']) :=
 (me ts t hx hy).Bn fun _ _ _ h=>by obtain⟨_,_,rfl,rfl,h⟩:=h;exact .ptr h
theorem pV{a a':Addr}(h:cu ρ a a')(b:Bool):SR P VV ρ (asNumber a b) (asNumber a' b):=.new (.number b h) fun r r' aQ hl hr=>.pure (.ptr (.mk 0 none hr))
theorem dx(t:TypeId){x x' y y':Value}(hx:VR ρ x x')(hy:VR ρ y y'):SR P VV ρ (movedNumber t x y) (movedNumber t x' y'):=by
 unfold movedNumber;refine SR.cl (az t) fun d=>ar_ite (fun _=>.halt) fun _=>?_
 cases hx with
 | ptr ha =>
  refine(dV ha).seq fun db dj p p' e=>?_;obtain⟨e1,e2⟩:=e;obtain⟨a,l⟩:=p;obtain⟨a',l'⟩:=p';dsimp only at e1 e2;subst e2;refine(me #[] t (.ptr e1) (hy.mono dj)).seq fun dX bZ v v' hv=>?_;obtain⟨_,_,rfl,rfl,hb⟩:=hv;exact pV hb l
 | ptrN=>exact a8 #[] t .ptrN hy
 | bool b=>exact a8 #[] t (.bool b) hy
 | int k n=>exact a8 #[] t (.int k n) hy
 | float k n=>exact a8 #[] t (.float k n) hy
 | complex k n m=>exact a8 #[] t (.complex k n m) hy
 | string s=>exact a8 #[] t (.string s) hy
 | sliceN l c=>exact a8 #[] t (.sliceN l c) hy
 | slice l c a=>exact a8 #[] t (.slice l c a) hy
 | mapN=>exact a8 #[] t .mapN hy
 | map r=>exact a8 #[] t (.map r) hy
 | chanN=>exact a8 #[] t .chanN hy
 | func f a b c d e=>exact a8 #[] t (.func f a b c d e) hy
 | nilFunc=>exact a8 #[] t .nilFunc hy
 | iface u v=>exact a8 #[] t (.iface u v) hy
 | nilIface=>exact a8 #[] t .nilIface hy
 | agg a b=>exact a8 #[] t (.agg a b) hy
 | tuple a b=>exact a8 #[] t (.tuple a b) hy
 | junk a=>unfold Builtin.unsafeAdd_;exact .halt
theorem qm(t:TypeId){x x' y y':Value}(hx:VR ρ x x')(hy:VR ρ y y'):SR P VV ρ (movedPointer t x y) (movedPointer t x' y'):=by
 have body:∀ db:Ren,ρ.le db->SR P VV db (Builtin.unsafeAdd_ #[] t #[x,y]) (Builtin.unsafeAdd_ #[] t #[x',y']):=fun db hl=>a8 #[] t (hx.mono hl) (hy.mono hl);unfold movedPointer
 cases hx with
 | @ptr a a' ha =>
  obtain @⟨b,b',off,spot,hr⟩:=ha;refine(pS hr).seq fun db hl u v e=>?_
  cases e with
  | none=>exact body db hl
  | some b _=>exact .halt
 | junk a=>unfold Builtin.unsafeAdd_;exact .halt
 | _=>exact body ρ (.refl ρ)
inductive Cc(P:Program){α:Type}:Sem α->Prop
 | pure (a:α):Cc P (.pure a)
 | program {k:Program->Sem α}:Cc P (k P)->Cc P (.program k)
 | choose {q:Question} {k:Nat->Sem α}:(∀ n,Cc P (k n))->Cc P (.choose q k)
 | halt {h:Halt} (hs:sx h:=by trivial):Cc P (.halt h)
theorem SR.cc{α γ δ:Type}{Q:Ren->γ->δ->Prop}{s:Sem α}{f:α->Sem γ}{g:α->Sem δ}(h:Cc P s)(k:∀ a,SR P Q ρ (f a) (g a)):SR P Q ρ (s >>= f) (s >>= g):=by
 induction h with
 | pure a=>exact k a
 | program _ ih=>exact .program ih
 | choose _ ih=>exact .choose ih
 | halt hs=>exact .halt hs
theorem Cc.bind{α β:Type}{s:Sem α}{f:α->Sem β}(h:Cc P s)(k:∀ a,Cc P (f a)):Cc P (s >>= f):=by
 induction h with
 | pure a=>exact k a
 | program _ ih=>exact .program ih
 | choose _ ih=>exact .choose ih
 | halt hs=>exact .halt hs
theorem mK{c:Prop}[Decidable c]{α:Type}{s t:Sem α}(h1:Cc P s)(h2:Cc P t):Cc P (if c then s else t):=by
 split
 ·exact h1
 ·exact h2
theorem ux(op:BinOp)(k:FloatKind)(x y:Nat):Cc P (Op.floatArith op k x y):=by
 unfold Op.floatArith;have tail:∀ r:Option Nat,Cc P (match r with|some r=>pure (.float k r)|none=>do pure (.float k (<- choose (.nanBits k x y))):Sem Value):=fun r=>by
  cases r with
  | some r=>exact .pure _
  | none=>exact .choose fun n=>.pure _
 cases op<;>first|exact tail _|exact .halt
theorem Ab(op:BinOp)(k:FloatKind)(x y:Nat):Cc P (Op.floatCmp op k x y):=by
 cases op<;>first|exact .pure _|exact .halt
theorem fO(k:FloatKind)(x:Nat)(d:FloatKind):Cc P (Conv.floatToFloat k x d):=by
 unfold Conv.floatToFloat;refine mK (.pure _) ?_;split
 ·exact .choose fun n=>.pure _
 ·exact .pure _
 ·dsimp only;exact mK (.choose fun n=>.pure _) (.pure _)
theorem uy(op:BinOp)(k:FloatKind)(x y:Nat):SR P VV ρ (Op.floatArith op k x y) (Op.floatArith op k x y):=by
 unfold Op.floatArith;have tail:∀ r:Option Nat,SR P VV ρ (match r with|some r=>pure (.float k r)|none=>do pure (.float k (<- choose (.nanBits k x y))):Sem Value) (match r with|some r=>pure (.float k r)|none=>do pure (.float k (<- choose (.nanBits k x y))):Sem Value):=fun r=>by
  cases r with
  | some r=>exact .pure (.float _ _)
  | none=>exact .choose fun n=>.pure (.float _ _)
 cases op<;>first|exact tail _|exact .halt
theorem Ad(op:BinOp)(k:FloatKind)(x y:Nat):SR P VV ρ (Op.floatCmp op k x y) (Op.floatCmp op k x y):=by
 cases op<;>first|exact .pure (.bool _)|exact .halt
theorem qn(k:FloatKind)(x:Nat)(d:FloatKind):SR P VV ρ (Conv.floatToFloat k x d) (Conv.floatToFloat k x d):=by
 unfold Conv.floatToFloat;refine ar_ite (fun _=>.pure (.float _ _)) fun _=>?_;split
 ·exact .choose fun n=>.pure (.float _ _)
 ·exact .pure (.float _ _)
 ·dsimp only;exact ar_ite (fun _=>.choose fun n=>.pure (.float _ _)) fun _=>.pure (.float _ _)
theorem uz(k:FloatKind)(x:Nat)(d:IntKind):SR P VV ρ (Conv.floatToInt k x d) (Conv.floatToInt k x d):=by
 unfold Conv.floatToInt;dsimp only;split
 ·exact ar_ite (fun _=>.pure (.int _ _)) fun _=>.choose fun n=>.pure (.int _ _)
 ·exact .choose fun n=>.pure (.int _ _)
theorem aS(op:BinOp)(k:FloatKind)(x y:Nat):Cc P (Op.Complex.arith op k x y):=(ux op k x y).bind fun v=>by
 cases v<;>first|exact .pure _|exact .halt
theorem Gj(v:Value):Cc P (asBool v):=by cases v<;>first|exact .pure _|exact .halt
theorem mL(op:BinOp)(k:FloatKind)(x y:Nat):Cc P (Op.Complex.cmp op k x y):=(Ab op k x y).bind fun v=>Gj v
theorem lM(k:FloatKind)(x:Nat)(d:FloatKind):Cc P (Op.Complex.conv k x d):=mK (.pure _) ((fO k x d).bind fun v=>by cases v<;>first|exact .pure _|exact .halt)
theorem Cu(a b c d:Nat):Cc P (Op.Complex.product a b c d) :=
 (aS _ _ _ _).bind fun _=>(aS _ _ _ _).bind fun _=>(aS _ _ _ _).bind fun _=>(aS _ _ _ _).bind fun _=>(aS _ _ _ _).bind fun _=>(aS _ _ _ _).bind fun _=>.pure _
theorem nV(s a b c d:Nat):Cc P (Op.Complex.corrected s a b c d) :=
 (aS _ _ _ _).bind fun _=>(aS _ _ _ _).bind fun _=>(aS _ _ _ _).bind fun _=>(aS _ _ _ _).bind fun _=>(aS _ _ _ _).bind fun _=>(aS _ _ _ _).bind fun _=>(aS _ _ _ _).bind fun _=>(aS _ _ _ _).bind fun _=>.pure _
theorem Ae(a b c d:Nat):Cc P (Op.Complex.quotient a b c d):=by
 unfold Op.Complex.quotient
 have tail:∀ e f:Nat,Cc P (do
   let zero:=(<- Op.Complex.cmp .eql .f64 c 0)&&(<- Op.Complex.cmp .eql .f64 d 0)
   if !(Op.Complex.isNaN e&&Op.Complex.isNaN f) then pure (e,f)
   else if zero&&(!Op.Complex.isNaN a||!Op.Complex.isNaN b) then pure (<- Op.Complex.mul (Op.Complex.copysign Op.Complex.inf c) a,<-Op.Complex.mul (Op.Complex.copysign Op.Complex.inf c) b)
   else if (Op.Complex.isInf a||Op.Complex.isInf b)&&Op.Complex.isFinite c&&Op.Complex.isFinite d then Op.Complex.corrected Op.Complex.inf (Op.Complex.inf2one a) (Op.Complex.inf2one b) c d
   else if (Op.Complex.isInf c||Op.Complex.isInf d)&&Op.Complex.isFinite a&&Op.Complex.isFinite b then Op.Complex.corrected 0 a b (Op.Complex.inf2one c) (Op.Complex.inf2one d)
   else pure (e,f):Sem (Nat×Nat)):=fun e f =>
  (mL _ _ _ _).bind fun _=>(mL _ _ _ _).bind fun _=>mK (.pure _) (mK ((aS _ _ _ _).bind fun _=>(aS _ _ _ _).bind fun _=>.pure _) (mK (nV _ _ _ _ _) (mK (nV _ _ _ _ _) (.pure _))))
 refine(mL _ _ _ _).bind fun z=>?_
 cases z with
 | true=>exact(aS _ _ _ _).bind fun _=>(aS _ _ _ _).bind fun _=>(aS _ _ _ _).bind fun _=>(aS _ _ _ _).bind fun _=>(aS _ _ _ _).bind fun _=>(aS _ _ _ _).bind fun _=>(aS _ _ _ _).bind fun _=>(aS _ _ _ _).bind fun _=>(aS _ _ _ _).bind fun _=>tail _ _
 | false=>exact(aS _ _ _ _).bind fun _=>(aS _ _ _ _).bind fun _=>(aS _ _ _ _).bind fun _=>(aS _ _ _ _).bind fun _=>(aS _ _ _ _).bind fun _=>(aS _ _ _ _).bind fun _=>(aS _ _ _ _).bind fun _=>(aS _ _ _ _).bind fun _=>(aS _ _ _ _).bind fun _=>tail _ _
end
variable {a a' b b':Addr}{x y x' y':Value}
section
variable {P:Program} {ρ:Ren}
theorem xC(op:BinOp)(k:FloatKind)(a b c d:Nat):SR P VV ρ (Op.complexOp op k a b c d) (Op.complexOp op k a b c d):=by
 have mq:∀ (s:Nat->Nat->Nat->Nat->Sem (Nat×Nat)),(∀ a b c d,Cc P (s a b c d))->SR P VV ρ (do
   let (a,b,c,d):=(<- Op.Complex.conv k a .f64,<-Op.Complex.conv k b .f64,<-Op.Complex.conv k c .f64,<-Op.Complex.conv k d .f64)
   let (e,f)<-s a b c d
   pure (.complex k (<- Op.Complex.conv .f64 e k) (<- Op.Complex.conv .f64 f k))) (do
   let (a,b,c,d):=(<- Op.Complex.conv k a .f64,<-Op.Complex.conv k b .f64,<-Op.Complex.conv k c .f64,<-Op.Complex.conv k d .f64)
   let (e,f)<-s a b c d
   pure (.complex k (<- Op.Complex.conv .f64 e k) (<- Op.Complex.conv .f64 f k))):=fun s hs =>
  SR.cc (lM _ _ _) fun a=>SR.cc (lM _ _ _) fun b=>SR.cc (lM _ _ _) fun c=>SR.cc (lM _ _ _) fun d=>SR.cc (hs _ _ _ _) fun e=>SR.cc (lM _ _ _) fun x=>SR.cc (lM _ _ _) fun y=>.pure (.complex _ _ _)
 cases op with
 | add=>exact SR.cc (aS _ _ _ _) fun x=>SR.cc (aS _ _ _ _) fun y=>.pure (.complex _ _ _)
 | sub=>exact SR.cc (aS _ _ _ _) fun x=>SR.cc (aS _ _ _ _) fun y=>.pure (.complex _ _ _)
 | mul=>exact mq _ Cu
 | quo=>exact mq _ Ae
 | eql=>exact SR.cc (mL _ _ _ _) fun x=>SR.cc (mL _ _ _ _) fun y=>.pure (.bool _)
 | neq=>exact SR.cc (mL _ _ _ _) fun x=>SR.cc (mL _ _ _ _) fun y=>.pure (.bool _)
 | _=>exact .halt
theorem nW(hg:ρ.g=P.globals.size)(h:cu ρ a a')(g:cu ρ b b'):SR P bM ρ (Op.twoPlaces a b) (Op.twoPlaces a' b'):=by
 unfold Op.twoPlaces;refine cP ?_;have e1:=(h.beq g).1;have lo:=h.lo;rw [hg] at lo;have e3:(a.block != b.block||decide (a.block≥P.globals.size))=(a'.block != b'.block||decide (a'.block≥P.globals.size)):=by
  have e2:decide (a.block≥P.globals.size)=decide (a'.block≥P.globals.size):=by
   apply decide_eq_decide.2;omega
  rw [e2];unfold bne;rw [e1]
 rw [e3];refine ar_ite (fun _=>.halt) fun _=>?_;refine(fb h).seq fun db dj x _ e=>?_;subst e;exact(fb (g.mono dj)).seq fun dX bZ y _ e=>by subst e;exact .pure rfl
theorem Cv(k:IntKind)(hg:ρ.g=P.globals.size)(h:cu ρ a a')(g:cu ρ b b'):SR P VV ρ (Op.addrSub k a b) (Op.addrSub k a' b') :=
 (nW hg h g).seq fun _ _ x _ e=>by subst e;exact .pure (.int _ _)
theorem Cw(op:BinOp)(hg:ρ.g=P.globals.size)(h:cu ρ a a')(g:cu ρ b b'):SR P VV ρ (Op.addrCmp op a b) (Op.addrCmp op a' b') :=
 (nW hg h g).seq fun _ _ x _ e=>by subst e;cases op<;>first|exact .pure (.bool _)|exact .halt
theorem Cy(k:IntKind)(h:cu ρ a a')(n:Int):SR P VV ρ (Op.addrMod k a n) (Op.addrMod k a' n):=by
 have h0:=h;obtain @⟨b,b',off,spot,hr⟩:=h;refine(ll hr).seq fun db hl s _ e=>?_;subst e
 cases s with
 | none=>exact .halt
 | some z =>
  obtain⟨e,m⟩:=z;refine SR.cl (aP e) fun i=>?_;refine ar_ite (fun _=>.halt) fun _=>?_;exact(fb (h0.mono hl)).seq fun _ _ x _ e=>by subst e;exact .pure (.int _ _)
theorem Ru(t:TypeId)(hg:ρ.g=P.globals.size)(hx:VR ρ x x')(hy:VR ρ y y'):SR P VV ρ (do pure (.bool (<- Op.equal t x y)):Sem Value) (do pure (.bool (<- Op.equal t x' y')):Sem Value) :=
 (Aa t hg hx hy).seq fun _ _ b _ e=>by subst e;exact .pure (.bool _)
theorem Rv(t:TypeId)(hg:ρ.g=P.globals.size)(hx:VR ρ x x')(hy:VR ρ y y'):SR P VV ρ (do pure (.bool (!(<- Op.equal t x y))):Sem Value) (do pure (.bool (!(<- Op.equal t x' y'))):Sem Value) :=
 (Aa t hg hx hy).seq fun _ _ b _ e=>by subst e;exact .pure (.bool _)
theorem Gk(op:BinOp)(t:TypeId)(k k':IntKind)(a b:Int):SR P VV ρ (binOp op t (.int k a) (.int k' b)) (binOp op t (.int k a) (.int k' b)):=by
 cases op
 case shl=>simp only [binOp];exact zZ _ _ _ _ _
 case shr=>simp only [binOp];exact zZ _ _ _ _ _
 all_goals
  by_cases h:k=k'
  ·subst h;simp only [binOp,ne_eq,not_true_eq_false,if_false];first|exact pR _ _ _ _|exact Gd _ _ _ _|exact sH _ _ _ _|exact Ge _ _ _
  ·simp only [binOp,ne_eq,h,not_false_eq_true,if_true];exact .halt
theorem Ex(t:TypeId)(hx:VR ρ x x')(hy:VR ρ y y'):SR P VV ρ (do if (<- underlying t) matches .unsafePointer then movedPointer t x y else movedNumber t x y:Sem Value) (do if (<- underlying t) matches .unsafePointer then movedPointer t x' y' else movedNumber t x' y':Sem Value) :=
 SR.cl (az t) fun d=>ar_ite (fun _=>qm t hx hy) fun _=>dx t hx hy
theorem xD(k:IntKind)(h:cu ρ a a')(n:Int):SR P VV ρ (do Op.addrMod k (<- behindNumber a).1 n:Sem Value) (do Op.addrMod k (<- behindNumber a').1 n:Sem Value) :=
 (dV h).seq fun _ _ _ _ e=>Cy k e.1 n
theorem MS(op:BinOp)(hg:ρ.g=P.globals.size)(h:cu ρ a a')(g:cu ρ b b'):SR P VV ρ (do Op.addrCmp op (<- behindNumber a).1 (<- behindNumber b).1:Sem Value) (do Op.addrCmp op (<- behindNumber a').1 (<- behindNumber b').1:Sem Value) :=
 (dV h).seq fun _ dj _ _ e=>(dV (g.mono dj)).seq fun _ bZ _ _ e2=>Cw op ((dj.trans bZ).g.trans hg) (e.1.mono bZ) e2.1
theorem MT(k:IntKind)(hg:ρ.g=P.globals.size)(h:cu ρ a a')(g:cu ρ b b'):SR P VV ρ (do Op.addrSub k (<- behindNumber a).1 (<- behindNumber b).1:Sem Value) (do Op.addrSub k (<- behindNumber a').1 (<- behindNumber b').1:Sem Value) :=
 (dV h).seq fun _ dj _ _ e=>(dV (g.mono dj)).seq fun _ bZ _ _ e2=>Cv k ((dj.trans bZ).g.trans hg) (e.1.mono bZ) e2.1
theorem Vv{op:BinOp}{t:TypeId}(h1:op≠.eql)(h2:op≠.neq)(hx:∀ k n,x≠.int k n)(hx2:∀ k n,x≠.float k n)(hx3:∀ k n m,x≠.complex k n m)(hx4:∀ s,x≠.string s)(hx5:∀ a,x≠.pointer a):Dd P (binOp op t x y):=by
 unfold binOp;split;all_goals first
  | exact .halt trivial
  | exact absurd rfl h1
  | exact absurd rfl h2
  | exact absurd rfl (hx _ _)
  | exact absurd rfl (hx2 _ _)
  | exact absurd rfl (hx3 _ _ _)
  | exact absurd rfl (hx4 _)
  | exact absurd rfl (hx5 _)
theorem Jf(op:BinOp)(t:TypeId)(hg:ρ.g=P.globals.size)(hx:VR ρ x x')(hy:VR ρ y y'):SR P VV ρ (binOp op t x y) (binOp op t x' y'):=by
 have heq:=Ru t hg hx hy;have cr:=Rv t hg hx hy;have K4:=hx;have SI:=hy
 cases hx with
 | int k a =>
  cases hy with
  | int k' b=>exact Gk op t k k' a b
  | ptr hb=>cases op<;>first|exact heq|exact cr|exact dx t SI K4|exact xD k hb (a+1)|exact .halt
  | _=>cases op<;>first|exact heq|exact cr|exact dx t SI K4|exact .halt
 | float k a =>
  cases hy with
  | float k' b =>
   cases op;all_goals
    by_cases h:k=k'
    ·subst h;simp only [binOp,ne_eq,not_true_eq_false,if_false];first|exact uy _ _ _ _|exact Ad _ _ _ _|exact .halt
    ·simp only [binOp,ne_eq,h,not_false_eq_true,if_true];exact .halt
  | _=>cases op<;>first|exact heq|exact cr|exact .halt
 | complex k a b =>
  cases hy with
  | complex k' c d =>
   cases op;all_goals
    by_cases h:k=k'
    ·subst h;simp only [binOp,ne_eq,not_true_eq_false,if_false];exact xC _ _ _ _ _ _
    ·simp only [binOp,ne_eq,h,not_false_eq_true,if_true];exact .halt
  | _=>cases op<;>first|exact heq|exact cr|exact .halt
 | string a =>
  cases hy with
  | string b=>cases op<;>simp only [binOp]<;>exact lh _ _ _
  | _=>cases op<;>first|exact heq|exact cr|exact .halt
 | ptr ha =>
  cases hy with
  | int k n=>cases op<;>first|exact heq|exact cr|exact Ex t K4 SI|exact dx t K4 (.int k (-n))|exact xD k ha n|exact xD k ha (n+1)|exact .halt
  | ptr hb=>cases op<;>first|exact heq|exact cr|exact MT .u64 hg ha hb|exact MS _ hg ha hb|exact .halt
  | _=>cases op<;>first|exact heq|exact cr|exact .halt
 | ptrN =>
  cases hy with
  | int k n=>cases op<;>first|exact heq|exact cr|exact Ex t K4 SI|exact dx t K4 (.int k (-n))|exact .halt
  | _=>cases op<;>first|exact heq|exact cr|exact .halt
 | _ =>
  cases op
  case eql=>exact heq
  case neq=>exact cr
  all_goals exact .dead (Vv (fun h=>by cases h) (fun h=>by cases h) (fun _ _ h=>by cases h) (fun _ _ h=>by cases h) (fun _ _ _ h=>by cases h) (fun _ h=>by cases h) (fun _ h=>by cases h))
end
end CO
namespace CO
open Go
section
variable {P:Program} {ρ:Ren}
theorem Ey{β:Type}{f g:Value->β->Sem (ForInStep β)}(h:∀ aQ,ρ.le aQ->∀ v v',VR aQ v v'->∀ b,SR P bM aQ (f v b) (g v' b)):∀ {l l':List Value} (b:β) {aQ:Ren},ρ.le aQ->LR aQ l l'->SR P bM aQ (forIn l b f) (forIn l' b g)
 | [],_,b,aQ,hl,.nil=>by rw [List.forIn_nil,List.forIn_nil];exact .pure rfl
 | v::l,_,b,aQ,hl,.cons (v':=v') (l':=l') hv hr=>by
  rw [List.forIn_cons,List.forIn_cons];refine(h aQ hl v v' hv b).seq fun dX bZ s _ e=>?_;subst e
  cases s with
  | done b=>exact .pure rfl
  | yield b=>exact Ey h b (hl.trans bZ) (hr.mono bZ)
theorem Af{β:Type}{f g:Value->β->Sem (ForInStep β)}(h:∀ aQ,ρ.le aQ->∀ v v',VR aQ v v'->∀ b,SR P bM aQ (f v b) (g v' b)){p p':Array Value}(hp:AR ρ p p')(b:β):SR P bM ρ (forIn p b f) (forIn p' b g):=by
 rw [<- Array.forIn_toList,<-Array.forIn_toList];exact Ey h b (.refl _) hp.list
theorem o7{x x':Value}(h:VR ρ x x'):SR P VV ρ (Conv.bytesToString x) (Conv.bytesToString x'):=by
 unfold Conv.bytesToString
 cases h with
 | sliceN l c=>exact .pure (.string _)
 | slice l c ha =>
  refine(gC ha l).seq fun db hl p p' hp=>?_;refine SR.seq (Af (fun aQ hl v v' hv b=>?_) hp _) fun dX bZ s _ e=>?_
  ·cases hv with
   | int k n=>cases k<;>first|exact .pure rfl|exact .halt
   | _=>exact .halt
  ·subst e;exact .pure (.string _)
 | _=>exact .halt
theorem o8{x x':Value}(h:VR ρ x x'):SR P VV ρ (Conv.runesToString x) (Conv.runesToString x'):=by
 unfold Conv.runesToString
 cases h with
 | sliceN l c=>exact .pure (.string _)
 | slice l c ha =>
  refine(gC ha l).seq fun db hl p p' hp=>?_;refine SR.seq (Af (fun aQ hl v v' hv b=>?_) hp _) fun dX bZ s _ e=>?_
  ·cases hv with
   | int k n=>cases k<;>first|exact .pure rfl|exact .halt
   | _=>exact .halt
  ·subst e;exact .pure (.string _)
 | _=>exact .halt
theorem vp{acc:Array Value}(h:∀ (i:Nat) x,acc[i]?=some x->∃ k n,x=.int k n)(k:IntKind)(n:Int):∀ (i:Nat) x,(acc.push (.int k n))[i]?=some x->∃ k n,x=.int k n:=fun i x hx=>by
 rw [aiB] at hx;split at hx
 ·cases hx;exact⟨_,_,rfl⟩
 ·exact h i x hx
theorem sL(s:ByteArray):∀ (b i:Nat) (acc:Array Value),(∀ (i:Nat) x,acc[i]?=some x->∃ k n,x=.int k n)->∀ (j:Nat) x,(Conv.runesFrom s b i acc)[j]?=some x->∃ k n,x=.int k n
 | 0,_,_,h=>h
 | b+1,i,acc,h=>by
  unfold Conv.runesFrom;split
  ·exact sL s b _ _ (vp h _ _)
  ·exact h
theorem Ag{a b:Array Value}(ha:∀ (i:Nat) x,a[i]?=some x->∃ k n,x=.int k n)(hb:∀ (i:Nat) x,b[i]?=some x->∃ k n,x=.int k n):∀ (i:Nat) x,(a++b)[i]?=some x->∃ k n,x=.int k n:=fun i x hx=>by
 rw [Array.getElem?_append] at hx;split at hx
 ·exact ha _ _ hx
 ·exact hb _ _ hx
theorem Jg(n:Nat)(k:IntKind)(m:Int):∀ (i:Nat) x,(Array.replicate n (Value.int k m))[i]?=some x->∃ k n,x=.int k n:=fun i x hx=>by
 rw [Array.getElem?_replicate] at hx;split at hx
 ·cases hx;exact⟨_,_,rfl⟩
 ·cases hx
theorem o9(e:TypeId)(s:ByteArray):SR P VV ρ (Conv.stringToRunes e s) (Conv.stringToRunes e s):=by
 unfold Conv.stringToRunes;dsimp only;refine SR.seq (R:=bM) (s:=choose _) (s':=choose _) (.choose fun n=>.pure rfl) fun Cn nf cap _ e2=>?_;subst e2;refine(cm e (AR.ints (Ag (sL s _ _ _ fun i x hx=>by simp at hx) (Jg _ _ _)))).seq fun db dj a a' ha=>?_;exact .pure (.slice _ _ ha)
theorem vq{a a':Addr}(h:cu ρ a a'):SR P cu ρ (Conv.seenAt a) (Conv.seenAt a'):=by
 unfold Conv.seenAt;have h0:=h;obtain @⟨b,b',off,spot,hr⟩:=h;refine(lL hr).seq fun db hl x y e=>?_
 cases e with
 | none=>exact .pure (h0.mono hl)
 | some u hs =>
  rename_i s s';refine ar_ite (fun _=>.pure hs) fun _=>?_;have Iq:=hs;obtain @⟨c,c',o2,s2,Rp⟩:=hs;refine ar_ite (fun _=>.halt) fun _=>?_;refine cP ?_
  cases byteOfCell P P.depth u off with
  | none=>exact .halt
  | some β =>
   refine(ll Rp).seq fun dX bZ z _ e=>?_;subst e
   cases z with
   | none=>exact .halt
   | some z =>
    obtain⟨e,cells⟩:=z;refine ar_ite (fun _=>.halt) fun _=>?_;dsimp only
    cases cellAtBytes P P.depth e (cells / P.cellsOf e) o2 β with
    | none=>exact .halt
    | some q=>exact .pure (.mk q s2 (bZ.r _ _ Rp))
theorem mM{a a':Addr}(h:cu ρ a a')(t:TypeId):SR P VV ρ (do pure (.pointer (some ⟨<- newObj (.view a t),0,none⟩)):Sem Value) (do pure (.pointer (some ⟨<- newObj (.view a' t),0,none⟩)):Sem Value) :=
 .new (.view t h) fun r r' aQ hl hr=>.pure (.ptr (.mk 0 none hr))
theorem pa(src dst:TypeId){x x':Value}(h:VR ρ x x'):SR P VV ρ (Conv.unsafePointer src dst x) (Conv.unsafePointer src dst x'):=by
 unfold Conv.unsafePointer;refine SR.cl (az src) fun d=>?_;refine SR.cl (az dst) fun e=>?_
 have toPtr:∀ {ρ:Ren} {a a':Addr} (u:TypeId),cu ρ a a'->SR P VV ρ (do
  let a<-Conv.seenAt a
  if (<- sizeOf u)=0||(<- variablesAt a u 1) then pure (.pointer (some a))
  else
   match<-shape a.block with
   | some (e,_) =>
    if (<- program).holdsStoodIn (<- program).depth e then unsupported (.unsafePointer "memory that holds a struct of a package that the model stands in for, seen as another type")
   | none=>unsupported (.unsafePointer "memory that has no shape (a package-level variable that still waits for its initialiser), seen as another type")
   pure (.pointer (some ⟨<- newObj (.view a u),0,none⟩)):Sem Value) (do
  let a<-Conv.seenAt a'
  if (<- sizeOf u)=0||(<- variablesAt a u 1) then pure (.pointer (some a))
  else
   match<-shape a.block with
   | some (e,_) =>
    if (<- program).holdsStoodIn (<- program).depth e then unsupported (.unsafePointer "memory that holds a struct of a package that the model stands in for, seen as another type")
   | none=>unsupported (.unsafePointer "memory that has no shape (a package-level variable that still waits for its initialiser), seen as another type")
   pure (.pointer (some ⟨<- newObj (.view a u),0,none⟩)):Sem Value):=fun{ρ a a'} u ha=>by
  refine(vq ha).seq fun db dj b b' hb=>?_;refine SR.cl (aZ u) fun n=>?_;refine(lp hb u 1).seq fun dX bZ z _ e=>?_;subst e;have hb:=hb.mono bZ;refine ar_ite (fun _=>.pure (.ptr hb)) fun _=>?_;have SN:=hb;obtain @⟨c,c',off,spot,hr⟩:=hb;refine(ll hr).seq fun tQ fH s _ e=>?_;subst e
  cases s with
  | none=>exact .halt
  | some w =>
   obtain⟨e,m⟩:=w;refine cP (cP ?_);refine ar_ite (fun _=>.halt) fun _=>?_;exact mM (SN.mono fH) u
 have MU:∀ {ρ:Ren} {a a':Addr} (t:TypeId),cu ρ a a'->SR P VV ρ (do
  let s<-Conv.seenAt a
  let nothing:=match<-cellsIn s.block with
   | some cells=>s.off≥cells&&s.spot.isNone
   | none=>false
  if (<- sizeOf t)=0||nothing then pure (.pointer (some ⟨<- newObj (.view s t),0,none⟩)) else
  pure (.pointer (some s)):Sem Value) (do
  let s<-Conv.seenAt a'
  let nothing:=match<-cellsIn s.block with
   | some cells=>s.off≥cells&&s.spot.isNone
   | none=>false
  if (<- sizeOf t)=0||nothing then pure (.pointer (some ⟨<- newObj (.view s t),0,none⟩)) else
  pure (.pointer (some s)):Sem Value):=fun{ρ a a'} t ha=>by
  refine(vq ha).seq fun db dj b b' hb=>?_;have SN:=hb;obtain @⟨c,c',off,spot,hr⟩:=hb;refine(Cq hr).seq fun dX bZ z _ e=>?_;subst e;refine SR.cl (aZ t) fun n=>?_;refine ar_ite (fun _=>mM (SN.mono bZ) t) fun _=>.pure (.ptr (SN.mono bZ))
 cases h with
 | ptrN=>cases d<;>cases e<;>first|exact .pure .ptrN|exact .pure (.int _ _)|exact .halt
 | ptr ha=>cases d<;>cases e<;>first|exact MU _ ha|exact toPtr _ ha|exact .pure (.ptr ha)|exact pV ha false|exact .halt
 | int k n=>cases d<;>cases e<;>first|exact .halt|(cases n with
   | ofNat m=>cases m<;>exact .halt
   | negSucc m=>exact .halt)
 | _=>cases d<;>cases e<;>exact .halt
theorem lW(k:FloatKind)(a b:Nat)(d:FloatKind):SR P VV ρ (Conv.complexToComplex k a b d) (Conv.complexToComplex k a b d):=by
 unfold Conv.complexToComplex;refine SR.cc (fO _ _ _) fun v=>?_
 cases v with
 | float _ r =>
  refine SR.cc (fO _ _ _) fun v=>?_
  cases v with
  | float _ r=>exact .pure (.complex _ _ _)
  | _=>exact .halt
 | _=>exact .halt
theorem Cz(src dst:TypeId){x x':Value}(h:VR ρ x x'):SR P VV ρ (convert src dst x) (convert src dst x'):=by
 have up:=pa (P:=P) src dst h;have h0:=h;unfold convert;refine SR.cl (az src) fun d=>?_;refine SR.cl (az dst) fun e=>?_
 cases e with
 | int k =>
  cases h with
  | int j n=>exact .pure (.int _ _)
  | float j n=>exact uz _ _ _
  | _=>cases d<;>first|exact up|exact .halt
 | float k =>
  cases h with
  | int j n=>exact .pure (.float _ _)
  | float j n=>exact qn _ _ _
  | _=>cases d<;>first|exact up|exact .halt
 | complex k =>
  cases h with
  | complex j a b=>exact lW _ _ _ _
  | _=>cases d<;>first|exact up|exact .halt
 | string =>
  have toS:∀ el,SR P VV ρ (do
    match<-underlying el with
    | .int .u8=>Conv.bytesToString x
    | .int .i32=>Conv.runesToString x
    | _=>stuck "Convert: a slice of what to string?" : Sem Value) (do
    match<-underlying el with
    | .int .u8=>Conv.bytesToString x'
    | .int .i32=>Conv.runesToString x'
    | _=>stuck "Convert: a slice of what to string?" : Sem Value):=fun el=>SR.cl (az el) fun q=>by
   cases q with
   | int k=>cases k<;>first|exact o7 h0|exact o8 h0|exact .halt
   | _=>exact .halt
  cases h with
  | int j n=>exact .pure (.string _)
  | string s=>exact .pure (.string _)
  | _=>cases d<;>first|exact toS _|exact up|exact .halt
 | slice el =>
  cases h with
  | string s =>
   refine SR.cl (az el) fun q=>?_
   cases q with
   | int k=>cases k<;>first|exact o6 _ _|exact o9 _ _|exact .halt
   | _=>exact .halt
  | slice l c ha =>
   cases d with
   | slice _ =>
    refine SR.cl (az el) fun q=>?_
    cases src==dst with
    | false=>exact .halt
    | true =>
     cases q with
     | int k=>cases k<;>first|exact(jv ha).seq (fun _ hl _ _ _=>.pure (h0.mono hl))|exact .halt
     | _=>exact .halt
   | _=>first|exact up|exact .halt
  | _=>cases d<;>first|exact up|exact .halt
 | unsafePointer=>cases h<;>first|exact up|(cases d<;>first|exact up|exact .halt)
 | _=>cases d<;>first|exact up|exact .halt|(cases h<;>exact .halt)
end
section
variable {P:Program} {ρ:Ren}
theorem vt(t:TypeId):Cl P (elemOf t):=(az t).bind fun d=>by
 cases d<;>first|exact .pure _|exact .halt
theorem qo(ts:Array TypeId)(t:TypeId){x x' y y':Value}(hx:VR ρ x x')(hy:VR ρ y y'):SR P VV ρ (Builtin.unsafeString_ ts t #[x,y]) (Builtin.unsafeString_ ts t #[x',y']):=by
 unfold Builtin.unsafeString_
 cases hx with
 | ptrN =>
  refine(dH hy).seq fun db hl n _ e=>?_;subst e
  cases ts[0]? with
  | none=>exact .halt
  | some pt =>
   refine ar_ite (fun _=>.dead (bg (aq _))) fun _=>ar_ite (fun _=>.halt) fun _=>ar_ite (fun _=>.pure (.string _)) fun _=>.dead (aq _)
 | ptr ha =>
  refine(dH hy).seq fun db hl n _ e=>?_;subst e;have ha:=ha.mono hl
  cases ts[0]? with
  | none=>exact .halt
  | some pt =>
   refine ar_ite (fun _=>.dead (bg (aq _))) fun _=>ar_ite (fun _=>.halt) fun _=>ar_ite (fun _=>.pure (.string _)) fun _=>?_;refine SR.cl (vt pt) fun el=>?_;refine(lp ha el n.toNat).seq fun dX bZ b _ e=>?_;subst e;refine ar_ite (fun _=>?_) fun _=>.halt;refine(nU n.toNat _ (ha.mono bZ)).seq fun tQ fH s _ e=>?_;subst e;exact .freeze (ha.mono (bZ.trans fH)) (.pure (.string _))
 | _=>exact .halt
theorem mN(ts:Array TypeId)(t:TypeId){x x':Value}(hx:VR ρ x x'):SR P VV ρ (Builtin.unsafeSliceData_ ts t #[x]) (Builtin.unsafeSliceData_ ts t #[x']):=by
 unfold Builtin.unsafeSliceData_
 cases hx with
 | sliceN l c=>exact .pure .ptrN
 | slice l c ha =>
  refine ar_ite (fun _=>.pure (.ptr ha)) fun _=>?_;have Oq:=ha;obtain @⟨b,b',off,spot,hr⟩:=ha;refine(lL hr).seq fun db hl x y e=>?_
  cases e with
  | none=>exact SR.cl (vt t) fun el=>mM (Oq.mono hl) el
  | some t _=>exact .pure (.ptr (Oq.mono hl))
 | _=>exact .halt
theorem Gl(t:TypeId){x x':Value}(hx:VR ρ x x')(ht:∀ k e,P.underlying t≠some (.map k e)):SR P VV ρ (Instr.range t x) (Instr.range t x'):=by
 unfold Instr.range;refine Cp t fun d hd=>?_
 cases d with
 | map k e=>exact absurd hd (ht k e)
 | string =>
  cases hx with
  | string s=>exact .new (.iter s 0) fun r r' aQ hl hr=>.pure (.ptr (.mk 0 none hr))
  | _=>exact .halt
 | _=>exact .halt
theorem Jh(t:TypeId){x x':Value}(hx:VR ρ x x'):SR P VV ρ (Instr.next x true t) (Instr.next x' true t):=by
 unfold Instr.next
 cases hx with
 | ptr ha =>
  obtain @⟨b,b',off,spot,hr⟩:=ha
  cases off with
  | succ n=>exact .halt
  | zero =>
   refine .getObj hr fun o o' ho=>?_
   cases ho with
   | iter s pos =>
    refine ar_ite (fun _=>?_) fun _=>.pure (.tuple rfl fun i x y hx hy=>?_)
    ·dsimp only;refine .setObj hr (.iter _ _) (.pure (.tuple rfl fun i x y hx hy=>?_));rw [hx] at hy;cases hy;rcases i with _|_|_|i
     ·cases hx;exact .bool _
     ·cases hx;exact .int _ _
     ·cases hx;exact .int _ _
     ·simp at hx
    ·rw [hx] at hy;cases hy;rcases i with _|i
     ·cases hx;exact .bool _
     ·simp at hx
   | _=>exact .halt
 | _=>exact .halt
theorem Rw{x x' y y':Value}(h:VR ρ x x')(g:VR ρ y y'):SR P VV ρ (Builtin.min2 x y) (Builtin.min2 x' y'):=by
 by_cases hf:∃ k b,x=.float k b
 ·obtain⟨k,b,rfl⟩:=hf
  cases h with
  | float k n =>
   cases g with
   | float k2 m =>
    simp only [Builtin.min2]
    cases k.format.order b m with
    | none=>exact .choose fun n=>.pure (.float _ _)
    | some o=>cases o<;>exact .pure (.float _ _)
   | _=>exact .halt
 ·exact MR h g fun k b e=>hf ⟨k,b,e⟩
theorem Rx{x x' y y':Value}(h:VR ρ x x')(g:VR ρ y y'):SR P VV ρ (Builtin.max2 x y) (Builtin.max2 x' y'):=by
 cases h with
 | int k n=>cases g<;>first|exact .pure (.int _ _)|exact .halt
 | float k n =>
  cases g with
  | float k2 m =>
   simp only [Builtin.max2]
   cases k.format.order n m with
   | none=>exact .choose fun n=>.pure (.float _ _)
   | some o=>cases o<;>exact .pure (.float _ _)
  | _=>exact .halt
 | string s =>
  cases g with
  | string s2 =>
   refine SR.seq (lh .geq s s2) fun db hl a a' ha=>?_;refine SR.seq (oY ha) fun dX bZ b _ e=>?_;subst e;exact .pure (.string _)
  | _=>exact .halt
 | _=>cases g<;>exact .halt
theorem sM{f:Value->Value->Sem Value}(h:∀ {aQ:Ren} {x x' y y':Value},VR aQ x x'->VR aQ y y'->SR P VV aQ (f x y) (f x' y')):∀ {l l':List Value} {aQ:Ren} {x x':Value},LR aQ l l'->VR aQ x x'->SR P VV aQ (l.foldlM f x) (l'.foldlM f x')
 | [],_,aQ,x,x',.nil,hx=>.pure hx
 | v::l,_,aQ,x,x',.cons (l':=l') hv hr,hx=>by
  rw [List.foldlM_cons,List.foldlM_cons];exact(h hx hv).seq fun dX bZ y y' hy=>sM h (hr.mono bZ) hy
theorem MV(ts:Array TypeId)(t:TypeId){p p':Array Value}(h:AR ρ p p'):SR P VV ρ (Builtin.min_ ts t p) (Builtin.min_ ts t p'):=by
 unfold Builtin.min_;have hl:=h.list;generalize p.toList=l at hl;generalize p'.toList=l' at hl
 cases hl with
 | nil=>exact .halt
 | cons hv hr=>exact sM Rw hr hv
theorem MW(ts:Array TypeId)(t:TypeId){p p':Array Value}(h:AR ρ p p'):SR P VV ρ (Builtin.max_ ts t p) (Builtin.max_ ts t p'):=by
 unfold Builtin.max_;have hl:=h.list;generalize p.toList=l at hl;generalize p'.toList=l' at hl
 cases hl with
 | nil=>exact .halt
 | cons hv hr=>exact sM Rx hr hv
theorem CB{x:Value}:Dd P (Instr.panic x):=by
 unfold Instr.panic
 cases x with
 | iface t v=>exact .halt trivial
 | nilIface =>
  refine bo (s:=Instr.panicnil) ?_ fun n=>eH (.halt trivial) (aq _);refine .env fun r=>?_
  cases r with
  | strings env=>exact .program (.pure _)
  | _=>exact .halt trivial
 | _=>exact .halt trivial
end
end CO
