/- Part of the proof. -/
import Derived.Test.YtmbbagbhmjaedaaGreatDoorCda
set_option linter.all false
namespace CO
open Go
section
variable {P:Program} {ρ:Ren}
theorem AR.zeroCells{z z':Array Value}(h:AR ρ z z')(n:Nat):AR ρ (Builtin.zeroCells z n) (Builtin.zeroCells z' n):=by
 unfold Builtin.zeroCells;rw [show n*z'.size=n*z.size from by rw [h.size]];exact h.Jd _
theorem ar_ite{c:Prop}[Decidable c]{α β:Type}{R:Ren->α->β->Prop}{s t:Sem α}{s' t':Sem β}(h1:c->SR P R ρ s s')(h2:¬ c->SR P R ρ t t'):SR P R ρ (if c then s else t) (if c then s' else t'):=by
 split
 ·exact h1 ‹_›
 ·exact h2 ‹_›
theorem Cp{α β:Type}{R:Ren->α->β->Prop}(t:TypeId){f:TypeDesc->Sem α}{g:TypeDesc->Sem β}(h:∀ d,P.underlying t=some d->SR P R ρ (f d) (g d)):SR P R ρ (underlying t >>= f) (underlying t >>= g):=by
 refine .program ?_;show SR P R ρ (Sem.bind (match P.underlying t with|some i=>Sem.pure i|none=>Sem.halt _) f) (Sem.bind (match P.underlying t with|some i=>Sem.pure i|none=>Sem.halt _) g)
 cases hd:P.underlying t with
 | none=>exact .halt
 | some d=>exact h d hd
theorem eH{c:Prop}[Decidable c]{α:Type}{s t:Sem α}(h1:Dd P s)(h2:Dd P t):Dd P (if c then s else t):=by
 split
 ·exact h1
 ·exact h2
theorem ma(a:Addr)(n:Nat):Ts P (Builtin.holdsCells a n):=.shape fun s=>by cases s<;>exact .pure _
theorem cX(a b c:Nat)(base:Option Addr)(x:Value):Ts P (Builtin.mayShare a b c base x):=by
 unfold Builtin.mayShare
 have tail:∀ there:Bool,Ts P (if (!there)=true then(pure true:Sem Bool) else match x with
  | .slice (some d) _ _=>do pure (!(<- Builtin.holdsCells d (c*a))||base.any (·.block==d.block))
  | _=>pure false):=fun there=>by
  split
  ·exact .pure _
  ·split
   ·exact(ma _ _).bind fun _=>.pure _
   ·exact .pure _
 cases base with
 | none=>exact tail true
 | some d=>exact(ma _ _).bind fun h=>.frozen fun z=>tail (h&&!z)
theorem xy(hz:I3 P)(elem:TypeId)(n size:Nat):SR P AR ρ (if n*size=0 then pure #[] else do pure (Builtin.zeroCells (<- zeroValue elem).cells n)) (if n*size=0 then pure #[] else do pure (Builtin.zeroCells (<- zeroValue elem).cells n)) :=
 ar_ite (fun _=>.pure .nil) fun _=>(bN hz elem).seq fun _ _ z z' ur=>.pure (ur.cells.zeroCells _)
theorem Gi(hz:I3 P)(ts:Array TypeId)(t:TypeId){p p':Array Value}(h:AR ρ p p'):SR P VV ρ (Builtin.append_ ts t p) (Builtin.append_ ts t p'):=by
 unfold Builtin.append_
 cases ts0:ts[0]? with
 | none=>exact .halt
 | some dt =>
  rcases sJ h 0 with⟨h1,h2⟩|⟨x,y,h1,h2,hx⟩
  ·rw [h1,h2];exact .halt
  rcases sJ h 1 with⟨h3,h4⟩|⟨u,v,h3,h4,hu⟩
  ·rw [h1,h2,h3,h4];exact .halt
  rw [h1,h2,h3,h4];refine SR.cl (az dt) fun d=>?_
  cases d with
  | slice elem =>
   cases hx with
   | sliceN l c =>
    refine SR.cl (aZ elem) fun size=>?_
    cases ts1:ts[1]? with
    | none =>
     simp only [pure_bind,ahD,if_false,Bool.not_false,if_true,false_or];refine(lj hu).seq fun db dj n _ e=>?_;subst e;try dsimp only
     refine ar_ite (fun c1=>?_) fun c1=>?_
     ·refine(bl size n (hu.mono dj)).seq fun dX bZ p p' hp=>?_;exact .pure (.sliceN _ _)
     ·refine SR.cl (aP elem) fun ti=>?_;refine ar_ite (fun _=>.dead (bg (aq _))) fun _=>?_;refine SR.cl (aP elem) fun Vt=>?_;refine ar_ite (fun _=>.dead ?_) fun _=>?_
      ·first
       | exact bg (bo (cX _ _ _ _ _) fun q=>eH (.mark (.halt trivial)) (.halt trivial))
       | exact bo (cX _ _ _ _ _) fun q=>eH (.mark (.halt trivial)) (.halt trivial)
      ·refine SR.seq (R:=bM) (s:=choose _) (s':=choose _) (.choose fun n=>.pure rfl) fun Cn nf sK _ e=>?_;subst e;have dj:=dj.trans nf;refine SR.cl (aP elem) fun Vu=>?_;refine(dw _).seq fun dX bZ _ _ _=>?_;refine(bl size l (VR.mono (dj.trans bZ) (VR.sliceN l c))).seq fun tQ fH p p' hp=>?_;refine(bl size n (hu.mono ((dj.trans bZ).trans fH))).seq fun Co o0 q q' hq=>?_;refine(bN hz elem).seq fun K2 xA z z' ur=>?_;exact(cm elem ((((hp.mono (o0.trans xA)).append (hq.mono xA))).append (ur.cells.zeroCells _))).seq fun _ _ _ _ hb=>.pure (.slice _ _ hb)
    | some xt =>
     refine Cp xt fun d2 NN=>?_
     cases d2 with
     | int k =>
      simp only [pure_bind,if_true,aiP,ahD,if_false,true_or,and_true];refine(dH hu).seq fun db dj i _ e=>?_;subst e;try dsimp only
      refine ar_ite (fun _=>.dead (bg (aq _))) fun _=>?_;refine SR.cl (aP elem) fun tj=>?_;refine ar_ite (fun _=>.dead (bo (.choose fun n=>.pure n) fun n=>bg (aq _))) fun _=>?_;try simp only [pure_bind]
      generalize (IntKind.i64.wrap i).toNat=n;refine ar_ite (fun c1=>?_) fun c1=>?_
      ·refine(xy hz elem n size).seq fun dX bZ p p' hp=>?_;exact .pure (.sliceN _ _)
      ·refine SR.cl (aP elem) fun ti=>?_;refine ar_ite (fun _=>.dead (bg (aq _))) fun _=>?_;refine SR.cl (aP elem) fun Vt=>?_;refine ar_ite (fun _=>.dead (by first|exact bg (aq _)|exact aq _)) fun _=>?_;refine SR.seq (R:=bM) (s:=choose _) (s':=choose _) (.choose fun n=>.pure rfl) fun Cn nf sK _ e=>?_;subst e;have dj:=dj.trans nf;refine SR.cl (aP elem) fun Vu=>?_;refine(dw _).seq fun dX bZ _ _ _=>?_;refine(bl size l (VR.mono (dj.trans bZ) (VR.sliceN l c))).seq fun tQ fH p p' hp=>?_;refine(xy hz elem n size).seq fun Co o0 q q' hq=>?_;refine(bN hz elem).seq fun K2 xA z z' ur=>?_;exact(cm elem ((((hp.mono (o0.trans xA)).append (hq.mono xA))).append (ur.cells.zeroCells _))).seq fun _ _ _ _ hb=>.pure (.slice _ _ hb)
     | _ =>
      simp only [pure_bind,ahD,if_false,Bool.not_false,if_true,false_or];refine(lj hu).seq fun db dj n _ e=>?_;subst e;try dsimp only
      refine ar_ite (fun c1=>?_) fun c1=>?_
      ·refine(bl size n (hu.mono dj)).seq fun dX bZ p p' hp=>?_;exact .pure (.sliceN _ _)
      ·refine SR.cl (aP elem) fun ti=>?_;refine ar_ite (fun _=>.dead (bg (aq _))) fun _=>?_;refine SR.cl (aP elem) fun Vt=>?_;refine ar_ite (fun _=>.dead ?_) fun _=>?_
       ·first
        | exact bg (bo (cX _ _ _ _ _) fun q=>eH (.mark (.halt trivial)) (.halt trivial))
        | exact bo (cX _ _ _ _ _) fun q=>eH (.mark (.halt trivial)) (.halt trivial)
       ·refine SR.seq (R:=bM) (s:=choose _) (s':=choose _) (.choose fun n=>.pure rfl) fun Cn nf sK _ e=>?_;subst e;have dj:=dj.trans nf;refine SR.cl (aP elem) fun Vu=>?_;refine(dw _).seq fun dX bZ _ _ _=>?_;refine(bl size l (VR.mono (dj.trans bZ) (VR.sliceN l c))).seq fun tQ fH p p' hp=>?_;refine(bl size n (hu.mono ((dj.trans bZ).trans fH))).seq fun Co o0 q q' hq=>?_;refine(bN hz elem).seq fun K2 xA z z' ur=>?_;exact(cm elem ((((hp.mono (o0.trans xA)).append (hq.mono xA))).append (ur.cells.zeroCells _))).seq fun _ _ _ _ hb=>.pure (.slice _ _ hb)
   | slice l c ha =>
    refine SR.cl (aZ elem) fun size=>?_
    cases ts1:ts[1]? with
    | none =>
     simp only [pure_bind,ahD,if_false,Bool.not_false,if_true,false_or];refine(lj hu).seq fun db dj n _ e=>?_;subst e;try dsimp only
     refine ar_ite (fun c1=>?_) fun c1=>?_
     ·refine(bl size n (hu.mono dj)).seq fun dX bZ p p' hp=>?_;exact(cN 0 ((ha.mono (dj.trans bZ)).add _) hp.list).seq fun _ fH _ _ _=>.pure (.slice _ _ (ha.mono ((dj.trans bZ).trans fH)))
     ·refine SR.cl (aP elem) fun ti=>?_;refine ar_ite (fun _=>.dead (bg (aq _))) fun _=>?_;refine SR.cl (aP elem) fun Vt=>?_;refine ar_ite (fun _=>.dead ?_) fun _=>?_
      ·first
       | exact bg (bo (cX _ _ _ _ _) fun q=>eH (.mark (.halt trivial)) (.halt trivial))
       | exact bo (cX _ _ _ _ _) fun q=>eH (.mark (.halt trivial)) (.halt trivial)
      ·refine SR.seq (R:=bM) (s:=choose _) (s':=choose _) (.choose fun n=>.pure rfl) fun Cn nf sK _ e=>?_;subst e;have dj:=dj.trans nf;refine SR.cl (aP elem) fun Vu=>?_;refine(dw _).seq fun dX bZ _ _ _=>?_;refine(bl size l (VR.mono (dj.trans bZ) (VR.slice l c ha))).seq fun tQ fH p p' hp=>?_;refine(bl size n (hu.mono ((dj.trans bZ).trans fH))).seq fun Co o0 q q' hq=>?_;refine(bN hz elem).seq fun K2 xA z z' ur=>?_;exact(cm elem ((((hp.mono (o0.trans xA)).append (hq.mono xA))).append (ur.cells.zeroCells _))).seq fun _ _ _ _ hb=>.pure (.slice _ _ hb)
    | some xt =>
     refine Cp xt fun d2 NN=>?_
     cases d2 with
     | int k =>
      simp only [pure_bind,if_true,aiP,ahD,if_false,true_or,and_true];refine(dH hu).seq fun db dj i _ e=>?_;subst e;try dsimp only
      refine ar_ite (fun _=>.dead (bg (aq _))) fun _=>?_;refine SR.cl (aP elem) fun tj=>?_;refine ar_ite (fun _=>.dead (bo (.choose fun n=>.pure n) fun n=>bg (aq _))) fun _=>?_;try simp only [pure_bind]
      generalize (IntKind.i64.wrap i).toNat=n;refine ar_ite (fun c1=>?_) fun c1=>?_
      ·refine(xy hz elem n size).seq fun dX bZ p p' hp=>?_;exact(cN 0 ((ha.mono (dj.trans bZ)).add _) hp.list).seq fun _ fH _ _ _=>.pure (.slice _ _ (ha.mono ((dj.trans bZ).trans fH)))
      ·refine SR.cl (aP elem) fun ti=>?_;refine ar_ite (fun _=>.dead (bg (aq _))) fun _=>?_;refine SR.cl (aP elem) fun Vt=>?_;refine ar_ite (fun _=>.dead (by first|exact bg (aq _)|exact aq _)) fun _=>?_;refine SR.seq (R:=bM) (s:=choose _) (s':=choose _) (.choose fun n=>.pure rfl) fun Cn nf sK _ e=>?_;subst e;have dj:=dj.trans nf;refine SR.cl (aP elem) fun Vu=>?_;refine(dw _).seq fun dX bZ _ _ _=>?_;refine(bl size l (VR.mono (dj.trans bZ) (VR.slice l c ha))).seq fun tQ fH p p' hp=>?_;refine(xy hz elem n size).seq fun Co o0 q q' hq=>?_;refine(bN hz elem).seq fun K2 xA z z' ur=>?_;exact(cm elem ((((hp.mono (o0.trans xA)).append (hq.mono xA))).append (ur.cells.zeroCells _))).seq fun _ _ _ _ hb=>.pure (.slice _ _ hb)
     | _ =>
      simp only [pure_bind,ahD,if_false,Bool.not_false,if_true,false_or];refine(lj hu).seq fun db dj n _ e=>?_;subst e;try dsimp only
      refine ar_ite (fun c1=>?_) fun c1=>?_
      ·refine(bl size n (hu.mono dj)).seq fun dX bZ p p' hp=>?_;exact(cN 0 ((ha.mono (dj.trans bZ)).add _) hp.list).seq fun _ fH _ _ _=>.pure (.slice _ _ (ha.mono ((dj.trans bZ).trans fH)))
      ·refine SR.cl (aP elem) fun ti=>?_;refine ar_ite (fun _=>.dead (bg (aq _))) fun _=>?_;refine SR.cl (aP elem) fun Vt=>?_;refine ar_ite (fun _=>.dead ?_) fun _=>?_
       ·first
        | exact bg (bo (cX _ _ _ _ _) fun q=>eH (.mark (.halt trivial)) (.halt trivial))
        | exact bo (cX _ _ _ _ _) fun q=>eH (.mark (.halt trivial)) (.halt trivial)
       ·refine SR.seq (R:=bM) (s:=choose _) (s':=choose _) (.choose fun n=>.pure rfl) fun Cn nf sK _ e=>?_;subst e;have dj:=dj.trans nf;refine SR.cl (aP elem) fun Vu=>?_;refine(dw _).seq fun dX bZ _ _ _=>?_;refine(bl size l (VR.mono (dj.trans bZ) (VR.slice l c ha))).seq fun tQ fH p p' hp=>?_;refine(bl size n (hu.mono ((dj.trans bZ).trans fH))).seq fun Co o0 q q' hq=>?_;refine(bN hz elem).seq fun K2 xA z z' ur=>?_;exact(cm elem ((((hp.mono (o0.trans xA)).append (hq.mono xA))).append (ur.cells.zeroCells _))).seq fun _ _ _ _ hb=>.pure (.slice _ _ hb)
   | _=>exact .halt
  | _=>exact .halt
end
section
variable {P:Program} {ρ:Ren}
theorem MR{x x' y y':Value}(h:VR ρ x x')(g:VR ρ y y')(hf:∀ k b,x≠.float k b):SR P VV ρ (Builtin.min2 x y) (Builtin.min2 x' y'):=by
 cases h with
 | int k n=>cases g<;>first|exact .pure (.int _ _)|exact .halt
 | float k n=>exact absurd rfl (hf k n)
 | string s =>
  cases g with
  | string s2 =>
   refine SR.seq (lh .leq s s2) fun db hl a a' ha=>?_;refine SR.seq (oY ha) fun dX bZ b _ e=>?_;subst e;exact .pure (.string _)
  | _=>exact .halt
 | _=>cases g<;>exact .halt
theorem Je(hz:I3 P)(ts:Array TypeId)(t:TypeId){p p':Array Value}(h:AR ρ p p'):SR P VV ρ (Builtin.clear_ ts t p) (Builtin.clear_ ts t p'):=by
 unfold Builtin.clear_;have unit:∀ {ρ:Ren},VR ρ (.tuple #[]) (.tuple #[]):=.tuple rfl fun i x y hx _=>by simp at hx
 cases ts[0]? with
 | none=>exact .halt
 | some dt =>
  rcases sJ h 0 with⟨h1,h2⟩|⟨x,y,h1,h2,hx⟩
  ·rw [h1,h2];exact .halt
  rw [h1,h2];refine SR.cl (az dt) fun d=>?_
  cases hx with
  | mapN=>cases d<;>exact .pure unit
  | sliceN l c=>cases d<;>exact .pure unit
  | map hr =>
   have body:SR P VV ρ (getObj _ >>= _) (getObj _ >>= _):=SR.seq (R:=fun ρ o o'=>OR ρ o o') (s:=getObj _) (s':=getObj _) (.getObj hr fun o o' ho=>.pure ho) (f:=fun o=>match o with|.map _ clock=>(setObj _ (.map #[] clock) >>= fun _=>(pure (.tuple #[]):Sem Value))|_=>stuck "clear: map expected") (g:=fun o=>match o with|.map _ clock=>(setObj _ (.map #[] clock) >>= fun _=>(pure (.tuple #[]):Sem Value))|_=>stuck "clear: map expected") fun db hl o o' ho=>by
    cases ho with
    | map k he=>exact .setObj (hl.r _ _ hr) (.map k ⟨rfl,fun i x y hx _=>by simp at hx⟩) (.pure unit)
    | _=>exact .halt
   cases d<;>exact body
  | slice l c ha =>
   cases l with
   | zero=>cases d<;>exact .pure unit
   | succ l =>
    cases d with
    | slice elem =>
     refine(bN hz elem).seq fun db hl z z' ur=>?_;exact(cN 0 (ha.mono hl) (ur.cells.zeroCells _).list).seq fun _ _ _ _ _=>.pure unit
    | _=>exact .halt
  | _=>cases d<;>exact .halt
end
section
variable {P:Program} {ρ:Ren}
theorem AR.ints{p:Array Value}(h:∀ (i:Nat) x,p[i]?=Option.some x->∃ k n,x=.int k n):AR ρ p p:=⟨rfl,fun i x y hx hy=>by
 rw [hx] at hy;cases hy
 obtain⟨k,n,rfl⟩:=h i x hx
 exact .int k n⟩
theorem jv{a a':Addr}(h:cu ρ a a'):SR P bM ρ (markStringish a) (markStringish a'):=by
 obtain @⟨b,b',off,spot,hr⟩:=h;refine .shape hr fun s=>?_
 cases s with
 | none=>exact .pure rfl
 | some x=>exact .freeze (.mk x.2 none hr) (.pure rfl)
theorem o6(e:TypeId)(s:ByteArray):SR P VV ρ (Conv.stringToBytes e s) (Conv.stringToBytes e s):=by
 unfold Conv.stringToBytes;refine SR.seq (R:=bM) (s:=choose _) (s':=choose _) (.choose fun n=>.pure rfl) fun Cn nf cap _ e2=>?_;subst e2;refine(cm e (AR.ints fun i x hx=>?_)).seq fun db dj a a' ha=>?_
 ·rw [Array.getElem?_append] at hx;split at hx
  ·simp only [aik,ahs] at hx;obtain⟨c,_,rfl⟩:=hx;exact⟨_,_,rfl⟩
  ·rw [Array.getElem?_replicate] at hx;split at hx
   ·cases hx;exact⟨_,_,rfl⟩
   ·cases hx
 ·exact(jv ha).seq fun dX bZ _ _ _=>.pure (.slice _ _ (ha.mono bZ))
end
variable {a a':Addr}
section
variable {P:Program} {ρ:Ren}
inductive ZF(ρ:Ren):Option (Addr×TypeId)->Option (Addr×TypeId)->Prop
 | none:ZF ρ none none
 | some {a a':Addr} (t:TypeId):cu ρ a a'->ZF ρ (some (a,t)) (some (a',t))
theorem lL{r r':Nat}(h:ρ r r'):SR P ZF ρ (viewAt r) (viewAt r'):=by
 refine .shape h fun s=>?_
 cases s with
 | some _=>exact .pure .none
 | none =>
  refine .getObj h fun o o' ho=>?_
  cases ho with
  | view t ha=>exact .pure (.some _ ha)
  | _=>exact .pure .none
inductive ZG(ρ:Ren):Option (Addr×Bool)->Option (Addr×Bool)->Prop
 | none:ZG ρ none none
 | some {a a':Addr} (b:Bool):cu ρ a a'->ZG ρ (some (a,b)) (some (a',b))
theorem pS{r r':Nat}(h:ρ r r'):SR P ZG ρ (numberAt r) (numberAt r'):=by
 refine .shape h fun s=>?_
 cases s with
 | some _=>exact .pure .none
 | none =>
  refine .getObj h fun o o' ho=>?_
  cases ho with
  | number b ha=>exact .pure (.some _ ha)
  | _=>exact .pure .none
theorem Cq{r r':Nat}(h:ρ r r'):SR P bM ρ (cellsIn r) (cellsIn r'):=by
 refine .shape h fun s=>?_
 cases s with
 | some x=>exact .pure rfl
 | none=>exact .getObj h fun o o' ho=>by cases ho<;>exact .pure rfl
theorem jw(h:cu ρ a a'):SR P bM ρ (noView a) (noView a'):=by
 obtain⟨off,spot,hr⟩:=h;exact(lL hr).seq fun _ _ x y e=>by
  cases e with
  | none=>exact .pure rfl
  | some=>exact .halt
theorem ll{r r':Nat}(h:ρ r r'):SR P bM ρ (shape r) (shape r'):=.shape h fun s=>.pure rfl
abbrev ZH:Ren->Bool->Bool->Prop:=fun ρ b b'=>(b'=true->b=true)/\(ρ.eq->b=b')
theorem jy(h:cu ρ a a'):SR P ZH ρ (frozen a) (frozen a'):=.frozen h fun b b' h1 h2=>.pure ⟨h1,h2⟩
theorem nT(h:cu ρ a a'):SR P ZH ρ (stringish a) (stringish a'):=by
 obtain @⟨b,b',off,spot,hr⟩:=h;refine(jy (.mk off spot hr)).seq fun db hl x y e=>?_
 cases x with
 | true =>
  cases y with
  | true=>exact .pure ⟨fun _=>rfl,fun _=>rfl⟩
  | false =>
   refine .shapeR fun s=>?_
   cases s with
   | none=>exact .pure ⟨fun _=>rfl,fun he=>e.2 he⟩
   | some z=>exact .frozenR fun w=>.pure ⟨fun _=>rfl,fun he=>absurd (e.2 he) ag⟩
 | false =>
  cases y with
  | true=>exact absurd (e.1 rfl) ag
  | false =>
   refine .shape (hl.r _ _ hr) fun s=>?_
   cases s with
   | none=>exact .pure ⟨fun h=>h,fun _=>rfl⟩
   | some z=>exact .frozen (.mk _ none (hl.r _ _ hr)) fun b b' h1 h2=>.pure ⟨h1,h2⟩
theorem pT{b b':Addr}(h:cu ρ a a')(g:cu ρ b b'):SR P ZH ρ (mayBeOne a b) (mayBeOne a' b'):=by
 unfold mayBeOne;refine(nT h).seq fun db dj x x' e1=>?_;refine(nT (g.mono dj)).seq fun dX bZ y y' e2=>?_;have key:∀ {ρ:Ren} {c c':Addr},cu ρ c c'->SR P bM ρ (do pure ((<- shape c.block) matches some (_,0)):Sem Bool) (do pure ((<- shape c'.block) matches some (_,0)):Sem Bool):=fun hc=>by
  obtain⟨off,spot,hr⟩:=hc;exact(ll hr).seq fun _ _ s t e=>by subst e;exact .pure rfl
 refine(key (h.mono (dj.trans bZ))).seq fun tQ fH u _ e=>?_;subst e;refine(key (g.mono (dj.trans (bZ.trans fH)))).seq fun Co o0 v _ e=>?_;subst e;refine .pure ⟨fun hh=>?_,fun he=>?_⟩
 ·have f1:=e1.1;have f2:=e2.1;cases x<;>cases x'<;>cases y<;>cases y'<;>cases u<;>cases v<;>simp_all
 ·have QZ:db.eq:=bZ.eq▸fH.eq▸o0.eq▸he;have QY:dX.eq:=fH.eq▸o0.eq▸he;rw [e1.2 QZ,e2.2 QY]
theorem cu.beq{b b':Addr}(h:cu ρ a a')(g:cu ρ b b'):(a.block==b.block)=(a'.block==b'.block)/\(a==b)=(a'==b'):=by
 obtain @⟨x,x',o1,s1,hr⟩:=h;obtain @⟨y,y',o2,s2,gr⟩:=g;have e:x=y↔x'=y':=⟨fun e=>ρ.il hr (e▸gr),fun e=>ρ.ir hr (e▸gr)⟩;refine⟨?_,?_⟩
 ·show(x==y)=(x'==y');by_cases c:x=y
  ·rw [c,e.1 c];simp
  ·rw [beq_eq_false_iff_ne.2 c,beq_eq_false_iff_ne.2 (fun h=>c (e.2 h))]
 ·by_cases c:x=y
  ·have c':=e.1 c;subst c;subst c';by_cases c2:(⟨x,o1,s1⟩:Addr)=⟨x,o2,s2⟩
   ·simp only [Addr.mk.injEq,true_and] at c2;obtain⟨rfl,rfl⟩:=c2;simp
   ·have c3:(⟨x',o1,s1⟩:Addr)≠⟨x',o2,s2⟩:=fun h=>c2 (by simp only [Addr.mk.injEq,true_and] at h ⊢;exact h);rw [beq_eq_false_iff_ne.2 c2,beq_eq_false_iff_ne.2 c3]
  ·have c':x'≠y':=fun h=>c (e.2 h);rw [beq_eq_false_iff_ne.2 (fun h=>c (by simp only [Addr.mk.injEq] at h;exact h.1)),beq_eq_false_iff_ne.2 (fun h=>c' (by simp only [Addr.mk.injEq] at h;exact h.1))]
theorem pU{b b':Addr}(h:cu ρ a a')(g:cu ρ b b'):SR P bM ρ (sameAddr a b) (sameAddr a' b'):=by
 unfold sameAddr;obtain⟨e1,e2⟩:=h.beq g;rw [e1,e2];split
 ·exact .pure rfl
 ·refine(jy h).seq fun db dj x x' f1=>?_;refine(jy (g.mono dj)).seq fun dX bZ y y' f2=>?_;have hl:=dj.trans bZ;by_cases c:(x&&y)=true
  ·rw [if_pos c];exact .halt
  ·have c':¬ (x'&&y')=true:=fun h=>c (by
    have:=f1.1;have:=f2.1
    cases x<;>cases x'<;>cases y<;>cases y'<;>simp_all)
   rw [if_neg c,if_neg c'];refine(jw (h.mono hl)).seq fun tQ fH _ _ _=>?_;refine(jw (g.mono (hl.trans fH))).seq fun Co o0 _ _ _=>?_;refine(pT (h.mono (hl.trans (fH.trans o0))) (g.mono (hl.trans (fH.trans o0)))).seq fun K2 xA m m' f3=>?_
   cases m with
   | true =>
    cases m' with
    | true=>exact SR.seq (R:=bM) (.choose fun n=>.pure rfl) fun _ _ n _ e=>by subst e;exact .pure rfl
    | false =>
     by_cases he:K2.eq
     ·exact absurd (f3.2 he) ag
     ·exact .chooseL 0 he rfl (.pure rfl)
   | false =>
    cases m' with
    | true=>exact absurd (f3.1 rfl) ag
    | false=>exact .pure rfl
theorem cP{α β:Type}{R:Ren->α->β->Prop}{f:Program->Sem α}{g:Program->Sem β}(h:SR P R ρ (f P) (g P)):SR P R ρ (program >>= f) (program >>= g):=.program h
theorem fb(h:cu ρ a a'):SR P bM ρ (byteOf a) (byteOf a'):=by
 obtain @⟨b,b',off,spot,hr⟩:=h
 cases spot with
 | some s=>exact .pure rfl
 | none =>
  refine cP ?_;refine SR.seq (jw (.mk off none hr)) fun db hl _ _ _=>?_;refine .shape (hl.r _ _ hr) fun s=>?_
  cases s with
  | none=>exact .halt
  | some x =>
   obtain⟨e,n⟩:=x;show SR P bM db (if P.cellsOf e=0 then pure 0 else _) (if P.cellsOf e=0 then pure 0 else _);split
   ·exact .pure rfl
   ·dsimp only
    cases hb:byteOfCell P P.depth e (off%P.cellsOf e) with
    | none=>exact .halt
    | some b=>exact .pure rfl
theorem uw(h:cu ρ a a')(f:Field):SR P cu ρ (fieldPlace a f) (fieldPlace a' f):=by
 unfold fieldPlace;refine SR.cl (aZ f.type) fun n=>?_;split
 ·unfold partAt;refine(fb h).seq fun db hl b _ e=>?_;subst e;have h1:=h.mono hl;obtain @⟨b1,b1',off,spot,hr⟩:=h1;refine(fb (.mk (off+f.offset) none hr)).seq fun dX bZ c _ e=>?_;subst e;dsimp only;split
  ·exact .pure (.mk _ none (bZ.r _ _ hr))
  ·exact .pure (.mk _ _ (bZ.r _ _ hr))
 ·exact .pure (h.add _)
theorem Cr(s:TypeId){v v':Value}(h:VR ρ v v')(i:Nat):SR P VV ρ (Instr.fieldAt s v i) (Instr.fieldAt s v' i):=by
 unfold Instr.fieldAt;refine SR.cl (az s) fun d=>?_
 cases d with
 | struct fields =>
  cases hf:fields[i]? with
  | none=>simp only [hf];exact .halt
  | some f=>simp only [hf];exact(fC h).seq fun db hl a a' ha=>(uw ha f).seq fun _ _ _ _ hb=>.pure (.ptr hb)
 | _=>exact .halt
theorem lp(h:cu ρ a a')(u:TypeId)(n:Nat):SR P bM ρ (variablesAt a u n) (variablesAt a' u n):=by
 obtain⟨off,spot,hr⟩:=h;refine .program (.shape hr fun s=>?_);cases s<;>exact .pure rfl
theorem nU:∀ (n:Nat) {ρ:Ren} {a a':Addr} (acc:ByteArray),cu ρ a a'->SR P bM ρ (loadBytes a acc n) (loadBytes a' acc n)
 | 0,_,_,_,_,_=>.pure rfl
 | n+1,ρ,a,a',acc,h=>by
  refine(nS h).seq fun db hl v v' hv=>?_
  cases hv with
  | int k i=>cases k<;>first|exact nU n _ ((h.mono hl).add 1)|exact .halt
  | _=>exact .halt
end
end CO
namespace CO
open Go
section
variable {P:Program} {ρ:Ren}
theorem xB{α β:Type}{f g:α->β->Sem (ForInStep β)}(h:∀ aQ,ρ.le aQ->∀ a b,SR P bM aQ (f a b) (g a b)):∀ (l:List α) (b:β) {aQ:Ren},ρ.le aQ->SR P bM aQ (forIn l b f) (forIn l b g)
 | [],b,aQ,hl=>by rw [List.forIn_nil,List.forIn_nil];exact .pure rfl
 | a::l,b,aQ,hl=>by
  rw [List.forIn_cons,List.forIn_cons];refine(h aQ hl a b).seq fun dX bZ s _ e=>?_;subst e
  cases s with
  | done b=>exact .pure rfl
  | yield b=>exact xB h l b (hl.trans bZ)
theorem Ev{α β:Type}{f g:α->β->Sem (ForInStep β)}(h:∀ aQ,ρ.le aQ->∀ a b,SR P bM aQ (f a b) (g a b))(xs:Array α)(b:β):SR P bM ρ (forIn xs b f) (forIn xs b g):=by
 rw [<- Array.forIn_toList,<-Array.forIn_toList];exact xB h _ _ (.refl _)
theorem Ew{β:Type}{f g:Nat->β->Sem (ForInStep β)}(h:∀ aQ,ρ.le aQ->∀ a b,SR P bM aQ (f a b) (g a b))(r:Std.Legacy.Range)(b:β):SR P bM ρ (forIn r b f) (forIn r b g):=by
 rw [Std.Legacy.Range.forIn_eq_forIn_range',Std.Legacy.Range.forIn_eq_forIn_range'];exact xB h _ _ (.refl _)
theorem Cs(t:TypeId):Cl P (typeStr t):=(aP t).bind fun i=>by
 dsimp only;split
 ·exact .halt
 ·exact .pure _
theorem dV{c c':Addr}(hc:cu ρ c c'):SR P (fun ρ x y=>cu ρ x.1 y.1/\x.2=y.2) ρ (behindNumber c) (behindNumber c'):=by
 have Hd:=hc;obtain⟨off,spot,hr⟩:=hc;refine SR.seq (pS hr) fun db hl x y e=>?_
 cases e with
 | none=>exact .pure ⟨Hd.mono hl,rfl⟩
 | some b ha=>exact .pure ⟨ha,rfl⟩
theorem cu.lo{a a':Addr}(h:cu ρ a a'):a.block<ρ.g↔a'.block<ρ.g:=by
 obtain⟨off,spot,hr⟩:=h;exact ρ.lo hr
theorem jZ:∀ (d:Nat) {ρ:Ren} (t:TypeId) {x x' y y':Value},ρ.g=P.globals.size->VR ρ x x'->VR ρ y y'->SR P bM ρ (Op.equalIn d t x y) (Op.equalIn d t x' y')
 | 0,ρ,t,x,x',y,y',_,_,_=>.halt
 | d+1,ρ,t,x,x',y,y',hg,hx,hy=>by
  unfold Op.equalIn;refine SR.cl (az t) fun u=>?_
  cases u with
  | bool =>
   cases hx with
   | bool b=>cases hy<;>first|exact .pure rfl|exact .halt
   | _=>exact .halt
  | int k =>
   have zero:∀ {n:Int} {a a':Addr},SR P bM ρ (match n with|0=>(pure false:Sem Bool)|_=>unsupported .addressObserved) (match n with|0=>(pure false:Sem Bool)|_=>unsupported .addressObserved):=by
    intro n a a';split
    ·exact .pure rfl
    ·exact .halt
   cases hx with
   | int k1 n =>
    cases hy with
    | int k2 m =>
     show SR P bM ρ (if k1=k2 then _ else _) (if k1=k2 then _ else _);split
     ·exact .pure rfl
     ·exact .halt
    | ptr ha=>cases n with
     | ofNat m=>cases m<;>first|exact .pure rfl|exact .halt
     | negSucc m=>exact .halt
    | _=>first|exact .halt|(cases n with
     | ofNat m=>cases m<;>first|exact .pure rfl|exact .halt
     | negSucc m=>exact .halt)
   | ptr ha =>
    cases hy with
    | int k2 n=>cases n with
     | ofNat m=>cases m<;>first|exact .pure rfl|exact .halt
     | negSucc m=>exact .halt
    | @ptr b b' hb =>
     rename_i a a';refine(dV ha).seq fun db dj x x' hx=>?_;refine(dV (hb.mono dj)).seq fun dX bZ y y' hy=>?_;obtain⟨hx,_⟩:=hx;obtain⟨hy,_⟩:=hy;obtain⟨e1,e2⟩:=(hx.mono bZ).beq hy;have lo:=(hx.mono bZ).lo;rw [bZ.g.trans (dj.g.trans hg)] at lo;refine cP ?_;rw [<- e1,show(decide (x'.1.block<P.globals.size))=decide (x.1.block<P.globals.size) from by simp only [lo]];split
     ·exact(fb (hx.mono bZ)).seq fun tQ fH m _ e=>by
       subst e;exact(fb (hy.mono fH)).seq fun Co o0 m2 _ e=>by subst e;exact .pure rfl
     ·refine SR.cl (aP t) fun i=>?_;rw [<- e2];split
      ·split
       ·exact .pure rfl
       ·exact .halt
      ·exact .halt
    | _=>exact .halt
   | ptrN=>cases hy<;>exact .halt
   | _=>first|exact .halt|(cases hy<;>exact .halt)
  | string =>
   cases hx with
   | string b=>cases hy<;>first|exact .pure rfl|exact .halt
   | _=>exact .halt
  | float k =>
   cases hx with
   | float k1 n =>
    cases hy with
    | float k2 m =>
     show SR P bM ρ (if k1=k2 then _ else _) (if k1=k2 then _ else _);split
     ·exact .pure rfl
     ·exact .halt
    | _=>exact .halt
   | _=>exact .halt
  | complex k =>
   cases hx with
   | complex k1 n =>
    cases hy with
    | complex k2 m =>
     show SR P bM ρ (if k1=k2 then _ else _) (if k1=k2 then _ else _);split
     ·exact .pure rfl
     ·exact .halt
    | _=>exact .halt
   | _=>exact .halt
  | pointer elem =>
   cases hx with
   | ptrN=>cases hy<;>first|exact .pure rfl|exact .halt
   | ptr ha =>
    cases hy with
    | ptrN=>exact .pure rfl
    | ptr hb =>
     refine SR.cl (aZ elem) fun n=>?_;split
     ·exact pU ha hb
     ·rw [(ha.beq hb).2];split
      ·exact .pure rfl
      ·exact SR.seq (R:=bM) (.choose fun n=>.pure rfl) fun _ _ n _ e=>by subst e;exact .pure rfl
    | _=>exact .halt
   | _=>exact .halt
  | unsafePointer =>
   cases hx with
   | ptrN=>cases hy<;>first|exact .pure rfl|exact .halt
   | ptr ha =>
    cases hy with
    | ptrN=>exact .pure rfl
    | ptr hb=>exact pU ha hb
    | _=>exact .halt
   | _=>exact .halt
  | interface ms =>
   cases hx with
   | nilIface=>cases hy<;>first|exact .pure rfl|exact .halt
   | iface tx XO =>
    cases hy with
    | nilIface=>exact .pure rfl
    | iface ty PH =>
     show SR P bM ρ (if tx≠ty then _ else _) (if tx≠ty then _ else _);split
     ·exact .pure rfl
     ·refine SR.cl (aP tx) fun info=>?_;split
      ·refine cP (cP ?_);split
       ·exact .halt
       ·exact .dead (bo (Cs tx).ts fun s=>aq _)
      ·exact jZ d tx hg XO PH
    | _=>exact .halt
   | _=>exact .halt
  | slice _ =>
   cases hx with
   | sliceN l c=>cases hy<;>first|exact .pure rfl|exact .halt
   | slice l c ha=>cases hy<;>first|exact .pure rfl|exact .halt
   | _=>exact .halt
  | func _ _ _ =>
   cases hx with
   | nilFunc=>cases hy<;>first|exact .pure rfl|exact .halt
   | func f=>cases hy<;>first|exact .pure rfl|exact .halt
   | _=>exact .halt
  | map _ _ =>
   cases hx with
   | mapN=>cases hy<;>first|exact .pure rfl|exact .halt
   | map hr=>cases hy<;>first|exact .pure rfl|exact .halt
   | _=>exact .halt
  | struct fields =>
   cases hx with
   | agg h1 h2 =>
    cases hy with
    | agg g1 g2 =>
     refine cP ?_;split
     ·exact .halt
     ·refine SR.seq (Ev (fun aQ hl f b=>?_) fields _) fun dX bZ r _ e=>?_
      ·split
       ·refine(ft f.type ⟨h1,fun i a b ha hb=>(h2 i a b ha hb).mono hl⟩ f.offset).seq fun dX bZ p p' hp=>?_;refine(ft f.type ⟨g1,fun i a b ha hb=>(g2 i a b ha hb).mono (hl.trans bZ)⟩ f.offset).seq fun tQ fH q q' hq=>?_;refine(jZ d f.type ((hl.trans (bZ.trans fH)).g.trans hg) (hp.mono fH) hq).seq fun Co o0 r _ e=>?_;subst e;split
        ·exact .pure rfl
        ·exact .pure rfl
       ·exact .pure rfl
      ·subst e;obtain⟨r1,_⟩:=r;cases r1<;>exact .pure rfl
    | _=>exact .halt
   | _=>exact .halt
  | array len elem =>
   cases hx with
   | agg h1 h2 =>
    cases hy with
    | agg g1 g2 =>
     refine SR.cl (aZ elem) fun n=>?_;refine SR.seq (Ew (fun aQ hl i b=>?_) _ _) fun dX bZ r _ e=>?_
     ·refine(ft elem ⟨h1,fun i a b ha hb=>(h2 i a b ha hb).mono hl⟩ (i*n)).seq fun dX bZ p p' hp=>?_;refine(ft elem ⟨g1,fun i a b ha hb=>(g2 i a b ha hb).mono (hl.trans bZ)⟩ (i*n)).seq fun tQ fH q q' hq=>?_;refine(jZ d elem ((hl.trans (bZ.trans fH)).g.trans hg) (hp.mono fH) hq).seq fun Co o0 r _ e=>?_;subst e;split
      ·exact .pure rfl
      ·exact .pure rfl
     ·subst e;obtain⟨r1,_⟩:=r;cases r1<;>exact .pure rfl
    | _=>exact .halt
   | _=>exact .halt
  | chan _ _ =>
   cases hx with
   | chanN=>cases hy<;>first|exact .pure rfl|exact .halt
   | _=>exact .halt
  | _=>cases hx<;>exact .halt
theorem Aa(t:TypeId){x x' y y':Value}(hg:ρ.g=P.globals.size)(hx:VR ρ x x')(hy:VR ρ y y'):SR P bM ρ (Op.equal t x y) (Op.equal t x' y'):=jZ _ t hg hx hy
theorem gD:∀ (d:Nat) {ρ:Ren} (t:TypeId) {x x' y y':Value},VR ρ x x'->VR ρ y y'->SR P bM ρ (Op.eqGuardIn d t x y) (Op.eqGuardIn d t x' y')
 | 0,ρ,t,x,x',y,y',_,_=>.halt
 | d+1,ρ,t,x,x',y,y',hx,hy=>by
  unfold Op.eqGuardIn;refine SR.cl (az t) fun u=>?_
  cases u with
  | interface ms =>
   cases hx with
   | nilIface=>cases hy<;>exact .pure rfl
   | _=>exact .pure rfl
  | struct fields =>
   cases hx with
   | agg h1 h2 =>
    cases hy with
    | agg g1 g2 =>
     refine SR.seq (Ev (fun aQ hl f b=>?_) fields _) fun dX bZ r _ e=>?_
     ·split
      ·refine(ft f.type ⟨h1,fun i a b ha hb=>(h2 i a b ha hb).mono hl⟩ f.offset).seq fun dX bZ p p' hp=>?_;refine(ft f.type ⟨g1,fun i a b ha hb=>(g2 i a b ha hb).mono (hl.trans bZ)⟩ f.offset).seq fun tQ fH q q' hq=>?_;refine(gD d f.type (hp.mono fH) hq).seq fun Co o0 r _ e=>?_;subst e;split
       ·exact .pure rfl
       ·exact .pure rfl
      ·exact .pure rfl
     ·subst e;obtain⟨r1,_⟩:=r;cases r1<;>exact .pure rfl
    | _=>exact .pure rfl
   | _=>exact .pure rfl
  | array len elem =>
   cases hx with
   | agg h1 h2 =>
    cases hy with
    | agg g1 g2 =>
     refine SR.cl (aZ elem) fun n=>?_;refine SR.seq (Ew (fun aQ hl i b=>?_) _ _) fun dX bZ r _ e=>?_
     ·refine(ft elem ⟨h1,fun i a b ha hb=>(h2 i a b ha hb).mono hl⟩ (i*n)).seq fun dX bZ p p' hp=>?_;refine(ft elem ⟨g1,fun i a b ha hb=>(g2 i a b ha hb).mono (hl.trans bZ)⟩ (i*n)).seq fun tQ fH q q' hq=>?_;refine(gD d elem (hp.mono fH) hq).seq fun Co o0 r _ e=>?_;subst e;split
      ·exact .pure rfl
      ·exact .pure rfl
     ·subst e;obtain⟨r1,_⟩:=r;cases r1<;>exact .pure rfl
    | _=>exact .pure rfl
   | _=>exact .pure rfl
  | _=>exact .pure rfl
theorem Ct(op:BinOp)(t:TypeId)(x y:Operand){a a' b b':Value}(ha:VR ρ a a')(hb:VR ρ b b'):SR P bM ρ (eqGuard op t x y a b) (eqGuard op t x y a' b'):=by
 unfold eqGuard;refine ar_ite (fun _=>SR.pure (R:=bM) rfl) fun _=>?_
 cases ha with
 | nilIface =>
  cases hb with
  | nilIface =>
   refine ar_ite (fun _=>.pure rfl) fun _=>?_;refine(gD _ t .nilIface .nilIface).seq fun db hl r _ e=>?_;subst e;exact ar_ite (fun _=>.halt) fun _=>.pure rfl
  | _=>exact .pure rfl
 | agg h1 h2 =>
  cases hb with
  | agg g1 g2 =>
   refine cP (cP ?_);refine ar_ite (fun _=>.pure rfl) fun _=>?_;refine(gD _ t (.agg h1 h2) (.agg g1 g2)).seq fun db hl r _ e=>?_;subst e;exact ar_ite (fun _=>.halt) fun _=>.pure rfl
  | _=>exact .pure rfl
 | _=>exact .pure rfl
end
end CO
