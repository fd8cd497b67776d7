/- Part of the proof. -/
import Derived.Test.YtmbbagbhmjaedaaGreatDoorCci
set_option linter.all false
namespace CO
open Go
def MN{α:Type}:Result α->World
 | .ok _ w=>w
 | .halt _ w=>w
def rat{α:Type}(T:Nat->Question->Nat)(d:Nat):Result α->Result α
 | .ok a w=>.ok a (tp w T d)
 | .halt h w=>.halt h (tp w T d)
def Ou{α:Type}:Result α->Prop
 | .ok _ _=>True
 | .halt h _=>sx h
theorem xv(w:World):tp w w.tape w.drawn=w:=rfl
structure Loc{α:Type}(P:Program)(s:Sem α)(w:World):Prop where
 le:w.drawn<=(MN (s.run P w)).drawn
 tape:(MN (s.run P w)).tape=w.tape
 same:∀ T' d',(∀ i,w.drawn+i<(MN (s.run P w)).drawn->∀ q,T' (d'+i) q=w.tape (w.drawn+i) q)->s.run P (tp w T' d')=rat T' (d'+((MN (s.run P w)).drawn-w.drawn)) (s.run P w)
 soft:Ou (s.run P w)
theorem Loc.of{α:Type}{P:Program}{s:Sem α}{w:World}{s':Sem α}{v:World}(h:Loc P s' v)(hd:v.drawn=w.drawn)(ht:v.tape=w.tape)(he:∀ T d,s.run P (tp w T d)=s'.run P (tp v T d)):Loc P s w:=by
 have e:s.run P w=s'.run P v:=by
  have:=he w.tape w.drawn;rw [xv] at this;rw [this,<-ht,<-hd,xv]
 refine⟨by rw [e,<-hd];exact h.le,by rw [e,<-ht];exact h.tape,fun T' d' hT=>?_,by rw [e];exact h.soft⟩;rw [he,e,h.same T' d' fun i hi q=>by rw [hd,ht];exact hT i (by rw [e,<-hd];exact hi) q,hd]
theorem Loc.halt{α:Type}{P:Program}{s:Sem α}{w:World}{h:Halt}(hs:sx h)(he:∀ T d,s.run P (tp w T d)=.halt h (tp w T d)):Loc P s w:=by
 have e:s.run P w=.halt h w:=he w.tape w.drawn;exact⟨by rw [e];exact ahr _,by rw [e];rfl,fun T' d' _=>by rw [he,e];show _=Result.halt h (tp w T' (d'+(w.drawn-w.drawn)));simp,by rw [e];exact hs⟩
theorem Loc.choose{α:Type}{P:Program}{q:Question}{k:Nat->Sem α}{w:World}(h0:Loc P (k 0) w)(h:∀ n,Loc P (k n) { w with drawn:=w.drawn+1 }):Loc P (.choose q k) w:=by
 by_cases hq:q.forced=true
 ·exact h0.of rfl rfl fun T d=>by simp only [Sem.run,hq,if_true]
 ·have e:∀ v:World,(Sem.choose q k).run P v=(k (q.cut (v.tape v.drawn q))).run P { v with drawn:=v.drawn+1 }:=fun v=>by simp only [Sem.run,hq];simp
  obtain⟨h1,h2,h3,h4⟩:=h (q.cut (w.tape w.drawn q));rw [<- e] at h1 h2 h3 h4;dsimp only at h1 h2 h3;refine⟨ae,h2,fun T' d' hT=>?_,h4⟩;have e0:T' d' q=w.tape w.drawn q:=by
   have:=hT 0 ae q;simpa using this
  have e1:({ tp w T' d' with drawn:=(tp w T' d').drawn+1 }:World)=tp { w with drawn:=w.drawn+1 } T' (d'+1):=rfl;rw [e,e1];have e3:(tp w T' d').tape (tp w T' d').drawn q=w.tape w.drawn q:=e0
  rw [e3,h3 T' (d'+1) fun i hi q=>by
   have:=hT (i+1) ae q
   rw [show d'+1+i=d'+(i+1) by omega,this];congr 1;omega]
  congr 1;omega
theorem Loc.dead{α:Type}{P:Program}{s:Sem α}(h:Dd P s):∀ w:World,Loc P s w:=by
 induction h with
 | program _ ih=>exact fun w=>(ih w).of rfl rfl fun T d=>by simp only [Sem.run]
 | choose _ ih=>exact fun w=>.choose (ih 0 w) fun n=>ih n _
 | @new o k _ ih=>exact fun w=>(ih w.heap.size { w with heap:=w.heap.push o }).of rfl rfl fun T d=>by simp only [Sem.run];rfl
 | mark _ ih=>exact fun w=>(ih w).of rfl rfl fun T d=>by simp only [Sem.run]
 | @shape r k _ ih=>exact fun w=>(ih (w.shape? r) w).of rfl rfl fun T d=>by simp only [Sem.run];rfl
 | @frozen a k _ ih=>exact fun w=>(ih (w.frozen? a) w).of rfl rfl fun T d=>by simp only [Sem.run];rfl
 | @env k _ ih=>exact fun w=>(ih (.strings w.os.env) w).of rfl rfl fun T d=>by simp only [Sem.run];rfl
 | halt h=>exact fun w=>.halt h fun T d=>by simp only [Sem.run]
theorem Dd.never{α:Type}{P:Program}{s:Sem α}(h:Dd P s):∀ (w:World) a ai,s.run P w≠.ok a ai:=by
 induction h with
 | program _ ih=>exact fun w a ai=>by simp only [Sem.run];exact ih w a ai
 | choose _ ih =>
  intro w a ai;simp only [Sem.run];split
  ·exact ih 0 w a ai
  ·exact ih _ _ a ai
 | new _ ih=>exact fun w a ai=>by simp only [Sem.run];exact ih _ _ a ai
 | mark _ ih=>exact fun w a ai=>by simp only [Sem.run];exact ih w a ai
 | shape _ ih=>exact fun w a ai=>by simp only [Sem.run];exact ih _ w a ai
 | frozen _ ih=>exact fun w a ai=>by simp only [Sem.run];exact ih _ w a ai
 | env _ ih=>exact fun w a ai=>by simp only [Sem.run];exact ih _ _ a ai
 | halt h=>exact fun w a ai=>by simp only [Sem.run];intro h;cases h
theorem dU{α:Type}{P:Program}{m:Mode}{x:Addr}{v:Value}{k:Sem α}{w:World}(h1:∀ p,v≠.agg p)(h2:∀ p,v≠.tuple p):(Sem.store m x v k).run P w=(match w.cell? x with
  | some _=>if w.frozen? x then .halt (.unsupported (.unsafePointer "a write to bytes that a string shares")) w else k.run P (w.setCell x v)
  | none=>match w.farStore P x v (m==.atomic) with
   | .ok (w,_)=>k.run P w
   | .error h=>.halt h w):=by
 cases v<;>first|rfl|exact absurd rfl (h1 _)|exact absurd rfl (h2 _)
theorem Eu(v:Value):(∃ p,v=.agg p)∨(∃ p,v=.tuple p)∨((∀ p,v≠.agg p)/\∀ p,v≠.tuple p):=by
 cases v
 case agg p=>exact .inl ⟨p,rfl⟩
 case tuple p=>exact .inr (.inl ⟨p,rfl⟩)
 all_goals exact .inr (.inr ⟨fun _ h=>(by cases h),fun _ h=>(by cases h)⟩)
theorem WR.Ov{ρ:Ren}{w w':World}(h:WR ρ w w')(T T':Nat->Question->Nat)(d d':Nat):WR ρ (tp w T d) (tp w' T' d'):=⟨h.lo,h.obj,h.std⟩
theorem SR.loc{P:Program}{α β:Type}{R:Ren->α->β->Prop}{ρ:Ren}{s:Sem α}{s':Sem β}(h:SR P R ρ s s'):ρ.eq->∀ {w w':World},WR ρ w w'->Loc P s w:=by
 induction h with
 | pure r=>exact fun _ {w w'} _=>⟨by simp [Sem.run,MN],by simp [Sem.run,MN],fun T d _=>by simp [Sem.run,rat,MN],by simp [Sem.run,Ou]⟩
 | @load ρ x x' k k' ha _ ih =>
  intro he w w' hw
  cases hc:w.cell? x with
  | none =>
   rcases hw.far ha hc P with⟨e,h1,h2⟩|⟨v,ts,qk,f1,_,_,f4,_⟩
   ·exact .halt h1 fun T d=>by
     have:(tp w T d).cell? x=none:=hc;have h2:(tp w T d).farLoad P x (Mode.plain==.atomic)=.error e:=h2 T d;simp only [Sem.run,this,h2]
   ·exact(ih v v f4 he hw).of rfl rfl fun T d=>by
     have:(tp w T d).cell? x=none:=hc;have h2:(tp w T d).farLoad P x (Mode.plain==.atomic)=.ok (v,ts):=f1 T d;simp only [Sem.run,this,h2]
  | some v =>
   obtain⟨v',_,hR,_⟩:=hw.cell ha hc;exact(ih v v' hR he hw).of rfl rfl fun T d=>by
    have:(tp w T d).cell? x=some v:=hc;simp only [Sem.run,this]
 | @peek ρ x u k k' hu _ ih =>
  intro he w w' hw;obtain⟨hc,_⟩:=hw.std x u hu;exact(ih he hw).of rfl rfl fun T d=>by
   have:(tp w T d).cell? x=some u:=hc;simp only [Sem.run,this]
 | @store ρ x x' v v' k k' ha hv _ ih =>
  intro he w w' hw;rcases Eu v with⟨p,rfl⟩|⟨p,rfl⟩|⟨f1,f2⟩
  ·exact .halt (h:=.stuck "store: not the value of one cell") trivial fun T d=>by simp only [Sem.run]
  ·exact .halt (h:=.stuck "store: not the value of one cell") trivial fun T d=>by simp only [Sem.run]
  cases hc:w.cell? x with
  | none =>
   rcases hw.Vq ha hc P hv with⟨e,h1,h2⟩|⟨w2,Ot,ts,qk,g1,_,_,g4,_,_,_,g7,_⟩
   ·exact .halt h1 fun T d=>by
     have:(tp w T d).cell? x=none:=hc;have h2:(tp w T d).farStore P x v (Mode.plain==.atomic)=.error e:=h2 T d;rw [dU f1 f2];simp only [this,h2]
   ·exact(ih he g4).of g7.2 g7.1 fun T d=>by
     have:(tp w T d).cell? x=none:=hc;have h2:(tp w T d).farStore P x v (Mode.plain==.atomic)=.ok (tp w2 T d,ts):=g1 T d;rw [dU f1 f2];simp only [this,h2]
  | some u =>
   cases hf:w.frozen? x with
   | true =>
    exact .halt (h:=.unsupported (.unsafePointer "a write to bytes that a string shares")) trivial fun T d=>by
     have h1:(tp w T d).cell? x=some u:=hc;have h2:(tp w T d).frozen? x=true:=hf;rw [dU f1 f2];simp only [h1,h2,if_true]
   | false =>
    obtain⟨yi,_⟩:=hw.set ha hc hv;exact(ih he yi).of rfl rfl fun T d=>by
     have h1:(tp w T d).cell? x=some u:=hc;have h2:(tp w T d).frozen? x=false:=hf;rw [dU f1 f2];simp only [h1,h2];rfl
 | @new ρ o o' k k' ho _ ih =>
  intro he w w' hw;obtain⟨db,h1,h2,h3,_⟩:=hw.new ho;exact(ih _ _ _ h1 h2 (h1.eq▸he) h3).of rfl rfl fun T d=>by simp only [Sem.run];rfl
 | @shape ρ r r' k k' sC _ ih =>
  intro he w w' hw;exact(ih (w.shape? r) he hw).of rfl rfl fun T d=>by simp only [Sem.run];rfl
 | @freeze ρ x x' n k k' ha _ ih =>
  intro he w w' hw;obtain⟨h1,_⟩:=hw.freeze ha n;refine(ih he h1).of ?_ ?_ fun T d=>?_
  ·unfold World.freeze;split<;>rfl
  ·unfold World.freeze;split<;>rfl
  ·simp only [Sem.run];congr 1
   unfold World.freeze;by_cases hn:n=0<;>simp only [hn,if_true,if_false]<;>rfl
 | @frozen ρ x x' k k' ha _ ih =>
  intro he w w' hw;obtain⟨h1,h2⟩:=hw.Tc ha;exact(ih (w.frozen? x) (w'.frozen? x') h1 h2 he hw).of rfl rfl fun T d=>by simp only [Sem.run];rfl
 | @shapeR ρ r' k k' _ ih=>exact fun he {w w'} hw=>ih none he hw
 | @frozenR ρ r' k k' _ ih=>exact fun he {w w'} hw=>ih true he hw
 | @getObj ρ r r' k k' sC _ ih =>
  intro he w w' hw;obtain⟨o,o',h1,h2,h3⟩:=hw.obj _ _ sC
  cases h3 with
  | cells=>exact .halt (h:=.stuck "getObj: a row of cells") trivial fun T d=>by simp only [Sem.run,tp,h1]
  | map n HM=>exact(ih _ _ (.map n HM) he hw).of rfl rfl fun T d=>by simp only [Sem.run,tp,h1]
  | iter s n=>exact(ih _ _ (.iter s n) he hw).of rfl rfl fun T d=>by simp only [Sem.run,tp,h1]
  | view t hv=>exact(ih _ _ (.view t hv) he hw).of rfl rfl fun T d=>by simp only [Sem.run,tp,h1]
  | number t hv=>exact(ih _ _ (.number t hv) he hw).of rfl rfl fun T d=>by simp only [Sem.run,tp,h1]
 | @setObj ρ r r' o o' k k' sC ho _ ih =>
  intro he w w' hw;obtain⟨p,p',h1,h2,h3⟩:=hw.obj _ _ sC;have yi:=hw.uo (v:={ w with heap:=w.heap.setIfInBounds r o }) (v':={ w' with heap:=w'.heap.setIfInBounds r' o' }) sC rfl rfl ho
  cases h3 with
  | cells=>exact .halt (h:=.stuck "setObj: a row of cells") trivial fun T d=>by simp only [Sem.run,tp,h1]
  | map n HM=>exact(ih he yi).of rfl rfl fun T d=>by simp only [Sem.run,tp,h1]
  | iter s n=>exact(ih he yi).of rfl rfl fun T d=>by simp only [Sem.run,tp,h1]
  | view t hv=>exact(ih he yi).of rfl rfl fun T d=>by simp only [Sem.run,tp,h1]
  | number t hv=>exact(ih he yi).of rfl rfl fun T d=>by simp only [Sem.run,tp,h1]
 | @choose ρ q k k' _ ih=>exact fun he {w w'} hw=>.choose (ih 0 he hw) fun n=>ih n he (hw.Ov _ w'.tape _ w'.drawn)
 | @chooseL ρ q k k' t hn hq _ ih=>exact fun he=>absurd he hn
 | @program ρ k k' _ ih=>exact fun he {w w'} hw=>(ih he hw).of rfl rfl fun T d=>by simp only [Sem.run]
 | @room ρ k k' _ ih=>exact fun he {w w'} hw=>(ih he hw).of rfl rfl fun T d=>by simp only [Sem.run]
 | @ext ρ k k' f _ ih=>exact fun he {w w'} hw=>(ih he hw).of rfl rfl fun T d=>by simp only [Sem.run]
 | dead h=>exact fun _ {w w'} _=>.dead h w
variable {w:World}
abbrev Tape:=Nat->Question->Nat
structure Out{α β:Type}(P:Program)(R:Ren->α->β->Prop)(ρ:Ren)(w ai w':World)(a:α)(s':Sem β)(gB:Array Event)(aQ:Ren)(b:β)(cO:World)(Cg:Array Event):Prop where
 run:s'.runT P w' gB=(.ok b cO,gB++Cg)
 le:ρ.le aQ
 res:R aQ a b
 wr:WR aQ ai cO
 fr:Fr ρ aQ w' cO
 grow:Grow w ai
 evs:∀ e∈Cg,KY aQ w e
 drawn:ρ.eq->ai.drawn-w.drawn=cO.drawn-w'.drawn/\w.drawn<=ai.drawn/\w'.drawn<=cO.drawn
 fz:∀ x x',cu ρ x x'->w.frozen? x=true->cO.cell? x'=w'.cell? x'
def OnT(T:Tape)(d:Nat)(w':World):Prop:=∀ i q,d<=i->T i q=w'.tape (w'.drawn+(i-d)) q
def Td(P:Program){α β:Type}(R:Ren->α->β->Prop)(ρ:Ren)(s:Sem α)(s':Sem β)(w w':World):Prop :=
 ∀ (d:Nat) (pre:Tape),∃ T0:Tape,(∀ i q,i<d->T0 i q=pre i q)/\(ρ.eq->OnT T0 d w') /\
  ∀ a ai,s.run P (tp w T0 d)=.ok a ai->∀ gB,∃ aQ b cO Cg,Out P R ρ (tp w T0 d) ai w' a s' gB aQ b cO Cg
theorem sD{α:Type}{P:Program}{m:Mode}{x:Addr}{v:Value}{k:Sem α}{w:World}{es:Array Event}(h1:∀ p,v≠.agg p)(h2:∀ p,v≠.tuple p):(Sem.store m x v k).runT P w es=(match w.cell? x with
   | some _=>if w.frozen? x then(.halt (.unsupported (.unsafePointer "a write to bytes that a string shares")) w,es) else k.runT P (w.setCell x v) (es.push ⟨.cell x,true,m==.atomic⟩)
   | none=>match w.farStore P x v (m==.atomic) with
    | .ok (w,MO)=>k.runT P w (es++MO.toArray.map (⟨.cell ·,true,m==.atomic⟩))
    | .error h=>(.halt h w,es)):=by
 cases v<;>first|rfl|exact absurd rfl (h1 _)|exact absurd rfl (h2 _)
theorem cu.Vr{ρ:Ren}{a a':Addr}(h:cu ρ a a'):ρ a.block a'.block:=by obtain⟨_,_,h⟩:=h;exact h
theorem cu.inj{ρ:Ren}{a b a':Addr}(h:cu ρ a a')(g:cu ρ b a'):b=a:=by
 cases h with
 | mk o s r=>cases g with|mk _ _ r'=>rw [ρ.ir r r']
theorem sE{w:World}{a b:Addr}{v u:Value}(hu:w.cell? a=some u)(h:b≠a):(w.setCell a v).cell? b=w.cell? b:=by
 unfold World.cell? at hu
 cases hb:w.heap[a.block]? with
 | none=>rw [hb] at hu;cases hu
 | some o =>
  cases o with
  | cells c e z =>
   rw [hb] at hu;dsimp only at hu;split at hu
   ·cases hu
   rename_i hs;have e1:(w.setCell a v).heap=w.heap.setIfInBounds a.block (.cells (c.setIfInBounds a.off v) e z):=by
    unfold World.setCell;simp only [modify_eq hb,if_neg hs]
   unfold World.cell?;rw [e1];by_cases e2:a.block=b.block
   ·rw [<- e2,ahS (bW hb),hb];dsimp only;split
    ·rfl
    ·rename_i F1
     have:a.off≠b.off:=fun e3=>h (by
      obtain⟨b1,b2,b3⟩:=b
      obtain⟨a1,a2,a3⟩:=a
      simp only [Option.isSome_iff_ne_none,ne_eq,Classical.not_not] at hs F1 e2 e3
      subst hs;subst F1;subst e2;subst e3;rfl)
     rw [ahw this]
   ·rw [ahw e2]
  | _=>rw [hb] at hu;cases hu
theorem IZ{o:Obj}{b:Addr}(h:b.block<w.heap.size):({ w with heap:=w.heap.push o }:World).cell? b=w.cell? b:=by
 unfold World.cell?;simp only [aiB];rw [if_neg ae]
theorem zW{a b:Addr}{n:Nat}:(w.freeze a n).cell? b=w.cell? b:=by
 by_cases hn:n=0
 ·unfold World.freeze;rw [if_pos hn]
 ·cases ha:w.heap[a.block]? with
  | none =>
   have:(w.freeze a n).heap=w.heap:=by
    unfold World.freeze;rw [if_neg hn];apply Array.ext_getElem?;intro i;simp only [aiC];split
    ·rename_i e;rw [<- e,ha];rfl
    ·rfl
   unfold World.cell?;rw [this]
  | some o =>
   obtain⟨ab,ao,asp⟩:=a;have e:=lf (off:=ao) (spot:=asp) hn ha;unfold World.cell?;rw [e];by_cases e2:ab=b.block
   ·rw [<- e2,ahS (bW ha)];have Lm:w.heap[ab]?=some o:=ha;rw [Lm];cases o<;>rfl
   ·rw [ahw e2]
theorem I0{r:Nat}{o:Obj}{b:Addr}(h:b.block≠r):({ w with heap:=w.heap.setIfInBounds r o }:World).cell? b=w.cell? b:=by
 unfold World.cell?;simp only;rw [ahw (fun e=>h e.symm)]
theorem Td.step{P:Program}{α β:Type}{R:Ren->α->β->Prop}{ρ σ:Ren}{s k:Sem α}{s' k':Sem β}{v w' v' w:World}(ih:Td P R σ k k' v v')
  (hr:∀ T d a ai,s.run P (tp w T d)=.ok a ai->k.run P (tp v T d)=.ok a ai) {ev:Array Event} (ng:∀ gB,s'.runT P w' gB=k'.runT P v' (gB++ev))
  (hl:ρ.le σ) (hf:Fr ρ σ w' v') (hg:∀ T d,Grow (tp w T d) (tp v T d)) (cn:∀ aQ,σ.le aQ->∀ e∈ev,KY aQ w e) (hd:v'.drawn=w'.drawn) (hz:∀ x x',cu ρ x x'->w.frozen? x=true->v'.cell? x'=w'.cell? x':=by exact fun _ _ _ _=>rfl):Td P R ρ s s' w w':=by
 intro d pre;obtain⟨T0,h1,h2,h3⟩:=ih d pre;refine⟨T0,h1,fun he i q hi=>?_,fun a ai aD gB=>?_⟩
 ·have:=h2 (hl.eq▸he) i q hi;rw [hf.tape,hd] at this;exact this
 ·obtain⟨aQ,b,cO,evs,o⟩:=h3 a ai (hr _ _ _ _ aD) (gB++ev);refine⟨aQ,b,cO,ev++evs,⟨by rw [ng,o.run,Array.append_assoc],hl.trans o.le,o.res,o.wr,hf.trans o.le o.fr,(hg _ _).trans o.grow,fun e he=>?_,fun he=>?_,fun x x' hx hf=>(o.fz x x' (hx.mono hl) ((hg _ _).fz x hf)).trans (hz x x' hx hf)⟩⟩
  ·rcases Array.mem_append.1 he with he|he
   ·exact cn _ o.le e he
   ·exact(o.evs e he).back (hg _ _)
  ·have:=o.drawn (hl.eq▸he);rw [hd] at this;exact this
theorem SR.xw{P:Program}{α β:Type}{R:Ren->α->β->Prop}{ρ:Ren}{s:Sem α}{s':Sem β}(h:SR P R ρ s s'):∀ {w w':World},WR ρ w w'->Td P R ρ s s' w w':=by
 induction h with
 | @pure ρ x y r =>
  intro w w' hw d pre;refine⟨fun i q=>if i<d then pre i q else w'.tape (w'.drawn+(i-d)) q,fun i q hi=>if_pos hi,fun _ i q hi=>if_neg ae,fun a ai aD gB=>?_⟩;unfold Sem.run at aD;injection aD with e1 e2;subst e1;subst e2
  exact⟨ρ,y,w',#[],⟨by simp [Sem.runT],.refl _,r,⟨hw.lo,hw.obj,hw.std⟩,.refl,.refl _,ag,fun _=>⟨ag,ahr _,ahr _⟩,fun _ _ _ _=>rfl⟩⟩
 | @load ρ x x' k k' ha _ ih =>
  intro w w' hw
  cases hc:w.cell? x with
  | none =>
   rcases hw.far ha hc P with⟨e,_,h2⟩|⟨v,ts,qk,f1,f2,f3,f4,f5⟩
   ·refine fun d pre=>⟨fun i q=>if i<d then pre i q else w'.tape (w'.drawn+(i-d)) q,fun i q hi=>if_pos hi,fun _ i q hi=>if_neg ae,fun a ai aD gB=>?_⟩;have:∀ T d,(tp w T d).cell? x=none:=fun _ _=>hc;have h2:∀ T d,(tp w T d).farLoad P x (Mode.plain==.atomic)=.error e:=h2;simp only [Sem.run,this,h2] at aD;cases aD
   ·refine(ih v v f4 hw).step (ev:=qk.toArray.map (⟨.cell ·,false,false⟩)) (fun T d a ai aD=>?_) (fun gB=>?_) (.refl _) .refl (fun _ _=>.refl _) (fun aQ hl e he=>?_) rfl
    ·have:(tp w T d).cell? x=none:=hc;have h2:(tp w T d).farLoad P x (Mode.plain==.atomic)=.ok (v,ts):=f1 T d;simp only [Sem.run,this,h2] at aD;exact aD
    ·have h2:w'.farLoad P x' (Mode.plain==.atomic)=.ok (v,qk):=f3;simp only [Sem.runT,f2,h2];rfl
    ·obtain⟨q,hq,rfl⟩:=Array.mem_map.1 he;obtain⟨p,hp,QG⟩:=(f5.mono hl).mem (by simpa using hq);exact .inl ⟨p,q,rfl,rfl,QG,fun hx=>by cases hx⟩
  | some v =>
   obtain⟨v',tN,hR,_⟩:=hw.cell ha hc;refine(ih v v' hR hw).step (ev:=#[⟨.cell x',false,false⟩]) (fun T d a ai aD=>?_) (fun gB=>?_) (.refl _) .refl (fun _ _=>.refl _) (fun aQ hl e he=>?_) rfl
   ·have:(tp w T d).cell? x=some v:=hc;simp only [Sem.run,this] at aD;exact aD
   ·simp only [Sem.runT,tN];rw [aic];rfl
   ·simp only [aiz,ahL] at he;subst he;exact .inl ⟨x,x',rfl,rfl,ha.mono hl,fun hx=>by cases hx⟩
 | @peek ρ x u k k' hu _ ih =>
  intro w w' hw;obtain⟨hc,uK⟩:=hw.std x u hu;refine(ih hw).step (ev:=#[⟨.cell x,false,false⟩]) (fun T d a ai aD=>?_) (fun gB=>?_) (.refl _) .refl (fun _ _=>.refl _) (fun aQ hl e he=>?_) rfl
  ·have:(tp w T d).cell? x=some u:=hc;simp only [Sem.run,this] at aD;exact aD
  ·simp only [Sem.runT,uK];rw [aic];rfl
  ·simp only [aiz,ahL] at he;subst he;exact .inr (.inr (.inr (.inr ⟨x,u,by rw [hl.m];exact hu,rfl⟩)))
 | @store ρ x x' v v' k k' ha hv _ ih =>
  intro w w' hw;have bad:(∀ T d a ai,(Sem.store .plain x v k).run P (tp w T d)≠.ok a ai)->Td P R ρ (.store .plain x v k) (.store .plain x' v' k') w w':=fun hb d pre =>
   ⟨fun i q=>if i<d then pre i q else w'.tape (w'.drawn+(i-d)) q,fun i q hi=>if_pos hi,fun _ i q hi=>if_neg ae,fun a ai aD=>absurd aD (hb _ _ _ _)⟩
  rcases Eu v with⟨p,rfl⟩|⟨p,rfl⟩|⟨f1,f2⟩
  ·exact bad fun T d a ai=>by simp [Sem.run]
  ·exact bad fun T d a ai=>by simp [Sem.run]
  have f1':∀ p,v'≠.agg p:=fun p e=>by subst e;cases hv;exact f1 _ rfl
  have f2':∀ p,v'≠.tuple p:=fun p e=>by subst e;cases hv;exact f2 _ rfl
  cases hc:w.cell? x with
  | none =>
   rcases hw.Vq ha hc P hv with⟨e,_,h2⟩|⟨w2,Ot,ts,qk,g1,g2,g3,g4,g5,g6,g7,g8,g9,g10⟩
   ·refine bad fun T d a ai=>?_;have:(tp w T d).cell? x=none:=hc;have h2:(tp w T d).farStore P x v (Mode.plain==.atomic)=.error e:=h2 T d;rw [dU f1 f2];simp [this,h2]
   ·refine(ih g4).step (ev:=qk.toArray.map (⟨.cell ·,true,false⟩)) (fun T d a ai aD=>?_) (fun gB=>?_) (.refl _) g5 g6 (fun aQ hl e he=>?_) g9 g10
    ·have:(tp w T d).cell? x=none:=hc;have h2:(tp w T d).farStore P x v (Mode.plain==.atomic)=.ok (tp w2 T d,ts):=g1 T d;rw [dU f1 f2] at aD;simp only [this,h2] at aD;exact aD
    ·have h2:w'.farStore P x' v' (Mode.plain==.atomic)=.ok (Ot,qk):=g3;rw [sD f1' f2',g2];simp only [h2];rfl
    ·obtain⟨q,hq,rfl⟩:=Array.mem_map.1 he;obtain⟨p,hp,QG⟩:=(g7.alike.mono hl).mem (by simpa using hq);exact .inl ⟨p,q,rfl,rfl,QG,fun _=>g7.ok p hp⟩
  | some u =>
   cases hf:w.frozen? x with
   | true =>
    refine bad fun T d a ai=>?_;have h1:(tp w T d).cell? x=some u:=hc;have h2:(tp w T d).frozen? x=true:=hf;rw [dU f1 f2];simp [h1,h2]
   | false =>
    obtain⟨u',qO,_,hz⟩:=hw.cell ha hc;obtain⟨yi,iY⟩:=hw.set ha hc hv;have qw:w'.frozen? x'=false:=by
     cases c:w'.frozen? x' with
     | false=>rfl
     | true=>have:=hz c;rw [hf] at this;cases this
    refine(ih yi).step (ev:=#[⟨.cell x',true,false⟩]) (fun T d a ai aD=>?_) (fun gB=>?_) (.refl _) iY (fun _ _=>IW hf) (fun aQ hl e he=>?_) rfl (fun y y' hy Te=>sE qO fun e=>?_)
    rotate_right
    ·have:y=x:=ha.inj (e▸hy);rw [this,hf] at Te;cases Te
    ·have h1:(tp w T d).cell? x=some u:=hc;have h2:(tp w T d).frozen? x=false:=hf;rw [dU f1 f2] at aD;simp only [h1,h2,ahD,if_false] at aD;exact aD
    ·rw [sD f1' f2',qO];simp only [qw,ahD,if_false];rw [aic];rfl
    ·simp only [aiz,ahL] at he;subst he;refine .inl ⟨x,x',rfl,rfl,ha.mono hl,fun _=>⟨hf,fun c t z BH=>?_⟩⟩;unfold World.cell? at hc;rw [BH] at hc;simp only at hc;split at hc
     ·cases hc
     ·exact(ahx.1 hc).1
 | @new ρ o o' k k' ho _ ih =>
  intro w w' hw;obtain⟨db,h1,h2,h3,h4⟩:=hw.new ho;refine(ih _ _ _ h1 h2 h3).step (ev:=#[]) (fun T d a ai aD=>?_) (fun gB=>?_) h1 h4 (fun _ _=>IX) (fun aQ hl e he=>by simp at he) rfl (fun y y' hy _=>IZ (hw.lt hy.Vr).2)
  ·simp only [Sem.run] at aD;exact aD
  ·simp only [Sem.runT,aij]
 | @shape ρ r r' k k' sC _ ih =>
  intro w w' hw;refine(ih (w.shape? r) hw).step (ev:=#[]) (fun T d a ai aD=>?_) (fun gB=>?_) (.refl _) .refl (fun _ _=>.refl _) (fun aQ hl e he=>by simp at he) rfl
  ·simp only [Sem.run] at aD;exact aD
  ·simp only [Sem.runT,aij,hw.shape sC]
 | @freeze ρ x x' n k k' ha _ ih =>
  intro w w' hw;obtain⟨h1,h2⟩:=hw.freeze ha n;refine(ih h1).step (ev:=#[]) (fun T d a ai aD=>?_) (fun gB=>?_) (.refl _) h2 (fun T d=>?_) (fun aQ hl e he=>by simp at he) ?_ (fun y y' hy _=>zW)
  ·simp only [Sem.run] at aD;have e:(tp w T d).freeze x n=tp (w.freeze x n) T d:=by
    unfold World.freeze;by_cases hn:n=0<;>simp only [hn,if_true,if_false]<;>rfl
   rw [e] at aD;exact aD
  ·simp only [Sem.runT,aij]
  ·have e:(tp w T d).freeze x n=tp (w.freeze x n) T d:=by
    unfold World.freeze;by_cases hn:n=0<;>simp only [hn,if_true,if_false]<;>rfl
   rw [<- e];exact zV
  ·unfold World.freeze;split<;>rfl
 | @frozen ρ x x' k k' ha _ ih =>
  intro w w' hw;obtain⟨h1,h2⟩:=hw.Tc ha;refine(ih (w.frozen? x) (w'.frozen? x') h1 h2 hw).step (ev:=#[]) (fun T d a ai aD=>?_) (fun gB=>?_) (.refl _) .refl (fun _ _=>.refl _) (fun aQ hl e he=>by simp at he) rfl
  ·simp only [Sem.run] at aD;exact aD
  ·simp only [Sem.runT,aij]
 | @shapeR ρ r' k k' _ ih =>
  intro w w' hw;refine(ih (w'.shape? r') hw).step (ev:=#[]) (fun T d a ai aD=>aD) (fun gB=>?_) (.refl _) .refl (fun _ _=>.refl _) (fun aQ hl e he=>by simp at he) rfl;simp only [Sem.runT,aij]
 | @frozenR ρ r' k k' _ ih =>
  intro w w' hw;refine(ih (w'.frozen? r') hw).step (ev:=#[]) (fun T d a ai aD=>aD) (fun gB=>?_) (.refl _) .refl (fun _ _=>.refl _) (fun aQ hl e he=>by simp at he) rfl;simp only [Sem.runT,aij]
 | @getObj ρ r r' k k' sC _ ih =>
  intro w w' hw;obtain⟨o,o',h1,h2,h3⟩:=hw.obj _ _ sC
  cases h3 with
  | cells =>
   refine fun d pre=>⟨fun i q=>if i<d then pre i q else w'.tape (w'.drawn+(i-d)) q,fun i q hi=>if_pos hi,fun _ i q hi=>if_neg ae,fun a ai aD gB=>?_⟩;simp [Sem.run,tp,h1] at aD
  | map n he =>
   refine(ih _ _ (.map n he) hw).step (ev:=#[⟨.obj r',false,false⟩]) (fun T d a ai aD=>?_) (fun gB=>?_) (.refl _) .refl (fun _ _=>.refl _) (fun aQ hl e he=>?_) rfl
   ·simp only [Sem.run,tp,h1] at aD;exact aD
   ·simp only [Sem.runT,h2,Obj.isChan];rw [aic]
   ·simp only [aiz,ahL] at he;subst he;exact .inr (.inl ⟨r,r',rfl,rfl,hl.r _ _ sC,fun c t z hc=>by rw [h1] at hc;cases hc⟩)
  | iter s n =>
   refine(ih _ _ (.iter s n) hw).step (ev:=#[⟨.obj r',false,false⟩]) (fun T d a ai aD=>?_) (fun gB=>?_) (.refl _) .refl (fun _ _=>.refl _) (fun aQ hl e he=>?_) rfl
   ·simp only [Sem.run,tp,h1] at aD;exact aD
   ·simp only [Sem.runT,h2,Obj.isChan];rw [aic]
   ·simp only [aiz,ahL] at he;subst he;exact .inr (.inl ⟨r,r',rfl,rfl,hl.r _ _ sC,fun c t z hc=>by rw [h1] at hc;cases hc⟩)
  | view t hv =>
   refine(ih _ _ (.view t hv) hw).step (ev:=#[⟨.obj r',false,false⟩]) (fun T d a ai aD=>?_) (fun gB=>?_) (.refl _) .refl (fun _ _=>.refl _) (fun aQ hl e he=>?_) rfl
   ·simp only [Sem.run,tp,h1] at aD;exact aD
   ·simp only [Sem.runT,h2,Obj.isChan];rw [aic]
   ·simp only [aiz,ahL] at he;subst he;exact .inr (.inl ⟨r,r',rfl,rfl,hl.r _ _ sC,fun c t z hc=>by rw [h1] at hc;cases hc⟩)
  | number t hv =>
   refine(ih _ _ (.number t hv) hw).step (ev:=#[⟨.obj r',false,false⟩]) (fun T d a ai aD=>?_) (fun gB=>?_) (.refl _) .refl (fun _ _=>.refl _) (fun aQ hl e he=>?_) rfl
   ·simp only [Sem.run,tp,h1] at aD;exact aD
   ·simp only [Sem.runT,h2,Obj.isChan];rw [aic]
   ·simp only [aiz,ahL] at he;subst he;exact .inr (.inl ⟨r,r',rfl,rfl,hl.r _ _ sC,fun c t z hc=>by rw [h1] at hc;cases hc⟩)
 | @setObj ρ r r' o o' k k' sC ho _ ih =>
  intro w w' hw;obtain⟨p,p',h1,h2,h3⟩:=hw.obj _ _ sC;have yi:=hw.uo (v:={ w with heap:=w.heap.setIfInBounds r o }) (v':={ w' with heap:=w'.heap.setIfInBounds r' o' }) sC rfl rfl ho;have iY:Fr ρ ρ w' { w' with heap:=w'.heap.setIfInBounds r' o' }:=Fr.uo sC rfl rfl rfl rfl;have vl:o'.isChan=false:=by cases ho<;>rfl
  have good:(∀ c t z,p≠.cells c t z)->(∀ T d,(Sem.setObj r o k).run P (tp w T d)=k.run P (tp { w with heap:=w.heap.setIfInBounds r o } T d))->(∀ gB,(Sem.setObj r' o' k').runT P w' gB=k'.runT P { w' with heap:=w'.heap.setIfInBounds r' o' } (gB++#[⟨.obj r',true,o'.isChan⟩]))->Td P R ρ (.setObj r o k) (.setObj r' o' k') w w':=by
   intro S8 e1 e2;refine(ih yi).step (ev:=#[⟨.obj r',true,o'.isChan⟩]) (fun T d a ai aD=>(e1 T d)▸aD) e2 (.refl _) iY (fun _ _=>IY h1 S8) (fun aQ hl e he=>?_) rfl (fun y y' hy Te=>I0 fun e=>?_)
   rotate_right
   ·have hyr:=hy.Vr;rw [e] at hyr;have e2:=ρ.ir hyr sC;unfold World.frozen? at Te;rw [e2,h1] at Te;cases p<;>first|exact S8 _ _ _ rfl|cases Te
   simp only [aiz,ahL] at he;subst he;exact .inr (.inl ⟨r,r',rfl,vl,hl.r _ _ sC,fun c t z hc=>by rw [h1] at hc;exact S8 _ _ _ (ah6 hc)⟩)
  cases h3 with
  | cells =>
   refine fun d pre=>⟨fun i q=>if i<d then pre i q else w'.tape (w'.drawn+(i-d)) q,fun i q hi=>if_pos hi,fun _ i q hi=>if_neg ae,fun a ai aD gB=>?_⟩;simp [Sem.run,tp,h1] at aD
  | map n he=>exact good (fun _ _ _ h=>by cases h) (fun T d=>by simp only [Sem.run,tp,h1]) fun gB=>by simp only [Sem.runT,h2];rw [aic]
  | iter s n=>exact good (fun _ _ _ h=>by cases h) (fun T d=>by simp only [Sem.run,tp,h1]) fun gB=>by simp only [Sem.runT,h2];rw [aic]
  | view t hv=>exact good (fun _ _ _ h=>by cases h) (fun T d=>by simp only [Sem.run,tp,h1]) fun gB=>by simp only [Sem.runT,h2];rw [aic]
  | number t hv=>exact good (fun _ _ _ h=>by cases h) (fun T d=>by simp only [Sem.run,tp,h1]) fun gB=>by simp only [Sem.runT,h2];rw [aic]
 | @choose ρ q k k' _ ih =>
  intro w w' hw;by_cases hq:q.forced=true
  ·refine(ih 0 hw).step (ev:=#[]) (fun T d a ai aD=>?_) (fun gB=>?_) (.refl _) .refl (fun _ _=>.refl _) (fun aQ hl e he=>by simp at he) rfl
   ·simp only [Sem.run,hq,if_true] at aD;exact aD
   ·simp only [Sem.runT,hq,if_true,aij]
  ·intro d pre;have yi:WR ρ w { w' with drawn:=w'.drawn+1 }:=⟨hw.lo,hw.obj,hw.std⟩;obtain⟨T0,h1,h2,h3⟩:=ih (q.cut (w'.tape w'.drawn q)) yi (d+1) (fun i q=>if i=d then w'.tape w'.drawn q else pre i q);have hd:∀ q,T0 d q=w'.tape w'.drawn q:=fun q=>(h1 d q ae).trans (if_pos rfl);refine⟨T0,fun i q hi=>(h1 i q ae).trans (if_neg ae),fun he i q hi=>?_,fun a ai aD gB=>?_⟩
   ·by_cases e:i=d
    ·subst e;simp only [Nat.sub_self,aib];exact hd q
    ·have:=h2 he i q ae;rw [this];show w'.tape (w'.drawn+1+(i-(d+1))) q=_;congr 1;omega
   ·have e1:(Sem.choose q k).run P (tp w T0 d)=(k (q.cut (w'.tape w'.drawn q))).run P (tp w T0 (d+1)):=by
     simp only [Sem.run,hq];rw [if_neg ag];show(k (q.cut (T0 d q))).run P _=_;rw [hd];rfl
    rw [e1] at aD;obtain⟨aQ,b,cO,evs,o⟩:=h3 a ai aD gB;refine⟨aQ,b,cO,evs,⟨?_,o.le,o.res,o.wr,⟨o.fr.tape,o.fr.os,o.fr.output,o.fr.size,o.fr.old,o.fr.new,o.fr.mine⟩,⟨o.grow.row,o.grow.size,o.grow.tape,o.grow.os⟩,o.evs,fun he=>?_,fun x x' hx hf=>o.fz x x' hx hf⟩⟩
    ·simp only [Sem.runT,hq];rw [if_neg ag];exact o.run
    ·have:=o.drawn he;dsimp only [tp] at this ⊢;omega
 | @chooseL ρ q k k' t hn hq _ ih =>
  intro w w' hw d pre;obtain⟨T0,h1,h2,h3⟩:=ih hw (d+1) (fun i q=>if i=d then t else pre i q);have hd:∀ q,T0 d q=t:=fun q=>(h1 d q ae).trans (if_pos rfl);refine⟨T0,fun i q hi=>(h1 i q ae).trans (if_neg ae),fun he=>absurd he hn,fun a ai aD gB=>?_⟩;have e1:(Sem.choose q k).run P (tp w T0 d)=(k (q.cut t)).run P (tp w T0 (d+1)):=by
   simp only [Sem.run,hq];rw [if_neg ag];show(k (q.cut (T0 d q))).run P _=_;rw [hd];rfl
  rw [e1] at aD;obtain⟨aQ,b,cO,evs,o⟩:=h3 a ai aD gB;exact⟨aQ,b,cO,evs,⟨o.run,o.le,o.res,o.wr,o.fr,⟨o.grow.row,o.grow.size,o.grow.tape,o.grow.os⟩,o.evs,fun he=>absurd he hn,fun x x' hx hf=>o.fz x x' hx hf⟩⟩
 | @program ρ k k' _ ih =>
  intro w w' hw;refine(ih hw).step (ev:=#[]) (fun T d a ai aD=>?_) (fun gB=>?_) (.refl _) .refl (fun _ _=>.refl _) (fun aQ hl e he=>by simp at he) rfl
  ·simp only [Sem.run] at aD;exact aD
  ·simp only [Sem.runT,aij]
 | @room ρ k k' _ ih =>
  intro w w' hw;refine(ih hw).step (ev:=#[⟨.mark .noRoom,false,true⟩]) (fun T d a ai aD=>?_) (fun gB=>?_) (.refl _) .refl (fun _ _=>.refl _) (fun aQ hl e he=>?_) rfl
  ·simp only [Sem.run] at aD;exact aD
  ·simp only [Sem.runT];rw [aic]
  ·simp only [aiz,ahL] at he;subst he;exact .inr (.inr (.inr (.inl rfl)))
 | @ext ρ k k' f _ ih =>
  intro w w' hw;refine(ih hw).step (ev:=#[⟨.mark (.extern f),false,true⟩]) (fun T d a ai aD=>?_) (fun gB=>?_) (.refl _) .refl (fun _ _=>.refl _) (fun aQ hl e he=>?_) rfl
  ·simp only [Sem.run] at aD;exact aD
  ·simp only [Sem.runT];rw [aic]
  ·simp only [aiz,ahL] at he;subst he;exact .inr (.inr (.inl ⟨f,rfl⟩))
 | @dead ρ s s' h =>
  intro w w' hw d pre;exact⟨fun i q=>if i<d then pre i q else w'.tape (w'.drawn+(i-d)) q,fun i q hi=>if_pos hi,fun _ i q hi=>if_neg ae,fun a ai aD=>absurd aD (h.never _ _ _)⟩
end CO
