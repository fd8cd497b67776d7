/- Part of the proof. -/
import Derived.OrdersHeld
import Derived.Test.YtmbbagbhmjaedaaGreatDoorCcd
import Derived.Test.YtmbbagbhmjaedaaGreatDoorCce
set_option linter.all false
set_option maxRecDepth 10000
set_option maxHeartbeats 6400000
namespace FM
open Go Go.RowKit
variable {i N t fuel:Nat}{o:Oper}{S:Sys}{σ bx:St}{w w0:World}{x:Operand}{L0 L:Nat->aO}{a:Act}{ti:TI}{cs:List AV}{l:List Oper}{listed:List Bool}{K:St->Prop}{fs:List (Nat×Nat)}
theorem RelL.IH(h:RelL S w0 L0 N σ a w L):RelL S w L N σ a w L :=
 ⟨h.defers,h.size,⟨rfl,rfl,rfl,ahr _,fun _ _ _=>rfl⟩,⟨h.lok.lt,h.lok.inj,h.lok.head,fun b p _ hb=>⟨p,hb⟩,fun _ _=>Iff.rfl,fun b hb=>h.lok.new b (ahZ h.keep.size hb)⟩,h.hold,h.out,h.fix,h.gh⟩
theorem RelL.II{a':Act}{w':World}{L':Nat->aO}(h:RelL S w0 L0 N σ a w L)(h':RelL S w L N bx a' w' L'):RelL S w0 L0 N bx a' w' L':=by
 have aA:∀ b,b<w0.heap.size->b<w.heap.size:=fun b hb=>ahv hb h.keep.size;refine⟨h'.defers,h'.size,⟨h'.keep.os.trans h.keep.os,h'.keep.tape.trans h.keep.tape,h'.keep.output.trans h.keep.output,ahZ h.keep.size h'.keep.size,fun b hb hn=>?_⟩,⟨h'.lok.lt,h'.lok.inj,h'.lok.head,fun b p hb hp=>?_,fun b hb=>?_,fun b hb=>?_⟩,h'.hold,h'.out,h'.fix,h.glob⟩
 ·refine(h'.keep.block b (aA b hb) fun p hp=>?_).trans (h.keep.block b hb hn);obtain⟨q,hq⟩:=h.lok.old b p hb hp;exact hn q hq
 ·obtain⟨q,hq⟩:=h'.lok.old b p (aA b hb) hp;exact h.lok.old b q hb hq
 ·exact(h'.lok.fo b (aA b hb)).trans (h.lok.fo b hb)
 ·rcases aia b w.heap.size with iu|hge
  ·intro e;exact h.lok.new b hb ((h'.lok.fo b iu).1 e)
  ·exact h'.lok.new b hge
def vi(S:Sys)(o:Oper)(σ bx:St):Prop :=
 ∀ (w0:World) (L0:Nat->aO) (N:Nat) (a:Act) (w:World) (L:Nat->aO),(∀ d:Nat,o.dst=some d->oC S N d)->RelL S w0 L0 N σ a w L ->
  ∃ v,(∀ w',(∀ b,b<w.heap.size->L b=.sh->w'.heap[b]?=w.heap[b]?)->(execOp a.eval o).run S.P w'=.ok (.value v) w')/\Rel S w0 L0 N bx (a.put o.dst v) w
theorem StepW.toS(h:StepW S o σ bx):vi S o σ bx:=fun w0 L0 N a w L hd hR=>by
 obtain⟨v,h1,h2⟩:=h w0 L0 N a w hd ⟨L,hR⟩;exact⟨v,fun w' _=>h1 w',h2⟩
theorem sq{P:Program}(h:tT P t ti){y:AV}(hf:y.fits ti=true){b off:Nat}{w:World}{L:Nat->aO}(dJ:∀ cs,y=.agg cs->∀ (j:Nat) (z:AV),cs[j]?=some z->z.aW=false)
  (hc:∀ j z,y.cells[j]?=some z->∃ u,w.cell? ⟨b,off+j,none⟩=some u/\Rep L w none z u) :
  ∃ v,(∀ w',w'.heap[b]?=w.heap[b]?->(loadVar t ⟨b,off,none⟩).run P w'=.ok v w')/\Rep L w none y v:=by
 obtain⟨us,hl,E9⟩:=vX (R:=fun j z u=>w.cell? ⟨b,off+j,none⟩=some u/\Rep L w none z u) y.cells 0 (by simpa using hc);simp only [ahR] at E9;refine⟨_,fun w' e=>ix h hf us hl fun j u hu=>?_,?_⟩
 ·have hj:j<y.cells.length:=by rw [<- hl];exact(aho.1 hu).1
  rw [cell_of_heap e];exact(E9 j _ u (ahn hj) hu).1
 ·cases y with
  | agg cs =>
   exact .agg hl fun i x v hx hv=>(E9 i x v hx hv).2
  | _ =>
   cases us with
   | nil=>simp [AV.cells] at hl
   | cons u us=>exact(E9 0 _ u rfl rfl).2
section
variable {S:Sys} {σ:St} {d ty:Nat} {pos:String} {aft:Array Edge} {g:Option (Nat×Bool)}
theorem Vd{y:AV}(hx:ov σ x=.dptr y)(hT:S.T t=some ti)(hf:y.fits ti=true)(hp:y.aW=false)(hn:y.fv=true):vi S ⟨some d,.load t x,ty,pos,aft,g⟩ σ (σ.put d (.av y)):=by
 intro w0 L0 N a w L hN hR;obtain⟨m,⟨b,off,hv,hL,hb,hc⟩,_⟩:=aM hR hx ag;obtain⟨v,h1,h2⟩:=sq (S.ok t ti hT) hf (cY hn) hc;exact⟨v,fun w' e=>by simp only [execOp,hv,Instr.loadAt,Instr.sureAddr];simp [h1 w' (e b hb hL)],Rel.aT (n:=d) hR (hN d rfl) (by simp [TV.plain,hp]) rfl (h2.any _)⟩
theorem Oh{y:AV}(hx:ov σ x=.av (.pt false cs))(hT:S.T t=some ti)(hy:y.cells=cs)(hf:y.fits ti=true)(hp:y.aW=false)(hn:y.fv=true):vi S ⟨some d,.load t x,ty,pos,aft,g⟩ σ (σ.put d (.av y)):=by
 intro w0 L0 N a w L hN hR;obtain⟨n,Bd⟩:=cU hR hx;generalize cn:a.eval x=v at Bd
 cases Bd with
 | @ptS _ _ b o u hb aA aH hr =>
  obtain⟨v,h1,h2⟩:=sq (S.ok t ti hT) hf (off:=o) (cY hn) (fun j z hz=>by rw [hy] at hz;exact⟨u j,aH j (aho.1 hz).1,hr j z hz⟩);exact⟨v,fun w' e=>by simp only [execOp,cn,Instr.loadAt,Instr.sureAddr];simp [h1 w' (e b aA hb)],Rel.aT (n:=d) hR (hN d rfl) (by simp [TV.plain,hp]) rfl (h2.any _)⟩
theorem IJ(hx:ov σ x=.av (.pt false cs))(hT:S.T t=some ti)(hf:(AV.agg cs).fits ti=true)(hn:(AV.agg cs).fv=true):vi S ⟨some d,.load t x,ty,pos,aft,g⟩ σ (σ.put d (.av (.agg cs))):=Oh hx hT rfl hf rfl hn
theorem jX{t:Nat}{ti:TI}{cs:List AV}{x:Operand}(hx:ov σ x=.av (.pt false cs))(hT:S.T t=some ti)(hf:(AV.agg cs).fits ti=true)(hn:(AV.agg cs).fv=true):Step S ⟨some d,.load t x,ty,pos,aft,g⟩ σ (σ.put d (.av (.agg cs))):=N1 hx hT rfl hf rfl hn
theorem IK{sz cA off gn:Nat}{zz:List AV}{jG:TI}{y:AV}(hx:ov σ x=.av (.pt false cs))(hT:S.T t=some ⟨.struct fs,sz,cA,zz⟩)(hf:fs[i]?=some (off,gn))(hF:S.T gn=some jG)(hc:Nat.beq jG.size 0=false)(hy:cs[off]?=some y)(h1:y.cells=[y]):
  StepW S ⟨some d,.fieldAddr t x i,ty,pos,aft,g⟩ σ (σ.put d (.dptr y)):=by
 intro w0 L0 N a w hN ⟨L,hR⟩;obtain⟨n,hn⟩:=cU hR hx;generalize cn:a.eval x=v at hn
 cases hn with
 | @ptS _ _ b o u hb aA aH hr =>
  obtain⟨fields,f,hu,qa,h2,h3⟩:=(S.ok t _ hT).fld hf;have bc:=(S.ok gn _ hF).size;rw [<- h3] at bc;refine⟨.pointer (some ⟨b,o+f.offset,none⟩),fun w'=>?_,Rel.aT (n:=d) hR (hN d rfl) rfl rfl ⟨b,o+f.offset,rfl,hb,aA,fun j z hz=>?_⟩⟩
  ·simp only [execOp,cn,Sem.run_bind,bR hu qa bc (aC hc)];rfl
  ·rw [h1] at hz
   cases j with
   | zero=>simp only [ahq,ahp] at hz;subst hz;rw [h2];exact⟨_,aH off (aho.1 hy).1,hr off _ hy⟩
   | succ j=>simp at hz
theorem Eo{sz cA off gn:Nat}{zz ys:List AV}{jG:TI}(hx:ov σ x=.av (.pt false cs))(hT:S.T t=some ⟨.struct fs,sz,cA,zz⟩)(hf:fs[i]?=some (off,gn))(hF:S.T gn=some jG)(hc:Nat.beq jG.size 0=false)(hy:(cs.drop off).take jG.size=ys)(h12:Nat.blt 1 jG.size=true):
  StepW S ⟨some d,.fieldAddr t x i,ty,pos,aft,g⟩ σ (σ.put d (.dptr (.agg ys))):=by
 intro w0 L0 N a w hN ⟨L,hR⟩;obtain⟨n,hn⟩:=cU hR hx;generalize cn:a.eval x=v at hn
 cases hn with
 | @ptS _ _ b o u hb aA aH hr =>
  obtain⟨fields,f,hu,qa,h2,h3⟩:=(S.ok t _ hT).fld hf;have bc:=(S.ok gn _ hF).size;rw [<- h3] at bc;refine⟨.pointer (some ⟨b,o+f.offset,none⟩),fun w'=>?_,Rel.aT (n:=d) hR (hN d rfl) rfl rfl ⟨b,o+f.offset,rfl,hb,aA,fun j z hz=>?_⟩⟩
  ·simp only [execOp,cn,Sem.run_bind,bR hu qa bc (aC hc)];rfl
  ·have hz:ys[j]?=some z:=hz;rw [<- hy,aiq] at hz;split at hz
   ·rw [ah5] at hz;rw [h2,aix];exact⟨_,aH (off+j) (aho.1 hz).1,hr (off+j) z hz⟩
   ·cases hz
theorem RelL.ME{w':World}{ch:List PanicEntry}(h:RelL S w0 L0 N σ a w L)(h':Pf S w L ch w'):Pf S w0 L0 ch w':=by
 obtain⟨L',ps,hx,hk,hl,hr⟩:=h';have aA:∀ b,b<w0.heap.size->b<w.heap.size:=fun b hb=>ahv hb h.keep.size;refine⟨L',ps,hx,⟨hk.os.trans h.keep.os,hk.tape.trans h.keep.tape,hk.output.trans h.keep.output,ahZ h.keep.size hk.size,fun b hb hn=>?_⟩,⟨hl.lt,hl.inj,hl.head,fun b p hb hp=>?_,fun b hb=>?_,fun b hb=>?_⟩,hr⟩
 ·refine(hk.block b (aA b hb) fun p hp=>?_).trans (h.keep.block b hb hn);obtain⟨q,hq⟩:=h.lok.old b p hb hp;exact hn q hq
 ·obtain⟨q,hq⟩:=hl.old b p (aA b hb) hp;exact h.lok.old b q hb hq
 ·exact(hl.fo b (aA b hb)).trans (h.lok.fo b hb)
 ·rcases aia b w.heap.size with iu|hge
  ·intro e;exact h.lok.new b hb ((hl.fo b iu).1 e)
  ·exact hl.new b hge
end
@[irreducible] def JAS (S:Sys) (N:Nat) (ops:Array Oper) (fuel:Nat) (listed:List Bool) (K:St→Prop) (σ:St):Prop :=
 dstOk S N ops.toList=true->∀ (w0:World) (L0:Nat->aO) (Q:Exit->Act->World->Prop) (a:Act) (w:World),(∀ c (a:Act) (d:Option Nat) v w,(∀ t:Nat,d=some t->oC S N t)->Q (.panic c) (a.put d v) w->Q (.panic c) a w) ->
  OutJ S N w0 L0 K Q->Rel S w0 L0 N σ a w->Go.wpAnyH S.P .any ops Q (gf L0 w0) fuel listed.toArray a w
@[irreducible] def JAF (S:Sys) (N:Nat) (ops:Array Oper) (fuel:Nat) (listed:List Bool) (K:St→Prop) (σ:St):Prop :=
 dstOk S N ops.toList=true->∀ (w0:World) (L0:Nat->aO) (Q:Exit->Act->World->Prop) (a:Act) (w:World) (L:Nat->aO),(∀ c (a:Act) (d:Option Nat) v w,(∀ t:Nat,d=some t->oC S N t)->Q (.panic c) (a.put d v) w->Q (.panic c) a w) ->
  OutJ S N w0 L0 K Q->RelL S w0 L0 N σ a w L->∃ Lf,(∀ b,L b=.sh->Lf b=.sh)/\Go.wpAnyH S.P .any ops Q (gf Lf w) fuel listed.toArray a w
section
variable {S:Sys} {N:Nat} {σ:St} {K:St->Prop} {l:List Oper} {listed:List Bool} {fuel:Nat}
theorem JA.held(h:JAF S N l.toArray fuel listed K σ):JA S N l.toArray fuel listed K σ:=by
 unfold JAF at h;unfold JA;intro dI w0 L0 Q a w hp hQ ⟨L,hR⟩;obtain⟨Lf,_,h1⟩:=h dI w0 L0 Q a w L hp hQ hR;exact Go.wpAny_of_held _ _ _ _ h1
theorem JAF.go(h:JAS S N l.toArray fuel listed K σ):JAF S N l.toArray fuel listed K σ:=by
 unfold JAS at h;unfold JAF;intro dI w0 L0 Q a w L hp hQ hR;exact⟨L,fun _ hb=>hb,h dI w L Q a w hp ⟨fun bx a' w' hk ⟨L',hr⟩=>hQ bx a' w' hk ⟨L',hR.II hr⟩,fun ch a' w' hd=>hQ.die ch a' w' ⟨hd.defers,hd.size,hd.fix,hR.ME hd.dies⟩⟩ ⟨L,hR.IH⟩⟩
theorem JAF.take(ho:l[i]?=some o)(hg:live l.toArray o.guard σ=some true)(hB:(Region.noSelect l.toArray&&Region.free .any l.toArray listed.toArray i&&(bV l listed).contains i)=true)(hs:vi S o σ bx)(h:JAF S N l.toArray fuel (listed.set i true) K bx):
  JAF S N l.toArray (fuel+1) listed K σ:=by
 unfold JAF at h ⊢;intro dI w0 L0 Q a w L hp hQ hR;simp only [aht] at hB;have yc:=(aU (gH (by simpa using dI) (ahH ho))).1;obtain⟨v,hv,L',gi⟩:=hs w L N a w L yc hR.IH;obtain⟨Lf,h1,h2⟩:=h dI w0 L0 Q _ w L' hp hQ (hR.II gi);have kx:∀ b,b<w.heap.size->L b=.sh->L' b=.sh:=fun b hb hL=>by
  cases fS:L' b with
  | sh=>rfl
  | my p=>obtain⟨q,hq⟩:=gi.lok.old b p hb fS;rw [hL] at hq;cases hq
  | fo=>have:=(gi.lok.fo b hb).1 fS;rw [hL] at this;cases this
 have hw:=ba (o:=o) hg ⟨L,hR⟩;refine⟨fun b=>if b<w.heap.size then Lf b else .sh,fun b hb=>?_,?_⟩
 ·by_cases aA:b<w.heap.size
  ·simp only [aA,if_true];exact h1 b (kx b aA hb)
  ·simp only [aA,if_false]
 ·have e:listed.toArray.setIfInBounds i true=(listed.set i true).toArray:=ag;have conv:∀ w',gf (fun b=>if b<w.heap.size then Lf b else .sh) w w'↔gf Lf w w':=fun w' =>
   ⟨fun k=>⟨k.os,k.tape,k.output,k.size,fun b hb hn=>k.block b hb (by simpa only [hb,if_true] using hn)⟩,fun k=>⟨k.os,k.tape,k.output,k.size,fun b hb hn=>k.block b hb (by simpa only [hb,if_true] using hn)⟩⟩
  have eS:gf (fun b=>if b<w.heap.size then Lf b else .sh) w=gf Lf w:=funext fun w'=>propext (conv w');rw [eS];refine Go.wpAnyH_take (by simpa using ho) hB.1.1 hB.1.2 (by rw [dR];exact hB.2) (fun c a w h=>hp c a _ _ w yc h) (.inl ⟨hw,fun w' qU=>hv w' fun b hb hL=>qU.block b hb fun p hpb=>?_⟩) ⟨rfl,rfl,rfl,ahr _,fun _ _ _=>rfl⟩ (by rw [e];exact h2);rw [h1 b (kx b hb hL)] at hpb;cases hpb
theorem JAS.done(hr:(bV l listed).isEmpty=true)(h:K σ):JAS S N l.toArray fuel listed K σ:=by
 unfold JAS;intro _ w0 L0 Q a w _ hQ hR;exact Go.wpAnyH_done (by rw [dR];simpa using hr) (hQ σ a w h hR) fuel
theorem JAS.op(ho:l[i]?=some o)(h:J false S N l.toArray [o] (JAS S N l.toArray fuel (listed.set i true) K) σ)(hd:dstOk S N l=true){w0:World}{L0:Nat->aO}{Q:Exit->Act->World->Prop}(hp:∀ c (a:Act) (d:Option Nat) v w,(∀ t:Nat,d=some t->oC S N t)->Q (.panic c) (a.put d v) w->Q (.panic c) a w)
  (hQ:OutJ S N w0 L0 K Q) (hR:Rel S w0 L0 N σ a w):wpOp S.P l.toArray Q i (fun a' w'=>gf L0 w0 w'/\Go.wpAnyH S.P .any l.toArray Q (gf L0 w0) fuel (listed.toArray.setIfInBounds i true) a' w') a w:=by
 unfold J at h
 have h1:=h (gH hd (ahH ho)) w0 L0 (fun e a w=>match e with
  | .normal=>gf L0 w0 w/\Go.wpAnyH S.P .any l.toArray Q (gf L0 w0) fuel (listed.set i true).toArray a w
  | e=>Q e a w) a w ⟨fun bx a' w' hK gi=>by
   unfold JAS at hK
   obtain⟨L',ng⟩:=id gi
   exact⟨ng.keep,hK hd w0 L0 Q a' w' hp hQ gi⟩,fun ch a' w' hd=>hQ.die ch a' w' hd⟩ hR
 unfold wpOp;have ho':l.toArray[i]?=some o:=by simpa using ho
 simp only [ho'];have e:listed.toArray.setIfInBounds i true=(listed.set i true).toArray:=ag;rw [e];unfold wpList at h1;exact h1
theorem JAS.all(rs:List Nat)(hr:bV l listed=rs)(cr:rs.isEmpty=false)(h:∀ i∈rs,∃ o,l[i]?=some o/\J false S N l.toArray [o] (JAS S N l.toArray fuel (listed.set i true) K) σ):JAS S N l.toArray (fuel+1) listed K σ:=by
 unfold JAS;intro hd w0 L0 Q a w hp hQ hR;have gT:dstOk S N l=true:=by simpa using hd
 refine Go.wpAnyH_all (rs:=rs) (by rw [dR];exact hr) (fun e=>by subst e;cases cr) fun i hi=>?_;obtain⟨o,ho,hj⟩:=h i hi;exact JAS.op ho hj gT hp hQ hR
theorem JAS.one(hr:bV l listed=[i])(ho:l[i]?=some o)(h:J false S N l.toArray [o] (JAS S N l.toArray fuel (listed.set i true) K) σ):JAS S N l.toArray (fuel+1) listed K σ :=
 .all [i] hr rfl fun j hj=>by simp only [ahL] at hj;subst hj;exact⟨o,ho,h⟩
theorem JAS.two{j:Nat}{o':Oper}(hr:bV l listed=[i,j])(ho:l[i]?=some o)(ho':l[j]?=some o')(h:J false S N l.toArray [o] (JAS S N l.toArray fuel (listed.set i true) K) σ)(h':J false S N l.toArray [o'] (JAS S N l.toArray fuel (listed.set j true) K) σ):JAS S N l.toArray (fuel+1) listed K σ :=
 .all [i,j] hr rfl fun k hk=>by
  simp only [ah1,aiK,or_false] at hk;rcases hk with rfl|rfl
  ·exact⟨o,ho,h⟩
  ·exact⟨o',ho',h'⟩
theorem JAS.three{j k:Nat}{o1 o2 o3:Oper}(hr:bV l listed=[i,j,k])(h1:l[i]?=some o1)(h2:l[j]?=some o2)(h3:l[k]?=some o3)(g1:J false S N l.toArray [o1] (JAS S N l.toArray fuel (listed.set i true) K) σ)(g2:J false S N l.toArray [o2] (JAS S N l.toArray fuel (listed.set j true) K) σ)(g3:J false S N l.toArray [o3] (JAS S N l.toArray fuel (listed.set k true) K) σ):JAS S N l.toArray (fuel+1) listed K σ :=
 .all [i,j,k] hr rfl fun x hx=>by
  simp only [ah1,aiK,or_false] at hx;rcases hx with rfl|rfl|rfl
  ·exact⟨_,h1,g1⟩
  ·exact⟨_,h2,g2⟩
  ·exact⟨_,h3,g3⟩
theorem JAS.rK(ho:l[i]?=some o)(hg:live l.toArray o.guard σ=some true)(hB:(Region.noSelect l.toArray&&Region.free .any l.toArray listed.toArray i&&(bV l listed).contains i)=true)(hs:StepW S o σ bx)(h:JAS S N l.toArray fuel (listed.set i true) K bx):
  JAS S N l.toArray (fuel+1) listed K σ:=by
 unfold JAS at h ⊢;intro dI w0 L0 Q a w hp hQ hR;simp only [aht] at hB;have yc:=(aU (gH (by simpa using dI) (ahH ho))).1;obtain⟨v,hv,gi⟩:=hs w0 L0 N a w yc hR;have h1:=h dI w0 L0 Q _ w hp hQ gi;obtain⟨L,hr⟩:=id hR;refine Go.wpAnyH_take (by simpa using ho) hB.1.1 hB.1.2 (by rw [dR];exact hB.2) (fun c a w h=>hp c a _ _ w yc h) (Yields.yieldsIf (.inl ⟨ba (o:=o) hg hR,hv⟩)) hr.keep ?_;have e:listed.toArray.setIfInBounds i true=(listed.set i true).toArray:=ag;rw [e];exact h1
end
theorem JAS.QP{oi:Oper}(_:K9 fuel i)(hr:bV l listed=[i])(ho:l[i]?=some oi)(h:(J false S N l.toArray [oi] (JAS S N l.toArray fuel (listed.set i true) K) σ)):JAS S N l.toArray (fuel+1) listed K σ:=.one hr ho h
theorem JAS.QQ{j:Nat}{oi oj:Oper}(_:W9 fuel i j)(hr:bV l listed=[i,j])(ho:l[i]?=some oi)(ho':l[j]?=some oj)(h:(J false S N l.toArray [oi] (JAS S N l.toArray fuel (listed.set i true) K) σ))(h':(J false S N l.toArray [oj] (JAS S N l.toArray fuel (listed.set j true) K) σ)):JAS S N l.toArray (fuel+1) listed K σ:=.two hr ho ho' h h'
theorem iR{A B:Prop}(g:B)(h:Wr B->A:=by intro g9;first|((apply JAS.done (fuel:=0));decide +kernel;exact g9.out)|fail):A:=h ⟨g⟩
theorem bP{A B:Prop}(f i:Nat)(g:B)(h:K9 f i->Wr B->A:=by intro k9 g9;first|((apply JAS.QP k9);decide +kernel;rfl;exact g9.out)|fail):A:=h ⟨⟩ ⟨g⟩
theorem qi{A B C:Prop}(f i j:Nat)(g:B)(g':C)(h:W9 f i j->Wr B->Wr C->A:=by intro k9 g9 c9;first|((apply JAS.QQ k9);decide +kernel;rfl;rfl;exact g9.out;exact c9.out)|fail):A:=h ⟨⟩ ⟨g⟩ ⟨g'⟩
theorem JAF.Ir(_:K9 fuel i)(ho:l[i]?=some o)(hg:live l.toArray o.guard σ=some true)(hB:(Region.noSelect l.toArray&&Region.free .any l.toArray listed.toArray i&&(bV l listed).contains i)=true)(hs:vi S o σ bx)(h:JAF S N l.toArray fuel (listed.set i true) K bx):JAF S N l.toArray (fuel+1) listed K σ:=.take ho hg hB hs h
theorem JAS.BX(_:K9 fuel i)(ho:l[i]?=some o)(hg:live l.toArray o.guard σ=some true)(hB:(Region.noSelect l.toArray&&Region.free .any l.toArray listed.toArray i&&(bV l listed).contains i)=true)(hs:StepW S o σ bx)(h:JAS S N l.toArray fuel (listed.set i true) K bx):JAS S N l.toArray (fuel+1) listed K σ:=.rK ho hg hB hs h
theorem aI{A B:Prop}(f i:Nat)(g:B)(h:K9 f i->Wr B->A:=by intro k9 g9;first|((apply JAF.Ir k9);rfl;rfl;decide +kernel;(first|((with_reducible apply Vd)<;>rfl)|((with_reducible apply IJ)<;>rfl)|((with_reducible apply Oh)<;>rfl)|(exact(StepW.toS (by first|exact(StepW.ext FM.st)|exact(StepW.QM (.inl rfl) FM.st)|exact(StepW.QM (.inr rfl) FM.st)|((with_reducible apply wZ)<;>exact bu)|exact(BV rfl rfl rfl)|((with_reducible apply r9)<;>(first|rfl|exact bu))|((with_reducible apply D4)<;>(first|rfl|exact kC.mk ae))|((with_reducible apply Eo)<;>rfl)|((with_reducible apply IK)<;>rfl)|exact BW rfl rfl rfl rfl rfl rfl rfl rfl rfl|exact kU rfl rfl rfl rfl rfl rfl rfl rfl|exact BU rfl rfl rfl rfl rfl rfl rfl rfl rfl|exact w8 rfl rfl rfl rfl rfl rfl rfl|fail)))|fail);exact g9.out)|fail):A:=h ⟨⟩ ⟨g⟩
theorem bn{A B:Prop}(f i:Nat)(g:B)(h:K9 f i->Wr B->A:=by intro k9 g9;first|((apply JAS.BX k9);rfl;rfl;decide +kernel;(first|exact(StepW.ext FM.st)|exact(StepW.QM (.inl rfl) FM.st)|exact(StepW.QM (.inr rfl) FM.st)|((with_reducible apply wZ)<;>exact bu)|exact(BV rfl rfl rfl)|((with_reducible apply r9)<;>(first|rfl|exact bu))|((with_reducible apply D4)<;>(first|rfl|exact kC.mk ae))|((with_reducible apply Eo)<;>rfl)|((with_reducible apply IK)<;>rfl)|exact BW rfl rfl rfl rfl rfl rfl rfl rfl rfl|exact kU rfl rfl rfl rfl rfl rfl rfl rfl|exact BU rfl rfl rfl rfl rfl rfl rfl rfl rfl|exact w8 rfl rfl rfl rfl rfl rfl rfl);exact g9.out)|fail):A:=h ⟨⟩ ⟨g⟩
end FM
namespace Go.Proofs.YtmbbagbhmjaedaaGreatDoor
open Go FM Go.Proofs Tryz
abbrev js(A:List Ac)(O:List Dl)(k:bd)(n:Int):AV:=.agg [.sl false 3 (A.map bz),.sl false 6 (O.map bL),.str k,.int n]
abbrev De:=Int×Int×bd×Dl×Unit
abbrev iE(kd n0:Int)(w:bd)(dl:Dl):AV:=.agg [.int kd,.int n0,.str w,.str dl.1,.str dl.2.1,.int dl.2.2.1,.int dl.2.2.2.1,.int dl.2.2.2.2.1,.int dl.2.2.2.2.2.1]
abbrev Ep(d:De):AV:=iE d.1 d.2.1 d.2.2.1 d.2.2.2.1
abbrev lV(t m:Int):AV:=.agg [.int t,.int m]
theorem su{A:List Ac}{O:List Dl}{k:bd}{n:Int}:(AV.pt true (js A O k n).cells).sh=.pt false (js A O k n).cells:=by
 simp only [AV.sh,AV.cells,AV.Bb];rw [fZ bz A bz fun x=>rfl,fZ bL O bL fun x=>rfl]
theorem ca{kd n0:Int}{w:bd}{dl:Dl}:(AV.pt true (iE kd n0 w dl).cells).sh=.pt false (iE kd n0 w dl).cells:=rfl
def Rb(e:Int)(l:List Dl):List Dl:=if e=0 then l else []
theorem qK{l:List Dl}{e:Int}:AV.le (oW l e) (.tup [.sl true 6 ((Rb e l).map bL),.int e]):=by
 unfold oW Rb;by_cases c:e=0
 ·rw [if_pos c,if_pos c,c];exact .refl _
 ·rw [if_neg c,if_neg c];exact nB .nil (.refl _)
theorem Re{l:List Ac}:qI 0 l=l:=if_pos rfl
theorem MF{l:List Dl}:Rb 0 l=l:=if_pos rfl
theorem F7(O:List Dl)(A:List Ac)(w:bd)(room:Int)(hl:qH O)(hL:kz A):FnSpec Sy.P 19 [.sl false 6 (O.map bL),.sl false 3 (A.map bz),.str w,.int room] [.sl false 6 (O.map bL),.sl false 3 (A.map bz),.str w,.int room] (.tup [.sl true 1 ((kA O A w room 1001).map .int),.sl false 3 ((Ek O A w room 1001).map bz),.int (oz O A w room)]):=by
 by_cases c:oz O A w room=0
 ·exact nQ O w hl 1001 A room (by have:=(mI c).2.2.2;omega) hL
 ·have:=nQ O w hl (room.toNat+1) A room ae hL;unfold kA Ek at this ⊢;rw [if_neg c,if_neg c] at this ⊢;exact this
section
variable (A:List Ac) (O:List Dl) (k:bd) (n n0:Int) (w:bd) (dl:Dl)
theorem Ve(hA:kz A)(hk:k.length<=4000)(hw:w.length<=9223372036854775807):FnSpec Sy.P 5 [js A O k n,iE 1 n0 w dl] [js A O k n,iE 1 n0 w dl] (.tup [js (KS A k w n0) O (KT A k w n0) n,lV 0 0,.int (ID A k w n0)]):=by
 have hO:=(pN A w n0 hA hw).le lK;unfold KS KT ID;by_cases c:oy A w n0=0
 ·obtain⟨_,hn,hm,_⟩:=xi c;have hI:=e8 n0 ae ae;have hl:=zM hn hm;have hW:=sk (QS w n0) ag (by rw [<- xa];omega);rw [<- xa] at hW;have hP:=l8 k (gA w n0) n hk ae;rw [if_neg (not_not_intro c)];rw [c,Re] at hO;unfold wR at hP;rw [if_neg ae] at hP;by_cases c2:4000<k.length+(gA w n0).length+3
  ·have e2:kS k (gA w n0)=8:=by unfold kS;rw [if_neg ae,if_pos c2]
   rw [if_pos c2,e2] at hP;rw [e2,if_neg af,if_neg af];generalize nI A w n0=B at *;generalize gA w n0=rc at *;unfold QS at hW;generalize Lib.itoa n0=z at *;refine bQ func5 ntmps5 fun v0=>?_;repeat' first|(refine J.aN 2 rfl rfl su rfl ?_)|(refine J.aN 3 rfl rfl ca rfl ?_)|refine qf 0 16 ?_|(with_reducible refine JA.held ?_)|refine aI 15 0 ?_|refine aI 14 1 ?_|refine aI 13 2 ?_|refine aI 12 3 ?_|refine aI 11 4 ?_|refine aI 10 5 ?_|(refine J.aN 29 rfl rfl (bG (g:=bz) (fun _=>rfl)) rfl ?_)|(with_reducible refine JAF.go ?_)|refine bP 9 6 ?_|refine bP 8 7 ?_|refine bP 7 8 ?_|refine bP 6 9 ?_|refine bn 5 10 ?_|refine bn 4 11 ?_|refine bn 3 12 ?_|refine bn 2 13 ?_|refine bP 1 14 ?_|refine bn 0 15 ?_|refine iR ?_|refine uc @jX ?_|refine H6 @gZ ?_|refine aG ?_|refine aF (hO) ?_|refine aF (hI) ?_|refine aF (hW) ?_|refine aF (hP) ?_|(refine aK ?_ ?_<;>intro _<;>try exact aE)|fail
   all_goals exact bw
  ·have e2:kS k (gA w n0)=0:=by unfold kS;rw [if_neg ae,if_neg c2]
   rw [if_neg c2,e2] at hP;rw [e2,if_pos rfl,if_pos rfl];generalize nI A w n0=B at *;generalize lF (gA w n0)=fr at *;generalize gA w n0=rc at *;unfold QS at hW;generalize Lib.itoa n0=z at *;refine bQ func5 ntmps5 fun v0=>?_;repeat' first|(refine J.aN 2 rfl rfl su rfl ?_)|(refine J.aN 3 rfl rfl ca rfl ?_)|refine qf 0 16 ?_|(with_reducible refine JA.held ?_)|refine aI 15 0 ?_|refine aI 14 1 ?_|refine aI 13 2 ?_|refine aI 12 3 ?_|refine aI 11 4 ?_|refine aI 10 5 ?_|(refine J.aN 29 rfl rfl (bG (g:=bz) (fun _=>rfl)) rfl ?_)|(with_reducible refine JAF.go ?_)|refine bP 9 6 ?_|refine bP 8 7 ?_|refine bP 7 8 ?_|refine bP 6 9 ?_|refine bn 5 10 ?_|refine bn 4 11 ?_|refine bn 3 12 ?_|refine bn 2 13 ?_|refine bP 1 14 ?_|refine bn 0 15 ?_|refine iR ?_|refine uc @jX ?_|refine H6 @gZ ?_|refine aG ?_|refine aF (hO) ?_|refine aF (hI) ?_|refine aF (hW) ?_|refine aF (hP) ?_|(refine aK ?_ ?_<;>intro _<;>try exact aE)|fail
   all_goals exact bw
 ·rw [if_pos c,if_neg c,if_neg c];generalize qI (oy A w n0) (nI A w n0)=B at *;generalize oy A w n0=e at *;refine bQ func5 ntmps5 fun v0=>?_;repeat' first|(refine J.aN 29 rfl rfl (bG (g:=bz) (fun _=>rfl)) rfl ?_)|refine H6 @gZ ?_|refine aG ?_|refine aF (hO) ?_|(refine aK ?_ ?_<;>intro _<;>try exact aE)|fail
  all_goals exact bw
theorem Vf(hO:qH O)(h1:dl.1.length<=9223372036854775807)(h2:dl.2.1.length<=9223372036854775807):FnSpec Sy.P 5 [js A O k n,iE 2 n0 w dl] [js A O k n,iE 2 n0 w dl] (.tup [js A (if ve O dl=0 then Ef O dl else O) k n,lV 0 0,.int (ve O dl)]):=by
 have hP:=(Cb O dl hO h1 h2).le qK;by_cases c:ve O dl=0
 ·rw [if_pos c];rw [c,MF] at hP;rw [c];generalize Ef O dl=B at *;refine bQ func5 ntmps5 fun v0=>?_;repeat' first|(refine J.aN 56 rfl rfl (bG (g:=bL) (fun _=>rfl)) rfl ?_)|refine uc @sa ?_|refine aG ?_|refine aF (hP) ?_|(refine aK ?_ ?_<;>intro _<;>try exact aE)|fail
  all_goals exact bw
 ·rw [if_neg c];generalize Rb (ve O dl) (Ef O dl)=B at *;generalize ve O dl=e at *;refine bQ func5 ntmps5 fun v0=>?_;repeat' first|(refine J.aN 56 rfl rfl (bG (g:=bL) (fun _=>rfl)) rfl ?_)|refine uc @sa ?_|refine aG ?_|refine aF (hP) ?_|(refine aK ?_ ?_<;>intro _<;>try exact aE)|fail
  all_goals exact bw
theorem Vg(hA:kz A)(hO:qH O)(hk:k.length<=4000)(Zs:A.length<=6):FnSpec Sy.P 5 [js A O k n,iE 3 n0 w dl] [js A O k n,iE 3 n0 w dl] (.tup [js (KU O A k w n0) (KV O A k w n0) (KW O A k w n0) n,lV (Q6 O A k w n0) (Q7 O A k w n0),.int (zO O A k w n0)]):=by
 have hF:=e7 A w hA.len;have hB:=F7 O A w n0 hO hA;unfold KU KV KW Q6 Q7;by_cases c1:fA A w<0
 ·have e:zO O A k w n0=4:=if_pos c1;rw [e,if_neg af,if_neg af,if_neg af,if_neg af,if_neg af];generalize fA A w=x at *;refine bQ func5 ntmps5 fun v0=>?_;repeat' first|refine H6 @gZ ?_|refine aG ?_|refine aF (hF) ?_|(refine aK ?_ ?_<;>intro _<;>try exact aE)|fail
  all_goals exact bw
 have e1:zO O A k w n0=if oz O A w n0≠0 then oz O A w n0 else if 4000<k.length+(dk (rk O w (bT O A w n0))).length then 8 else 0:=if_neg c1
 by_cases c2:oz O A w n0≠0
 ·rw [e1,if_pos c2,if_neg c2,if_neg c2,if_neg c2,if_neg c2,if_neg c2];generalize fA A w=x at *;generalize kA O A w n0 1001=T at *;generalize Ek O A w n0 1001=B at *;generalize oz O A w n0=e at *;refine bQ func5 ntmps5 fun v0=>?_;repeat' first|refine H6 @gZ ?_|refine aG ?_|refine aF (hF) ?_|refine aF (hB) ?_|(refine aK ?_ ?_<;>intro _<;>try exact aE)|fail
  all_goals exact bw
 have c2:=Classical.not_not.1 c2;rw [if_neg (not_not_intro c2)] at e1;obtain⟨g1,g2,g3,g4⟩:=mI c2;have Oi:=B9 (O:=O) (A:=A) (w:=w) (room:=n0);have YJ:=IE (O:=O) (A:=A) (w:=w) (room:=n0);have IL:=En (w:=w) c2 hA;have hB6:=(iN IL.1).len;have Oj:=cI (Ca (w:=w) ae g2);have eP:=xo O (bA O A w n0) (by have:=(iQ g1).len;omega) IL.2.len;have Ta:O.filter (kp (bA O A w n0))=KQ O (bA O A w n0):=List.filter_congr fun d _=>MC (iN IL.1) d;rw [Ta] at eP;have QX:∀ j,0<=fa O ((bT O A w n0).take j)/\fa O ((bT O A w n0).take j)<=1000000*((bT O A w n0).take j).length:=fun j=>jW g1 _ fun x hx=>Oi x (aii hx);rw [e1];unfold bT bA at *;have oA:(kA O A w n0 1001).take (kA O A w n0 1001).length=kA O A w n0 1001:=ah7;have Zt:∀ j x,(kA O A w n0 1001)[j]?=some x->k++dk (rk O w ((kA O A w n0 1001).take (j+1)))=k++dk (rk O w ((kA O A w n0 1001).take j))++lF (gz (fq O x) w):=fun j x hx=>by rw [nO O w _ hx,dB,oK,ahX]
 have IM:∀ j,(dk (rk O w ((kA O A w n0 1001).take j))).length<=(dk (rk O w (kA O A w n0 1001))).length:=fun j=>by rw [<- nP];exact xj _ _
 generalize kA O A w n0 1001=T at *;generalize Ek O A w n0 1001=B at *;rw [c2] at hB;generalize KQ O B=C at *;refine bQ func5 ntmps5 fun v0=>?_;repeat' first|(refine J.aN 2 rfl rfl su rfl ?_)|(refine J.aN 3 rfl rfl ca rfl ?_)|(refine J.aN 9 rfl rfl dr rfl ?_)|refine uc @jX ?_|refine H6 @gZ ?_|refine aG ?_|refine aF (hF) ?_|refine aF (hB) ?_|(refine aK ?_ ?_<;>intro _<;>try exact aE)|fail
 all_goals try exact aE
 refine CW.loop (fun j:Nat=>[(2,.av (.pt false (js A O k n).cells)),(3,.av (.pt false (iE 3 n0 w dl).cells)),(4,.av (.pt true [.nil,.nil,.str [],.int 0])),(5,.av (.pt true [.int 0,.int 0])),(8,.av (.pt true (js B O (k++dk (rk O w (T.take j))) n).cells)),(10,.av (.pt true [.int T.length,.int (fa O (T.take j))])),(91,.av (.sl false 1 ((T).map .int))),(92,.av (.int (T.length))),(93,.av (.int (j)))]) (fun j=>j<=T.length/\(k++dk (rk O w (T.take j))).length<=4000) (fun j=>T.length-j) (0) ?_ (by(repeat' (first|exact ky|refine And.intro ?_ ?_|(simp only [List.take_zero,rk,List.map_nil,dk,ais])))) ?_
 ·exact⟨ahQ _,by simp [rk,dk];omega⟩
 intro j ⟨hj,UT⟩;by_cases aA:j<T.length
 ·have hx:T[j]?=some T[j]:=ahn aA;obtain⟨i,hi,ei⟩:=Oi _ (ahB aA);rw [ei] at hx;have hd:=vh g1 (x:=(i:Int)) ⟨i,hi,rfl⟩;have rN:fq O (i:Int)=O[i]:=by unfold fq;rw [ahN];exact jU hi
  have hrd:=jr hd Oj.2;have hD:=zt (fq O (i:Int)) w hd Oj.2;have hP:=l8 (k++dk (rk O w (T.take j))) (gz (fq O (i:Int)) w) n UT ae;have ha:=Zt _ _ hx;have h2:=zP O T hx;have Zf:=hd.fee;have lC:=QX j;have yF:(T.take j).length<=j:=by rw [ahF];omega
  have Vh:=IM (j+1);have dj:(k++dk (rk O w (T.take (j+1)))).length=k.length+(dk (rk O w (T.take (j+1)))).length:=ahC;have bZ:(k++dk (rk O w (T.take (j+1)))).length=(k++dk (rk O w (T.take j))).length+((gz (fq O (i:Int)) w).length+3):=by rw [ha,ahC,bO]
  have hOi:O[i]?=some O[i]:=ahn hi;unfold kS wR at hP;have h64:¬ 64<(gz (fq O (i:Int)) w).length:=ae;simp only [if_neg h64,<-ha] at hP;rw [rN] at *;unfold fee at h2;generalize O[i]=d at *;generalize gz d w=rc at *;generalize fa O (T.take j)=fs at *;generalize k++dk (rk O w (T.take j))=kj at *;generalize MG:k++dk (rk O w (T.take (j+1)))=kj1 at *;by_cases c4:4000<kj.length+rc.length+3
  ·simp only [if_pos c4] at hP;have c3:4000<k.length+(dk (rk O w T)).length:=ae;rw [if_pos c3,if_neg af,if_neg af,if_neg af,if_neg af,if_neg af];repeat' first|(refine CW.cut (c:=.region 22 _ _) [(91,.av (.sl false 1 ((T).map .int))),(92,.av (.int (T.length))),(93,.av (.int (j))),(12,.av (.int (i))),(3,.av (.pt false (iE 3 n0 w dl).cells)),(10,.av (.pt true [.int T.length,.int fs])),(2,.av (.pt false (js A O k n).cells)),(4,.av (.pt true [.nil,.nil,.str [],.int 0])),(5,.av (.pt true [.int 0,.int 0])),(7,.av (.int 8)),(8,.av (.pt true (js B O kj n).cells))] ?_ ?_)|exact Qv|refine qf 0 17 ?_|(with_reducible refine JA.held ?_)|refine aI 16 0 ?_|refine aI 15 2 ?_|refine aI 14 3 ?_|refine aI 13 4 ?_|refine aI 12 5 ?_|refine aI 11 6 ?_|refine aI 10 7 ?_|refine aI 9 8 ?_|(with_reducible refine JAF.go ?_)|refine qi 8 1 9 ?_ ?_|refine bP 7 9 ?_|refine bP 7 1 ?_|refine bP 6 10 ?_|refine bn 5 11 ?_|refine bn 4 12 ?_|refine bn 3 13 ?_|refine bn 2 14 ?_|refine bP 1 15 ?_|refine bn 0 16 ?_|refine iR ?_|refine uc @jX ?_|refine H6 @gZ ?_|refine aG ?_|refine aF (hD) ?_|refine aF (hP) ?_|(refine aK ?_ ?_<;>intro _<;>try exact aE)|fail
   all_goals exact bw
  ·simp only [if_neg c4] at hP;repeat' first|(refine CW.cut (c:=.region 22 _ _) [(91,.av (.sl false 1 ((T).map .int))),(92,.av (.int (T.length))),(93,.av (.int (j))),(12,.av (.int (i))),(3,.av (.pt false (iE 3 n0 w dl).cells)),(10,.av (.pt true [.int T.length,.int fs])),(2,.av (.pt false (js A O k n).cells)),(4,.av (.pt true [.nil,.nil,.str [],.int 0])),(5,.av (.pt true [.int 0,.int 0])),(7,.av (.int 0)),(8,.av (.pt true (js B O kj1 n).cells))] ?_ ?_)|exact Qv|refine qf 0 17 ?_|(with_reducible refine JA.held ?_)|refine aI 16 0 ?_|refine aI 15 2 ?_|refine aI 14 3 ?_|refine aI 13 4 ?_|refine aI 12 5 ?_|refine aI 11 6 ?_|refine aI 10 7 ?_|refine aI 9 8 ?_|(with_reducible refine JAF.go ?_)|refine qi 8 1 9 ?_ ?_|refine bP 7 9 ?_|refine bP 7 1 ?_|refine bP 6 10 ?_|refine bn 5 11 ?_|refine bn 4 12 ?_|refine bn 3 13 ?_|refine bn 2 14 ?_|refine bP 1 15 ?_|refine bn 0 16 ?_|refine iR ?_|refine uc @jX ?_|refine H6 @gZ ?_|refine aG ?_|refine aF (hD) ?_|refine aF (hP) ?_|(refine aK ?_ ?_<;>intro _<;>try exact aE)|fail
   all_goals try exact aE
   refine⟨j+1,?_,fM,by(repeat' (first|exact ky|refine And.intro ?_ ?_|exact congrArg (fun z=>TV.av (.pt true [.int T.length,.int z])) h2.symm|exact congrArg (fun z=>TV.av (.pt true (js B O z n).cells)) MG.symm))⟩;all_goals first|omega|exact⟨aA,by rw [MG];omega⟩
 ·obtain rfl:j=T.length:=ae;rw [oA] at UT ⊢;rw [ahC] at UT;have c3:¬ 4000<k.length+(dk (rk O w T)).length:=ae;rw [if_neg c3,if_pos rfl,if_pos rfl,if_pos rfl,if_pos rfl,if_pos rfl];generalize k++dk (rk O w T)=kk at *;repeat' first|(refine CW.cut (c:=.region 28 _ _) [(4,.av (.pt true (js B C kk n).cells)),(5,.av (.pt true [.int T.length,.int (fa O T)])),(6,.av (.int 0))] ?_ ?_)|exact Qv|refine qf 0 5 ?_|(with_reducible refine JA.held ?_)|(refine J.aN 132 rfl rfl (bG (g:=bL) (fun _=>rfl)) rfl ?_)|(with_reducible refine JAF.go ?_)|refine qi 4 0 1 ?_ ?_|refine qi 3 1 2 ?_ ?_|refine bP 3 0 ?_|refine bP 2 2 ?_|refine bP 2 1 ?_|refine bP 1 3 ?_|refine bn 0 4 ?_|refine iR ?_|refine uc @jX ?_|refine H6 @gZ ?_|refine aG ?_|refine aF (eP) ?_|(refine aK ?_ ?_<;>intro _<;>try exact aE)|fail
  all_goals exact bw
theorem Vi:FnSpec Sy.P 5 [js A O k n,iE 4 n0 w dl] [js A O k n,iE 4 n0 w dl] (.tup [js A O k k.length,lV 0 0,.int 0]):=by
 refine bQ func5 ntmps5 fun v0=>?_;repeat' first|refine uc @sa ?_|refine uc @w9 ?_|refine aG ?_|fail
 all_goals exact bw
theorem Vj(hO:qH O):FnSpec Sy.P 5 [js A O k n,iE 7 n0 w dl] [js A O k n,iE 7 n0 w dl] (.tup [js A (if xp O w n0=0 then zQ O w n0 else O) k n,lV 0 0,.int (xp O w n0)]):=by
 have hP:=(zR O w n0 hO).le qK;by_cases c:xp O w n0=0
 ·rw [if_pos c];rw [c,MF] at hP;rw [c];generalize zQ O w n0=B at *;refine bQ func5 ntmps5 fun v0=>?_;repeat' first|(refine J.aN 203 rfl rfl (bG (g:=bL) (fun _=>rfl)) rfl ?_)|refine aG ?_|refine aF (hP) ?_|(refine aK ?_ ?_<;>intro _<;>try exact aE)|fail
  all_goals exact bw
 ·rw [if_neg c];generalize Rb (xp O w n0) (zQ O w n0)=B at *;generalize xp O w n0=e at *;refine bQ func5 ntmps5 fun v0=>?_;repeat' first|(refine J.aN 203 rfl rfl (bG (g:=bL) (fun _=>rfl)) rfl ?_)|refine aG ?_|refine aF (hP) ?_|(refine aK ?_ ?_<;>intro _<;>try exact aE)|fail
  all_goals exact bw
theorem Vk(hA:kz A):FnSpec Sy.P 5 [js A O k n,iE 6 n0 w dl] [js A O k n,iE 6 n0 w dl] (.tup [js A O k n,if fA A w<0 then lV 0 0 else lV (A.getD (fA A w).toNat ([],0,0,())).2.1 (A.getD (fA A w).toNat ([],0,0,())).2.2.1,.int (if fA A w<0 then 4 else 0)]):=by
 have hF:=e7 A w hA.len;have hr:=eF A w;by_cases c:fA A w<0
 ·rw [if_pos c,if_pos c];generalize fA A w=x at *;refine bQ func5 ntmps5 fun v0=>?_;repeat' first|refine aG ?_|refine aF (hF) ?_|(refine aK ?_ ?_<;>intro _<;>try exact aE)|fail
  all_goals exact bw
 ·rw [if_neg c,if_neg c];obtain⟨i,hi⟩:∃ i:Nat,fA A w=(i:Int):=⟨(fA A w).toNat,ae⟩;rw [hi] at hF hr ⊢;rw [ahN,ahK,ahn (show i<A.length by omega),ah8];have hg:A[i]?=some A[i]:=ahn ae;generalize A[i]=a at *;refine bQ func5 ntmps5 fun v0=>?_;repeat' first|(refine J.aN 2 rfl rfl su rfl ?_)|(refine J.aN 3 rfl rfl ca rfl ?_)|refine qf 0 17 ?_|(with_reducible refine JA.held ?_)|refine aI 16 0 ?_|refine aI 15 1 ?_|refine aI 14 2 ?_|refine aI 13 3 ?_|refine aI 12 4 ?_|refine aI 11 5 ?_|refine aI 10 6 ?_|refine aI 9 7 ?_|refine aI 8 8 ?_|refine aI 7 9 ?_|refine aI 6 10 ?_|refine aI 5 11 ?_|refine aI 4 12 ?_|(with_reducible refine JAF.go ?_)|refine qi 3 13 14 ?_ ?_|refine bP 2 14 ?_|refine bP 2 13 ?_|refine bP 1 15 ?_|refine bn 0 16 ?_|refine iR ?_|refine uc @jX ?_|refine aG ?_|refine aF (hF) ?_|(refine aK ?_ ?_<;>intro _<;>try exact aE)|fail
  all_goals exact bw
theorem Ol(R:List Rc)(hk:k.length<=4000)(hn:0<=n/\n<=k.length)(hR:wU k n n0=0->(∀ r∈R,r.ok)/\zh k n n0=dk (R.map Rc.str)/\R.length<=4000/\(dk (R.map Rc.str)).length<=4000):
  FnSpec Sy.P 5 [js A O k n,iE 5 n0 w dl] [js A O k n,iE 5 n0 w dl] (.tup [if wU k n n0=0 then js (FY R) [] (zh k n n0) (Ea k n n0) else js A O k n,lV 0 0,.int (wU k n n0)]):=by
 have hC:=wV k n n0 hk hn;by_cases c:wU k n n0=0
 ·obtain⟨h1,h2,h3,h4⟩:=hR c;rw [if_pos c];rw [c] at hC ⊢;have hS:=pH _ (zh k n n0) (ahr _) (by rw [h2];omega);rw [h2,DX (xm h1),<-h2] at hS;have hT:=F5 R h1 h3;generalize zh k n n0=k' at *;generalize Ea k n n0=n' at *;generalize FY R=B at *;generalize R.map Rc.str=rs at *;refine bQ func5 ntmps5 fun v0=>?_;repeat' first|(refine J.aN 165 rfl rfl (bG (g:=bz) (fun _=>rfl)) rfl ?_)|refine uc @sa ?_|refine uc @w9 ?_|((with_reducible apply J.fJ);rfl;((with_reducible apply Eb (z':=.sl false 6 []))<;>(first|rfl|exact .nil)))|refine H6 @gZ ?_|refine aG ?_|refine aF (hC) ?_|refine aF (hS) ?_|refine aF (hT) ?_|(refine aK ?_ ?_<;>intro _<;>try exact aE)|fail
  all_goals exact bw
 ·rw [if_neg c];generalize zh k n n0=k' at *;generalize Ea k n n0=n' at *;generalize wU k n n0=e at *;refine bQ func5 ntmps5 fun v0=>?_;repeat' first|refine uc @sa ?_|refine uc @w9 ?_|refine H6 @gZ ?_|refine aG ?_|refine aF (hC) ?_|(refine aK ?_ ?_<;>intro _<;>try exact aE)|fail
  all_goals exact bw
theorem Vl(kd:Int)(hd:kd<1∨7<kd):FnSpec Sy.P 5 [js A O k n,iE kd n0 w dl] [js A O k n,iE kd n0 w dl] (.tup [js A O k n,lV 0 0,.int 1]):=by
 refine bQ func5 ntmps5 fun v0=>?_;repeat' first|refine aG ?_|(refine aK ?_ ?_<;>intro _<;>try exact aE)|fail
 all_goals exact bw
end
end Go.Proofs.YtmbbagbhmjaedaaGreatDoor
