/- 'plumelaw.ManyRuns' returns true: the given tied card ManyRunsCardSaid. No condition. -/
import Derived.Test.YtmbbagbhmjaedaaGreatDoorCards
import Derived.Test.YtmbbagbhmjaedaaGreatDoorTie
import Derived.Test.YtmbbagbhmjaedaaGreatDoorCej
import Derived.Lay
set_option linter.all false
namespace Go.Proofs.YtmbbagbhmjaedaaGreatDoor
open Go FM CO Go.Conc Go.ChangeShapes Go.WideShapes Go.ChangeAt Go.RowKit Go.Proofs.Tryz
theorem own:ownKnob Tryz.prog.godebug=none:=ah
theorem laidOut:laidOutB Tryz.prog=true:=ah
theorem ya{H:Type}{enc:TypeId×Value->H}{a:Assume}{C:Checked}{os:Os}{f:FuncId}{fn:Func}{s:ChangeSpec}{conds:List PathCond}{apart fresh handsOn again:Bool}{X:World->Prop}
  (hX:∀ (w w':World),w.heap=w'.heap->X w->X w')
  (own:ownKnob C.prog.godebug=none) (started:os.Started) (CM:C.prog.funcs[f]?=some fn)
  (witness:∃ (w:World) (tape:Tape) (i:Input),w.os=os/\(w.forCall tape i).Shaped C.prog/\i.vars=[]/\Input.okWide C.prog (w.forCall tape i) .any w.heap.size f i /\
   ((s.pre enc C.prog fn conds apart (w.forCall tape i).memory i.args/\X (w.forCall tape i).memory)/\sizedMet enc C.prog fn (OpenSpec.ofChange s) apart (w.forCall tape i).memory i.args)/\a.holds C.prog (lone (Frame.enter C.prog f i.args .normal) [] (w.forCall tape i)))
  (runs:∀ (W:World) (base:Nat) (args:Array Value) (ds gs:List (DataW H)) (before:List MemPlace),
   (∀ (j:Nat) t v,fn.params[j]?=some t->args[j]?=some v->Value.okWide C.prog W .any base t v) ->
   DataW.Whole enc C.prog fn.params.toList s.vars apart W args.toList ds gs before ->
   (DataW.weightsEach C.prog (fn.params.toList++s.plain.varTypes C.prog) (ds++gs)).all (·<=reachBytes)=true->X W->W.ShapedOpen C.prog ->
   ∃ M last o w' t',runNT C.prog (M+1) (solo (Go.Conc.G (Frame.enter C.prog f args .normal) []) W) #[]=(.ended o w',t')/\runN C.prog M (solo (Go.Conc.G (Frame.enter C.prog f args .normal) []) W)=.next last /\
    step C.prog last=.ended o w'/\Go.Conc.Good C.prog (fun v W'=>s.post enc C.prog fn apart fresh handsOn again W args v W') last o w' t') :
  ReturnsInLeavingWide a C os f .any (fun w args=>(s.pre enc C.prog fn conds apart w args/\X w)/\sizedMet enc C.prog fn (OpenSpec.ofChange s) apart w args) (s.post enc C.prog fn apart fresh handsOn again):=by
 refine returnsInLeavingWide_of_good own started witness ?_;intro w tape i _ kx _ hok b7 _;obtain⟨_,_,_,Kd,aa5,_,_,_,_,kR⟩:=hok;have e:Kd=fn:=ah6 (aa5.symm.trans CM);subst e;obtain⟨⟨⟨ds,gs,before,hw,hc⟩,hx⟩,hz⟩:=b7;have qU:=DataW.Whole.of_heap (w':=w.forCall tape i) (by rfl) hw;obtain⟨M,last,o,w',t',h1,h2,h3,h4⟩:=runs (w.forCall tape i) w.heap.size i.args ds gs before kR qU (hz.weights hw) (hX _ _ (by rfl) hx) kx;exact⟨M,last,o,w',t',h1,h2,h3,Go.Conc.Good.mono h4 fun v hp=>ChangeSpec.post_blind hp⟩
theorem tied_goes(Lk:Looks){p:Pinned}{s:OpenSpec}{c:OpenClaim}(kinds:List LaidKind)(KG:Bool)(SF:Bool×String)(lk:Bool)
  (hc:c.holds p s) (hw:c.wfByText s=true) (aa6:c.laidByTextAt Lk p kinds KG)
  (cH:c.start=.entering) (Uz:c.noBlocks=false/\c.again=false) (hm:p.checked.prog.mainIs=some (SF.1,SF.2.toList)) (hn:(!SF.1&&SF.2.isEmpty&&!lk)=false)
  (hl:∀ f fn,p.checked.prog.funcNamed c.func=some f->p.checked.prog.funcs[f]?=some fn->lk=p.checked.prog.looks []/\∀ (j:Nat) t,fn.params[j]?=some t->p.checked.prog.wantsStandIn t=false)
  (hg:true=c.goesBy p.checked.prog) :
  Claim7.holds p (.plain s) { stood:={ row:=c,standIns:=[],harness:=SF,looks:=lk },kinds:=[],alts:=[],goes:=true,laidByText:=true,laidKinds:=kinds,laidTests:=KG,laidLooks:=Lk }:=by
 have h6:∀ r:OpenClaim,Claim7.isSixth { stood:={ row:=r,standIns:=[],harness:=SF,looks:=lk },kinds:=[] }=false:=fun r=>by simpa [Claim7.isSixth] using hn
 exact⟨Claim7.tied_new_at Lk kinds KG (Claim7.new_of_sixth hc SF lk cH Uz hm (h6 c) hl) hw,(fun D hD=>by cases hD),aa6,(fun h=>by cases h),hg⟩
theorem aa7{l:List De}(h:Dm Tryz.prog (.sl (.pr .int (.pr .int (.pr .str (.pr (.pr .str (.pr .str (.pr .int (.pr .int (.pr .int (.pr .int .un)))))) .un))))) 27 l):l.length<=4000000000000:=by
 have:=(h 39 underlying27).1;have e2:Tryz.prog.bytesOf 39=96:=ah;rw [e2] at this;have e:reachBytes=140737488351232:=af;omega
theorem WM{l:List (List De)}(h:Dm Tryz.prog (.sl (.sl (.pr .int (.pr .int (.pr .str (.pr (.pr .str (.pr .str (.pr .int (.pr .int (.pr .int (.pr .int .un)))))) .un)))))) 22 l):l.length*48<=281474976710656/\∀ r∈l,r.length<=4000000000000:=by
 have h1:=h 27 underlying22;refine⟨?_,fun r hr=>aa7 (h1.2 r hr)⟩;have:=h1.1;have e2:Tryz.prog.bytesOf 27=24:=ah;rw [e2] at this;have e:reachBytes=140737488351232:=af;omega
set_option maxRecDepth 100000 in
theorem lifted(os:Os)(started:os.Started)(H:Type)(enc:TypeId×Value->H):
  ReturnsInLeavingWide {} Tryz.checked os 3 .any (fun w args=>(Rows.manyRunsSpec.pre enc Tryz.prog Tryz.f3 [] false w args/\laidMetH Tryz.prog Rows.manyRunsRow.laid w)/\sizedMet enc Tryz.prog Tryz.f3 (OpenSpec.ofChange Rows.manyRunsSpec) false w args) (Rows.manyRunsSpec.post enc Tryz.prog Tryz.f3 false true false false):=by
 refine ya (C:=Tryz.checked) (X:=fun w=>laidMetH Tryz.prog Rows.manyRunsRow.laid w) (fun _ _ hh h=>h.of_heap hh) own started func3
  (ChangeSpec.witness_shaped (enc:=enc) (C:=Tryz.checked) (os:=os) (X:=fun w _=>laidMetH Tryz.prog Rows.manyRunsRow.laid w) false (World.laidAll Tryz.prog os Rows.manyRunsRow.laid) #[.int .i64 0,.slice none 0 0] 8 (World.laidAll_os _ _ _)
   (World.shaped_of_ZipB ah ah) ah ah ah
   (by rw [MakeChecks.laidMetH_plain _ _ _ ah];exact laidMet_laidAll _ ah ah)) ?_
 intro W base args ds gs before kR hW bc Pd yb;have Au:=hW;obtain⟨p,q,hA,hV,rfl,wB,gP⟩:=hW;obtain⟨rfl,rfl⟩:=trodVars_none hV;have tP:DataW.TrodAll enc Tryz.prog W 0 (fun _=>true) true [3,22] args.toList ds p:=by rw [params3] at hA;exact hA
 have aa8:(DataW.weightsEach Tryz.prog [3,22] ds).all (·<=reachBytes)=true:=by rw [params3] at bc;rw [ais] at bc;exact bc
 have WN:∀ (j:Nat) t v,([3,22]:List TypeId)[j]?=some t->args[j]?=some v->Value.okWide Tryz.prog W .any base t v:=fun j t v hj hv=>kR j t v (by rw [params3];simpa using hj) hv;have hX:NB Tryz.prog [.int,.sl (.sl (.pr .int (.pr .int (.pr .str (.pr (.pr .str (.pr .str (.pr .int (.pr .int (.pr .int (.pr .int .un)))))) .un)))))] [3,22]:=⟨underlying3,ah,of_decide_eq_true ah,⟨_,underlying22,ah,af,⟨_,underlying27,ah,af,⟨_,underlying39,ah,⟨rfl,ah,underlying3,⟨rfl,ah,underlying3,⟨rfl,ah,underlying9,⟨rfl,ah,⟨_,underlying37,ah,⟨rfl,ah,underlying9,⟨rfl,ah,underlying9,⟨rfl,ah,underlying3,⟨rfl,ah,underlying3,⟨rfl,ah,underlying3,⟨rfl,ah,underlying3,rfl⟩⟩⟩⟩⟩⟩⟩,rfl⟩⟩⟩⟩⟩⟩⟩,ah,of_decide_eq_true ah,trivial⟩;obtain⟨z,g,lz,hlen,hr⟩:=vR (L:=fun _=>.sh) (fun _=>rfl) _ _ args.toList ds p hX (fun j t v hj hv=>WN j t v hj (by simpa using hv)) tP;have hL:=lz fun n hn=>by simpa using ahM.1 aa8 n hn
 obtain⟨v0,vs0,d0,iZ,p0,q0,yy,rfl,rfl,h0,r0⟩:=trodAll_cons tP;obtain⟨v1,vs1,d1,ds1,p1,q1,rfl,rfl,rfl,h1,r1⟩:=trodAll_cons r0;obtain⟨rfl,rfl,rfl⟩:=trodAll_nil r1;obtain rfl:args=#[v0,v1]:=by cases args;simp_all
 have e0:v0=.int .i64 z.1:=by
  have:=hr 0 (.int z.1) v0 rfl rfl;cases this;rfl
 subst e0;have bE:Rep (fun _=>.sh) W none (la z.2.1) v1:=hr 1 (la z.2.1) v1 rfl rfl;have bZ:=WM hL.2.1;have q8:=NC yb Pd ah ah ah ah;have TO:=WJ yb Pd ah ah ah;obtain⟨arg,h0⟩:=G7 yb q8.1 TO bE bZ.1;obtain⟨R,hR⟩:=Ri;obtain⟨M,last,o,w',t',e1,e2,e3,e4⟩:=Kz hR (fun l hl hd=>NG R hR l hl hd) h0 rfl ae (fun l hl=>⟨bZ.2 l hl,fun d hd=>⟨((g.2.1.2 l hl).2 d hd).2.2.1,((g.2.1.2 l hl).2 d hd).2.2.2.1.1,((g.2.1.2 l hl).2 d hd).2.2.2.1.2.1⟩⟩) z.1;refine⟨M,last,o,w',t',e1,e2,e3,Go.Conc.Good.mono e4 fun v ⟨hv,hb,AP⟩=>?_⟩;subst hv;have RN:=E6 yb;have aa9:W.heap.size<=w'.heap.size:=by
  have hx:=hb (W.heap.size-1) ae;rw [ahO (show W.heap.size-1<W.heap.size by omega)] at hx;have:=bW hx;omega
 have bel:Below W.heap.size W { w' with tape:=W.tape }:=⟨AP.os,rfl,AP.output,aa9,hb⟩;have iY:∀ may,W.keptBut w' may:=fun may=>by
  have h:=bel.frame may;unfold World.keptBut at h ⊢;exact h
 have hk:=vS (P:=Tryz.prog) laidOut bel _ _ _ _ _ hX tP;have vY:=DataW.TrodAll.of_heap (w':=w') (by rfl) hk;exact⟨_,_,_,[],_,[],Au,trodAll_mk1 (shut_bool underlying4 _),vY,rfl,iY _,fun h=>by cases h⟩
theorem rowHolds:Rows.manyRunsRow.holds Tryz.pinned (OpenSpec.ofChange Rows.manyRunsSpec) :=
 OpenClaim.holds_of_wide_leaving 3 Tryz.f3 rfl rfl rfl rfl rfl rfl rfl ⟨rfl,rfl,rfl,rfl,rfl⟩ rfl rfl rfl rfl rfl ah func3 ah
  (of_decide_eq_true ah) (by unfold Func.isWrapper;first|(rw [if_pos (by decide +kernel)];kernel_rfl)|(rw [if_neg (by decide +kernel)];exact⟨rfl,rfl⟩))
  (fun os started H enc _=>lifted os started H enc)
theorem proved:Rows.ManyRunsCardSaid :=
 tied_goes .later Rows.manyRunsCard.laidKinds true Rows.manyRunsCard.stood.harness Rows.manyRunsCard.stood.looks rowHolds ah manyRuns_row_tie rfl ⟨rfl,rfl⟩ ah rfl
  (fun f fn hf CM=>by
   obtain rfl:f=3:=ah6 ((show Tryz.prog.funcNamed "feathermark/plumelaw.ManyRuns" = some 3 by kernel_rfl).symm.trans hf) |>.symm
   obtain rfl:fn=Tryz.f3:=(ah6 (func3.symm.trans CM)).symm
   exact⟨ah,fun j t ht=>by
    rw [params3] at ht
    have hm:t∈([3,22]:List TypeId):=by simpa using aih ht
    have cZ:(([3,22]:List TypeId).all fun u=>!Tryz.prog.wantsStandIn u)=true:=ah
    exact(show Tryz.prog.wantsStandIn t=false by simpa using ahM.1 cZ t hm)⟩)
  ah
#print axioms proved
end Go.Proofs.YtmbbagbhmjaedaaGreatDoor
