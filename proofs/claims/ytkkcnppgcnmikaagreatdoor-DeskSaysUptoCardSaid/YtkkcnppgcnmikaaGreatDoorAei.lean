/- The reference's answer of a line: Xn5. -/
import Derived.Test.YtkkcnppgcnmikaaGreatDoorAeg
import Derived.Test.YtkkcnppgcnmikaaGreatDoorAdc
namespace Go.Proofs.YtkkcnppgcnmikaaGreatDoor
open Go FM Go.Proofs
set_option maxRecDepth 10000
set_option maxHeartbeats 6400000
set_option linter.all false
section
variable (A:List Ac) (O:List Dl) (k:Str) (n:Int) (A':List Ac) (O':List Dl) (k':Str) (n':Int)
theorem ao_sync(line:Str)(hl:line.length≤5000)  (w:Str)  (hw:Xf.wg [] line=w::[])(hK:kdF w=4)(hb:([]:List Str).all nuB=true)(t m:Int)(hG:FnSpec Sy.P 8 [hsR A O k n,dxA 4 0 [] dl0] [hsR A O k n,dxA 4 0 [] dl0] (.tup [hsR A' O' k' n',tdA t m,.int 0])):FnSpec Sy.P 53 [hsR A O k n,.str line] [hsR A O k n,.str line] (.tup [hsR A' O' k' n',.str [111,107]]):=by
 have hW:=ffn_spec line hl
 rw [hw] at hW
 have hwc:(w::[]).length=1:=rfl
 have hwl:(w::[]).length≤10010:=by omega
 have hN:nmF 4=0:=by decide
 have hL:lnF 4=0:=by decide
 have hM:min 0 ((((w::[]).length:Nat):Int)-1)=0:=by simp only [List.length_cons,List.length_nil];omega
 have hD:=digits_ok [] hb (by simp)
 simp only [List.map_cons,List.map_nil] at hD
 have hR:=refusal_spec 12 (by decide)
 refine enT Tryz.func53 Tryz.ntmps53 fun v0=>?_
 repeat' first|(refine J.freezeO 6 rfl rfl (sh_map (g:=AV.str) (fun _=>rfl)) rfl ?_)|refine w9x ?_|refine w9p (hW) ?_|fail
 repeat' first|(refine CW.cut (c:=.region 4 _ _) [(2,.av (.pt true (hsR A O k n).cells)),(4,.av (.pt true [.nil,.nil,.str [],.int 0])),(6,.av (swS (w::[]))),(7,.av (.int (4)))] ?_ ?_)|exact w9g|(refine CW.cut (c:=.region 5 _ _) [(2,.av (.pt true (hsR A O k n).cells)),(4,.av (.pt true [.nil,.nil,.str [],.int 0])),(6,.av (swS (w::[]))),(7,.av (.int (4))),(8,.av (.int (0)))] ?_ ?_)|exact w9g|((with_reducible apply J.step);rfl;((with_reducible apply(rC hK))<;>rfl))|refine w9E @rA ?_|refine w9E @rB ?_|refine w9x ?_|fail
 all_goals repeat' first|exact w9g|((with_reducible apply J.step);rfl;((with_reducible apply(rF hN))<;>rfl))|((with_reducible apply J.step);rfl;((with_reducible apply(s_minE (hc:=hM)))<;>rfl))|refine w9E @rD ?_|refine w9E @rE ?_|refine w9x ?_|fail
 all_goals repeat' first|(refine CW.cut (c:=.region 14 _ _) [(2,.av (.pt true (hsR A O k n).cells)),(4,.av (.pt true [.nil,.nil,.str [],.int 0])),(6,.av (swS (w::[]))),(7,.av (.int (4))),(8,.av (.int (0))),(9,.av (.sl true 1 [])),(72,.av (.bool false))] ?_ ?_)|exact w9g|refine w9x ?_|refine w9p (hD) ?_|refine w9p (hR) ?_|fail
 all_goals repeat' first|exact w9g|((with_reducible apply J.step);rfl;((with_reducible apply(rF hL))<;>rfl))|refine w9E @rD ?_|refine w9E @rE ?_|refine w9x ?_|fail
 all_goals repeat' first|((with_reducible apply J.step);rfl;((with_reducible apply s_bldG)<;>(first|rfl|(solve|(repeat' (first|exact FillG.nil|(with_unfolding_all apply FillG.part rfl rfl rfl rfl rfl rfl rfl)))))))|refine w9x ?_|refine w9p (hR) ?_|refine w9p (hG) ?_|fail
 all_goals exact w9e
theorem ao_sync_e(line:Str)(hl:line.length≤5000)  (w:Str)  (hw:Xf.wg [] line=w::[])(hK:kdF w=4)(hb:([]:List Str).all nuB=true)(t m e:Int)(he:0<e∧e≤100)(hG:FnSpec Sy.P 8 [hsR A O k n,dxA 4 0 [] dl0] [hsR A O k n,dxA 4 0 [] dl0] (.tup [hsR A' O' k' n',tdA t m,.int e])):FnSpec Sy.P 53 [hsR A O k n,.str line] [hsR A O k n,.str line] (.tup [hsR A' O' k' n',.str (rfS e)]):=by
 have hW:=ffn_spec line hl
 rw [hw] at hW
 have hwc:(w::[]).length=1:=rfl
 have hwl:(w::[]).length≤10010:=by omega
 have hN:nmF 4=0:=by decide
 have hL:lnF 4=0:=by decide
 have hM:min 0 ((((w::[]).length:Nat):Int)-1)=0:=by simp only [List.length_cons,List.length_nil];omega
 have hD:=digits_ok [] hb (by simp)
 simp only [List.map_cons,List.map_nil] at hD
 have hR:=refusal_spec e (by omega)
 refine enT Tryz.func53 Tryz.ntmps53 fun v0=>?_
 repeat' first|(refine J.freezeO 6 rfl rfl (sh_map (g:=AV.str) (fun _=>rfl)) rfl ?_)|refine w9x ?_|refine w9p (hW) ?_|(refine w9c ?_ ?_<;>intro _<;>try exact w9o)|fail
 repeat' first|(refine CW.cut (c:=.region 4 _ _) [(2,.av (.pt true (hsR A O k n).cells)),(4,.av (.pt true [.nil,.nil,.str [],.int 0])),(6,.av (swS (w::[]))),(7,.av (.int (4)))] ?_ ?_)|exact w9g|(refine CW.cut (c:=.region 5 _ _) [(2,.av (.pt true (hsR A O k n).cells)),(4,.av (.pt true [.nil,.nil,.str [],.int 0])),(6,.av (swS (w::[]))),(7,.av (.int (4))),(8,.av (.int (0)))] ?_ ?_)|exact w9g|((with_reducible apply J.step);rfl;((with_reducible apply(rC hK))<;>rfl))|refine w9E @rA ?_|refine w9E @rB ?_|refine w9x ?_|(refine w9c ?_ ?_<;>intro _<;>try exact w9o)|fail
 all_goals repeat' first|exact w9g|((with_reducible apply J.step);rfl;((with_reducible apply(rF hN))<;>rfl))|((with_reducible apply J.step);rfl;((with_reducible apply(s_minE (hc:=hM)))<;>rfl))|refine w9E @rD ?_|refine w9E @rE ?_|refine w9x ?_|(refine w9c ?_ ?_<;>intro _<;>try exact w9o)|fail
 all_goals repeat' first|(refine CW.cut (c:=.region 14 _ _) [(2,.av (.pt true (hsR A O k n).cells)),(4,.av (.pt true [.nil,.nil,.str [],.int 0])),(6,.av (swS (w::[]))),(7,.av (.int (4))),(8,.av (.int (0))),(9,.av (.sl true 1 [])),(72,.av (.bool false))] ?_ ?_)|exact w9g|refine w9x ?_|refine w9p (hD) ?_|refine w9p (hR) ?_|(refine w9c ?_ ?_<;>intro _<;>try exact w9o)|fail
 all_goals repeat' first|exact w9g|((with_reducible apply J.step);rfl;((with_reducible apply(rF hL))<;>rfl))|refine w9E @rD ?_|refine w9E @rE ?_|refine w9x ?_|(refine w9c ?_ ?_<;>intro _<;>try exact w9o)|fail
 all_goals repeat' first|((with_reducible refine w9i ?_);first|refine w9Jt 4 1 ?_|refine w9J2 3 0 2 ?_ ?_|refine w9J1 2 0 ?_|refine w9J1 2 2 ?_|refine w9J1 1 3 ?_|refine w9Jt 0 4 ?_|refine w9J0 ?_)|refine w9U 0 5 ?_|((with_reducible apply J.step);rfl;((with_reducible apply s_bldG)<;>(first|rfl|(solve|(repeat' (first|exact FillG.nil|(with_unfolding_all apply FillG.part rfl rfl rfl rfl rfl rfl rfl)))))))|refine w9x ?_|refine w9p (hR) ?_|refine w9p (hG) ?_|(refine w9c ?_ ?_<;>intro _<;>try exact w9o)|fail
 all_goals exact w9e
theorem ao_crash(line:Str)(hl:line.length≤5000)  (w:Str)(u:Str)(hw:Xf.wg [] line=w::[u])(hK:kdF w=5)(hb:([u]:List Str).all nuB=true)(t m:Int)(hG:FnSpec Sy.P 8 [hsR A O k n,dxA 5 (nuV u) [] dl0] [hsR A O k n,dxA 5 (nuV u) [] dl0] (.tup [hsR A' O' k' n',tdA t m,.int 0])):FnSpec Sy.P 53 [hsR A O k n,.str line] [hsR A O k n,.str line] (.tup [hsR A' O' k' n',.str [111,107]]):=by
 have hW:=ffn_spec line hl
 rw [hw] at hW
 have hwc:(w::[u]).length=2:=rfl
 have hwl:(w::[u]).length≤10010:=by omega
 have hN:nmF 5=0:=by decide
 have hL:lnF 5=1:=by decide
 have hM:min 0 ((((w::[u]).length:Nat):Int)-1)=0:=by simp only [List.length_cons,List.length_nil];omega
 have hD:=digits_ok [u] hb (by simp)
 simp only [List.map_cons,List.map_nil] at hD
 have hR:=refusal_spec 12 (by decide)
 generalize nuV u=z0 at *
 refine enT Tryz.func53 Tryz.ntmps53 fun v0=>?_
 repeat' first|(refine J.freezeO 6 rfl rfl (sh_map (g:=AV.str) (fun _=>rfl)) rfl ?_)|refine w9x ?_|refine w9p (hW) ?_|fail
 repeat' first|(refine CW.cut (c:=.region 4 _ _) [(2,.av (.pt true (hsR A O k n).cells)),(4,.av (.pt true [.nil,.nil,.str [],.int 0])),(6,.av (swS (w::[u]))),(7,.av (.int (5)))] ?_ ?_)|exact w9g|(refine CW.cut (c:=.region 5 _ _) [(2,.av (.pt true (hsR A O k n).cells)),(4,.av (.pt true [.nil,.nil,.str [],.int 0])),(6,.av (swS (w::[u]))),(7,.av (.int (5))),(8,.av (.int (0)))] ?_ ?_)|exact w9g|((with_reducible apply J.step);rfl;((with_reducible apply(rC hK))<;>rfl))|refine w9E @rA ?_|refine w9E @rB ?_|refine w9x ?_|fail
 all_goals repeat' first|exact w9g|((with_reducible apply J.step);rfl;((with_reducible apply(rF hN))<;>rfl))|((with_reducible apply J.step);rfl;((with_reducible apply(s_minE (hc:=hM)))<;>rfl))|refine w9E @rD ?_|refine w9E @rE ?_|refine w9x ?_|fail
 all_goals repeat' first|(refine CW.cut (c:=.region 14 _ _) [(2,.av (.pt true (hsR A O k n).cells)),(4,.av (.pt true [.nil,.nil,.str [],.int 0])),(6,.av (swS (w::[u]))),(7,.av (.int (5))),(8,.av (.int (0))),(9,.av (.sl true 1 [.int z0])),(72,.av (.bool false))] ?_ ?_)|exact w9g|refine w9x ?_|refine w9p (hD) ?_|refine w9p (hR) ?_|fail
 all_goals repeat' first|exact w9g|((with_reducible apply J.step);rfl;((with_reducible apply(rF hL))<;>rfl))|refine w9E @rD ?_|refine w9E @rE ?_|refine w9x ?_|fail
 all_goals repeat' first|((with_reducible apply J.step);rfl;((with_reducible apply s_bldG)<;>(first|rfl|(solve|(repeat' (first|exact FillG.nil|(with_unfolding_all apply FillG.part rfl rfl rfl rfl rfl rfl rfl)))))))|refine w9x ?_|refine w9p (hR) ?_|refine w9p (hG) ?_|fail
 all_goals exact w9e
theorem ao_crash_e(line:Str)(hl:line.length≤5000)  (w:Str)(u:Str)(hw:Xf.wg [] line=w::[u])(hK:kdF w=5)(hb:([u]:List Str).all nuB=true)(t m e:Int)(he:0<e∧e≤100)(hG:FnSpec Sy.P 8 [hsR A O k n,dxA 5 (nuV u) [] dl0] [hsR A O k n,dxA 5 (nuV u) [] dl0] (.tup [hsR A' O' k' n',tdA t m,.int e])):FnSpec Sy.P 53 [hsR A O k n,.str line] [hsR A O k n,.str line] (.tup [hsR A' O' k' n',.str (rfS e)]):=by
 have hW:=ffn_spec line hl
 rw [hw] at hW
 have hwc:(w::[u]).length=2:=rfl
 have hwl:(w::[u]).length≤10010:=by omega
 have hN:nmF 5=0:=by decide
 have hL:lnF 5=1:=by decide
 have hM:min 0 ((((w::[u]).length:Nat):Int)-1)=0:=by simp only [List.length_cons,List.length_nil];omega
 have hD:=digits_ok [u] hb (by simp)
 simp only [List.map_cons,List.map_nil] at hD
 have hR:=refusal_spec e (by omega)
 generalize nuV u=z0 at *
 refine enT Tryz.func53 Tryz.ntmps53 fun v0=>?_
 repeat' first|(refine J.freezeO 6 rfl rfl (sh_map (g:=AV.str) (fun _=>rfl)) rfl ?_)|refine w9x ?_|refine w9p (hW) ?_|(refine w9c ?_ ?_<;>intro _<;>try exact w9o)|fail
 repeat' first|(refine CW.cut (c:=.region 4 _ _) [(2,.av (.pt true (hsR A O k n).cells)),(4,.av (.pt true [.nil,.nil,.str [],.int 0])),(6,.av (swS (w::[u]))),(7,.av (.int (5)))] ?_ ?_)|exact w9g|(refine CW.cut (c:=.region 5 _ _) [(2,.av (.pt true (hsR A O k n).cells)),(4,.av (.pt true [.nil,.nil,.str [],.int 0])),(6,.av (swS (w::[u]))),(7,.av (.int (5))),(8,.av (.int (0)))] ?_ ?_)|exact w9g|((with_reducible apply J.step);rfl;((with_reducible apply(rC hK))<;>rfl))|refine w9E @rA ?_|refine w9E @rB ?_|refine w9x ?_|(refine w9c ?_ ?_<;>intro _<;>try exact w9o)|fail
 all_goals repeat' first|exact w9g|((with_reducible apply J.step);rfl;((with_reducible apply(rF hN))<;>rfl))|((with_reducible apply J.step);rfl;((with_reducible apply(s_minE (hc:=hM)))<;>rfl))|refine w9E @rD ?_|refine w9E @rE ?_|refine w9x ?_|(refine w9c ?_ ?_<;>intro _<;>try exact w9o)|fail
 all_goals repeat' first|(refine CW.cut (c:=.region 14 _ _) [(2,.av (.pt true (hsR A O k n).cells)),(4,.av (.pt true [.nil,.nil,.str [],.int 0])),(6,.av (swS (w::[u]))),(7,.av (.int (5))),(8,.av (.int (0))),(9,.av (.sl true 1 [.int z0])),(72,.av (.bool false))] ?_ ?_)|exact w9g|refine w9x ?_|refine w9p (hD) ?_|refine w9p (hR) ?_|(refine w9c ?_ ?_<;>intro _<;>try exact w9o)|fail
 all_goals repeat' first|exact w9g|((with_reducible apply J.step);rfl;((with_reducible apply(rF hL))<;>rfl))|refine w9E @rD ?_|refine w9E @rE ?_|refine w9x ?_|(refine w9c ?_ ?_<;>intro _<;>try exact w9o)|fail
 all_goals repeat' first|((with_reducible refine w9i ?_);first|refine w9Jt 4 1 ?_|refine w9J2 3 0 2 ?_ ?_|refine w9J1 2 0 ?_|refine w9J1 2 2 ?_|refine w9J1 1 3 ?_|refine w9Jt 0 4 ?_|refine w9J0 ?_)|refine w9U 0 5 ?_|((with_reducible apply J.step);rfl;((with_reducible apply s_bldG)<;>(first|rfl|(solve|(repeat' (first|exact FillG.nil|(with_unfolding_all apply FillG.part rfl rfl rfl rfl rfl rfl rfl)))))))|refine w9x ?_|refine w9p (hR) ?_|refine w9p (hG) ?_|(refine w9c ?_ ?_<;>intro _<;>try exact w9o)|fail
 all_goals exact w9e
theorem ao_offer(line:Str)(hl:line.length≤5000)  (w:Str)(s s2 u1 u2 u3 u4:Str)(hw:Xf.wg [] line=w::[s,s2,u1,u2,u3,u4])(hK:kdF w=2)(hb:([u1,u2,u3,u4]:List Str).all nuB=true)(t m:Int)(hG:FnSpec Sy.P 8 [hsR A O k n,dxA 2 0 [] (s,s2,nuV u1,nuV u2,nuV u3,nuV u4,())] [hsR A O k n,dxA 2 0 [] (s,s2,nuV u1,nuV u2,nuV u3,nuV u4,())] (.tup [hsR A' O' k' n',tdA t m,.int 0])):FnSpec Sy.P 53 [hsR A O k n,.str line] [hsR A O k n,.str line] (.tup [hsR A' O' k' n',.str [111,107]]):=by
 have hW:=ffn_spec line hl
 rw [hw] at hW
 have hwc:(w::[s,s2,u1,u2,u3,u4]).length=7:=rfl
 have hwl:(w::[s,s2,u1,u2,u3,u4]).length≤10010:=by omega
 have hN:nmF 2=2:=by decide
 have hL:lnF 2=6:=by decide
 have hM:min 2 ((((w::[s,s2,u1,u2,u3,u4]).length:Nat):Int)-1)=2:=by simp only [List.length_cons,List.length_nil];omega
 have hD:=digits_ok [u1,u2,u3,u4] hb (by simp)
 simp only [List.map_cons,List.map_nil] at hD
 have hR:=refusal_spec 12 (by decide)
 generalize nuV u1=z0 at *
 generalize nuV u2=z1 at *
 generalize nuV u3=z2 at *
 generalize nuV u4=z3 at *
 refine enT Tryz.func53 Tryz.ntmps53 fun v0=>?_
 repeat' first|(refine J.freezeO 6 rfl rfl (sh_map (g:=AV.str) (fun _=>rfl)) rfl ?_)|refine w9x ?_|refine w9p (hW) ?_|fail
 repeat' first|(refine CW.cut (c:=.region 4 _ _) [(2,.av (.pt true (hsR A O k n).cells)),(4,.av (.pt true [.nil,.nil,.str [],.int 0])),(6,.av (swS (w::[s,s2,u1,u2,u3,u4]))),(7,.av (.int (2)))] ?_ ?_)|exact w9g|(refine CW.cut (c:=.region 5 _ _) [(2,.av (.pt true (hsR A O k n).cells)),(4,.av (.pt true [.nil,.nil,.str [],.int 0])),(6,.av (swS (w::[s,s2,u1,u2,u3,u4]))),(7,.av (.int (2))),(8,.av (.int (2)))] ?_ ?_)|exact w9g|((with_reducible apply J.step);rfl;((with_reducible apply(rC hK))<;>rfl))|refine w9E @rA ?_|refine w9E @rB ?_|refine w9x ?_|fail
 all_goals repeat' first|exact w9g|((with_reducible apply J.step);rfl;((with_reducible apply(rF hN))<;>rfl))|((with_reducible apply J.step);rfl;((with_reducible apply(s_minE (hc:=hM)))<;>rfl))|refine w9E @rD ?_|refine w9E @rE ?_|refine w9x ?_|fail
 all_goals repeat' first|(refine CW.cut (c:=.region 14 _ _) [(2,.av (.pt true (hsR A O k n).cells)),(4,.av (.pt true [.nil,.nil,.str [],.int 0])),(6,.av (swS (w::[s,s2,u1,u2,u3,u4]))),(7,.av (.int (2))),(8,.av (.int (2))),(9,.av (.sl true 1 [.int z0,.int z1,.int z2,.int z3])),(72,.av (.bool false))] ?_ ?_)|exact w9g|refine w9x ?_|refine w9p (hD) ?_|refine w9p (hR) ?_|fail
 all_goals repeat' first|exact w9g|((with_reducible apply J.step);rfl;((with_reducible apply(rF hL))<;>rfl))|refine w9E @rD ?_|refine w9E @rE ?_|refine w9x ?_|fail
 all_goals repeat' first|((with_reducible refine w9i ?_);first|refine w9J1 0 20 ?_|refine w9J0 ?_)|refine w9U 20 1 ?_|((with_reducible apply J.step);rfl;((with_reducible apply s_bldG)<;>(first|rfl|(solve|(repeat' (first|exact FillG.nil|(with_unfolding_all apply FillG.part rfl rfl rfl rfl rfl rfl rfl)))))))|refine w9E @e_stTl ?_|refine w9x ?_|refine w9p (hR) ?_|refine w9p (hG) ?_|fail
 all_goals exact w9e
theorem ao_offer_e(line:Str)(hl:line.length≤5000)  (w:Str)(s s2 u1 u2 u3 u4:Str)(hw:Xf.wg [] line=w::[s,s2,u1,u2,u3,u4])(hK:kdF w=2)(hb:([u1,u2,u3,u4]:List Str).all nuB=true)(t m e:Int)(he:0<e∧e≤100)(hG:FnSpec Sy.P 8 [hsR A O k n,dxA 2 0 [] (s,s2,nuV u1,nuV u2,nuV u3,nuV u4,())] [hsR A O k n,dxA 2 0 [] (s,s2,nuV u1,nuV u2,nuV u3,nuV u4,())] (.tup [hsR A' O' k' n',tdA t m,.int e])):FnSpec Sy.P 53 [hsR A O k n,.str line] [hsR A O k n,.str line] (.tup [hsR A' O' k' n',.str (rfS e)]):=by
 have hW:=ffn_spec line hl
 rw [hw] at hW
 have hwc:(w::[s,s2,u1,u2,u3,u4]).length=7:=rfl
 have hwl:(w::[s,s2,u1,u2,u3,u4]).length≤10010:=by omega
 have hN:nmF 2=2:=by decide
 have hL:lnF 2=6:=by decide
 have hM:min 2 ((((w::[s,s2,u1,u2,u3,u4]).length:Nat):Int)-1)=2:=by simp only [List.length_cons,List.length_nil];omega
 have hD:=digits_ok [u1,u2,u3,u4] hb (by simp)
 simp only [List.map_cons,List.map_nil] at hD
 have hR:=refusal_spec e (by omega)
 generalize nuV u1=z0 at *
 generalize nuV u2=z1 at *
 generalize nuV u3=z2 at *
 generalize nuV u4=z3 at *
 refine enT Tryz.func53 Tryz.ntmps53 fun v0=>?_
 repeat' first|(refine J.freezeO 6 rfl rfl (sh_map (g:=AV.str) (fun _=>rfl)) rfl ?_)|refine w9x ?_|refine w9p (hW) ?_|(refine w9c ?_ ?_<;>intro _<;>try exact w9o)|fail
 repeat' first|(refine CW.cut (c:=.region 4 _ _) [(2,.av (.pt true (hsR A O k n).cells)),(4,.av (.pt true [.nil,.nil,.str [],.int 0])),(6,.av (swS (w::[s,s2,u1,u2,u3,u4]))),(7,.av (.int (2)))] ?_ ?_)|exact w9g|(refine CW.cut (c:=.region 5 _ _) [(2,.av (.pt true (hsR A O k n).cells)),(4,.av (.pt true [.nil,.nil,.str [],.int 0])),(6,.av (swS (w::[s,s2,u1,u2,u3,u4]))),(7,.av (.int (2))),(8,.av (.int (2)))] ?_ ?_)|exact w9g|((with_reducible apply J.step);rfl;((with_reducible apply(rC hK))<;>rfl))|refine w9E @rA ?_|refine w9E @rB ?_|refine w9x ?_|(refine w9c ?_ ?_<;>intro _<;>try exact w9o)|fail
 all_goals repeat' first|exact w9g|((with_reducible apply J.step);rfl;((with_reducible apply(rF hN))<;>rfl))|((with_reducible apply J.step);rfl;((with_reducible apply(s_minE (hc:=hM)))<;>rfl))|refine w9E @rD ?_|refine w9E @rE ?_|refine w9x ?_|(refine w9c ?_ ?_<;>intro _<;>try exact w9o)|fail
 all_goals repeat' first|(refine CW.cut (c:=.region 14 _ _) [(2,.av (.pt true (hsR A O k n).cells)),(4,.av (.pt true [.nil,.nil,.str [],.int 0])),(6,.av (swS (w::[s,s2,u1,u2,u3,u4]))),(7,.av (.int (2))),(8,.av (.int (2))),(9,.av (.sl true 1 [.int z0,.int z1,.int z2,.int z3])),(72,.av (.bool false))] ?_ ?_)|exact w9g|refine w9x ?_|refine w9p (hD) ?_|refine w9p (hR) ?_|(refine w9c ?_ ?_<;>intro _<;>try exact w9o)|fail
 all_goals repeat' first|exact w9g|((with_reducible apply J.step);rfl;((with_reducible apply(rF hL))<;>rfl))|refine w9E @rD ?_|refine w9E @rE ?_|refine w9x ?_|(refine w9c ?_ ?_<;>intro _<;>try exact w9o)|fail
 all_goals repeat' first|((with_reducible refine w9i ?_);first|refine w9J1 0 20 ?_|refine w9J0 ?_|refine w9Jt 4 1 ?_|refine w9J2 3 0 2 ?_ ?_|refine w9J1 2 0 ?_|refine w9J1 2 2 ?_|refine w9J1 1 3 ?_|refine w9Jt 0 4 ?_|refine w9J0 ?_)|refine w9U 20 1 ?_|refine w9U 0 5 ?_|((with_reducible apply J.step);rfl;((with_reducible apply s_bldG)<;>(first|rfl|(solve|(repeat' (first|exact FillG.nil|(with_unfolding_all apply FillG.part rfl rfl rfl rfl rfl rfl rfl)))))))|refine w9E @e_stTl ?_|refine w9x ?_|refine w9p (hR) ?_|refine w9p (hG) ?_|(refine w9c ?_ ?_<;>intro _<;>try exact w9o)|fail
 all_goals exact w9e
end
structure Both(s:Hs)(d:De)(s':Hs)(t m e:Int):Prop where
 ok:HsOk s'
 f:FnSpec Sy.P 7 [hsV s.A s.O s.k s.n,deA d] [hsV s'.A s'.O s'.k s'.n,deA d] (.tup [tdA t m,.int e])
 g:FnSpec Sy.P 8 [hsR s.A s.O s.k s.n,deA d] [hsR s.A s.O s.k s.n,deA d] (.tup [hsR s'.A s'.O s'.k s'.n,tdA t m,.int e])
theorem onOk{s:Hs}(h:HsOk s)(n0:Int)(w:Str):∃ s':Hs,HsOk s'∧s'.A=onA s.A s.k w n0∧s'.O=s.O∧s'.k=onD s.A s.k w n0∧s'.n=s.n:=by
 by_cases c:onE s.A s.k w n0=0
 ·have c0:=c
  unfold onE at c0
  by_cases c1:opE s.A w n0=0
  ·rw [if_neg (not_not_intro c1)] at c0
   obtain⟨_,hn,hm,hl⟩:=opE_ok c1
   have hr:(Rc.o w n0).ok:=⟨hn,hm.1,hm.2⟩
   have ek:dk ((s.R++[Rc.o w n0]).map Rc.str)=s.k++frm (recO w n0):=by rw [List.map_append,dk_append];exact congrArg _ (dk_one _)
   have hA:=rcS_L (A:=s.A) (r:=.o w n0) h.a hr
   have hAe:rcS s.A (.o w n0)=opM s.A w n0:=by show ifA (opE s.A w n0) _=_;rw [c1,ifA0]
   rw [hAe] at hA
   have hkl:(s.k++frm (recO w n0)).length≤4000:=by
    unfold appE at c0
    rw [List.length_append,frm_length]
    split at c0
    ·cases c0
    ·split at c0
     ·cases c0
     ·omega
   have hn:=h.n
   refine⟨⟨opM s.A w n0,s.O,s.R++[.o w n0],s.n⟩,⟨hA,by show(opM s.A w n0).length≤6;rw [opM_len];omega,h.o,h.ol,fun x hx=>?_,?_,?_⟩,?_,rfl,?_,rfl⟩
   ·rcases List.mem_append.1 hx with hx|hx
    ·exact h.r x hx
    ·rw [List.mem_singleton] at hx;subst hx;exact hr
   ·show(dk _).length≤4000;rw [ek];exact hkl
   ·show 0≤s.n∧s.n≤(dk _).length;rw [ek,List.length_append];exact⟨hn.1,by have:=hn.2;unfold Hs.k at this ⊢;omega⟩
   ·show opM s.A w n0=onA s.A s.k w n0;unfold onA;rw [if_pos c]
   ·show dk _=onD s.A s.k w n0;unfold onD;rw [if_pos c,ek]
  ·rw [if_pos c1] at c0;exact absurd c0 c1
 ·exact⟨s,h,by unfold onA;rw [if_neg c],rfl,by unfold onD;rw [if_neg c],rfl⟩
theorem adOk{O:List Dl}{dl:Dl}(h:DlL O)(hl:O.length≤20)(h1:dl.1.length≤9223372036854775807)(h2:dl.2.1.length≤9223372036854775807):DlL (if adE O dl=0 then adM O dl else O)∧(if adE O dl=0 then adM O dl else O).length≤20:=by
 by_cases c:adE O dl=0
 ·rw [if_pos c]
  unfold adE at c
  by_cases c1:ofE O≠0
  ·rw [if_pos c1] at c;exact absurd c c1
  rw [if_neg c1] at c
  by_cases c2:dlE dl≠0
  ·rw [if_pos c2] at c;exact absurd c c2
  rw [if_neg c2] at c
  unfold adM
  by_cases c3:0≤fD O dl.1 dl.2.2.1
  ·rw [if_pos c3]
   refine⟨⟨by rw [List.length_set];exact h.len,fun d hd=>?_,fun d hd=>?_⟩,by rw [List.length_set];exact hl⟩
   ·rcases List.mem_or_eq_of_mem_set hd with hd|rfl
    ·exact h.s1 d hd
    ·exact h1
   ·rcases List.mem_or_eq_of_mem_set hd with hd|rfl
    ·exact h.s2 d hd
    ·exact h2
  ·rw [if_neg c3] at c ⊢
   by_cases c4:20≤O.length
   ·rw [if_pos c4] at c;cases c
   refine⟨⟨by rw [List.length_append];simp;omega,fun d hd=>?_,fun d hd=>?_⟩,by rw [List.length_append];simp;omega⟩
   ·rcases List.mem_append.1 hd with hd|hd
    ·exact h.s1 d hd
    ·rw [List.mem_singleton] at hd;subst hd;exact h1
   ·rcases List.mem_append.1 hd with hd|hd
    ·exact h.s2 d hd
    ·rw [List.mem_singleton] at hd;subst hd;exact h2
 ·rw [if_neg c];exact⟨h,hl⟩
theorem drOk{O:List Dl}{w:Str}{n0:Int}(h:DlL O)(hl:O.length≤20):DlL (if drE O w n0=0 then drM O w n0 else O)∧(if drE O w n0=0 then drM O w n0 else O).length≤20:=by
 have hm:∀ d∈drM O w n0,d∈O:=fun d hd=>by
  unfold drM at hd
  rcases List.mem_append.1 hd with hd|hd
  ·exact List.mem_of_mem_take hd
  ·exact List.mem_of_mem_drop hd
 by_cases c:drE O w n0=0
 ·rw [if_pos c]
  have hll:(drM O w n0).length≤O.length:=by unfold drM;rw [List.length_append,List.length_take,List.length_drop];omega
  exact⟨⟨by have:=h.len;omega,fun d hd=>h.s1 d (hm d hd),fun d hd=>h.s2 d (hm d hd)⟩,by omega⟩
 ·rw [if_neg c];exact⟨h,hl⟩
theorem buOk{s:Hs}(h:HsOk s)(n0:Int)(w:Str):∃ s':Hs,HsOk s'∧s'.A=buA s.O s.A s.k w n0∧s'.O=buO s.O s.A s.k w n0∧s'.k=buD s.O s.A s.k w n0∧s'.n=s.n:=by
 by_cases c:buE s.O s.A s.k w n0=0
 ·obtain⟨c1,c2,c3⟩:=buE_ok c
  obtain⟨g1,g2,g3,g4⟩:=bdE_ok c2
  have hB:=bA_ok (w:=w) c2 h.a
  have hw:=w_name c1 g2
  have hr:∀ x∈(bT s.O s.A w n0).map fun x=>Rc.d (at0 s.O x) w,x.ok:=fun x hx=>by
   obtain⟨y,hy,rfl⟩:=List.mem_map.1 hx
   exact⟨at_ok g1 (bT_mem y hy),hw⟩
  have ek:dk ((s.R++(bT s.O s.A w n0).map fun x=>Rc.d (at0 s.O x) w).map Rc.str)=s.k++dk (rk s.O w (bT s.O s.A w n0)):=by
   rw [List.map_append,dk_append,List.map_map];rfl
  have hm:∀ d∈clM s.O (bA s.O s.A w n0),d∈s.O:=fun d hd=>(List.mem_filter.1 hd).1
  have hll:(clM s.O (bA s.O s.A w n0)).length≤s.O.length:=List.length_filter_le ..
  have hn:=h.n
  have hol:=h.ol
  refine⟨⟨bA s.O s.A w n0,clM s.O (bA s.O s.A w n0),s.R++(bT s.O s.A w n0).map fun x=>Rc.d (at0 s.O x) w,s.n⟩,⟨hB.2,(acE_ok hB.1).len,⟨by have:=h.o.len;show(clM s.O (bA s.O s.A w n0)).length≤_;omega,fun d hd=>h.o.s1 d (hm d hd),fun d hd=>h.o.s2 d (hm d hd)⟩,?_,fun x hx=>?_,?_,?_⟩,?_,?_,?_,rfl⟩
  ·show(clM s.O (bA s.O s.A w n0)).length≤20;omega
  ·rcases List.mem_append.1 hx with hx|hx
   ·exact h.r x hx
   ·exact hr x hx
  ·show(dk _).length≤4000;rw [ek,List.length_append];exact c3
  ·show 0≤s.n∧s.n≤(dk _).length;rw [ek,List.length_append];exact⟨hn.1,by have:=hn.2;unfold Hs.k at this ⊢;omega⟩
  ·show _=buA s.O s.A s.k w n0;unfold buA;rw [if_pos c]
  ·show _=buO s.O s.A s.k w n0;unfold buO;rw [if_pos c]
  ·show dk _=buD s.O s.A s.k w n0;unfold buD;rw [if_pos c,ek]
 ·exact⟨s,h,by unfold buA;rw [if_neg c],by unfold buO;rw [if_neg c],by unfold buD;rw [if_neg c],rfl⟩
theorem do_both(s:Hs)(h:HsOk s)(d:De)(hw:d.2.2.1.length≤9223372036854775807)(h1:d.2.2.2.1.1.length≤9223372036854775807)(h2:d.2.2.2.1.2.1.length≤9223372036854775807):∃ s' t m e,Both s d s' t m e:=by
 obtain⟨kd,n0,w,dl,⟨⟩⟩:=d
 dsimp only at hw h1 h2
 by_cases k1:kd=1
 ·subst k1
  obtain⟨s',hs',e1,e2,e3,e4⟩:=onOk h n0 w
  refine⟨s',0,0,onE s.A s.k w n0,hs',?_,?_⟩
  ·rw [e1,e2,e3,e4];exact do1 s.A s.O s.k s.n n0 w dl h.a h.k hw
  ·rw [e1,e2,e3,e4];exact doOf1 s.A s.O s.k s.n n0 w dl h.a h.k hw
 by_cases k2:kd=2
 ·subst k2
  have hO:=adOk h.o h.ol h1 h2
  exact⟨⟨s.A,if adE s.O dl=0 then adM s.O dl else s.O,s.R,s.n⟩,0,0,adE s.O dl,⟨h.a,h.al,hO.1,hO.2,h.r,h.k,h.n⟩,do2 s.A s.O s.k s.n n0 w dl h.o h1 h2,doOf2 s.A s.O s.k s.n n0 w dl h.o h1 h2⟩
 by_cases k3:kd=3
 ·subst k3
  obtain⟨s',hs',e1,e2,e3,e4⟩:=buOk h n0 w
  refine⟨s',buN s.O s.A s.k w n0,buM s.O s.A s.k w n0,buE s.O s.A s.k w n0,hs',?_,?_⟩
  ·rw [e1,e2,e3,e4];exact do3 s.A s.O s.k s.n n0 w dl h.a h.o h.k h.al
  ·rw [e1,e2,e3,e4];exact doOf3 s.A s.O s.k s.n n0 w dl h.a h.o h.k h.al
 by_cases k4:kd=4
 ·subst k4
  exact⟨⟨s.A,s.O,s.R,s.k.length⟩,0,0,0,⟨h.a,h.al,h.o,h.ol,h.r,h.k,⟨Int.natCast_nonneg _,Int.le_refl _⟩⟩,do4 s.A s.O s.k s.n n0 w dl,doOf4 s.A s.O s.k s.n n0 w dl⟩
 by_cases k5:kd=5
 ·subst k5
  by_cases c:crE s.k s.n n0=0
  ·obtain⟨R',r1,r2,r3,r4,r5⟩:=crash_at h c
   have hR:=rcs_AL r1
   have a1:=do5 s.A s.O s.k s.n n0 w dl R' h.k h.n fun _=>⟨r1,r2,r5,r4⟩
   have a2:=doOf5 s.A s.O s.k s.n n0 w dl R' h.k h.n fun _=>⟨r1,r2,r5,r4⟩
   rw [if_pos c,r2,r3] at a1 a2
   exact⟨⟨rcs R',[],R',((dk (R'.map Rc.str)).length:Nat)⟩,0,0,_,⟨hR.1,hR.2,⟨by simp,fun d hd=>(by cases hd),fun d hd=>(by cases hd)⟩,by simp,r1,r4,⟨Int.natCast_nonneg _,Int.le_refl _⟩⟩,a1,a2⟩
  ·have a1:=do5 s.A s.O s.k s.n n0 w dl [] h.k h.n fun e=>absurd e c
   have a2:=doOf5 s.A s.O s.k s.n n0 w dl [] h.k h.n fun e=>absurd e c
   rw [if_neg c] at a1 a2
   exact⟨s,0,0,_,h,a1,a2⟩
 by_cases k6:kd=6
 ·subst k6
  have a1:=do6 s.A s.O s.k s.n n0 w dl h.al
  have a2:=doOf6 s.A s.O s.k s.n n0 w dl h.a
  by_cases c:fA s.A w<0
  ·rw [if_pos c] at a1 a2
   exact⟨s,0,0,_,h,a1,a2⟩
  ·rw [if_neg c] at a1 a2
   exact⟨s,_,_,_,h,a1,a2⟩
 by_cases k7:kd=7
 ·subst k7
  have hO:=drOk (w:=w) (n0:=n0) h.o h.ol
  exact⟨⟨s.A,if drE s.O w n0=0 then drM s.O w n0 else s.O,s.R,s.n⟩,0,0,drE s.O w n0,⟨h.a,h.al,hO.1,hO.2,h.r,h.k,h.n⟩,do7 s.A s.O s.k s.n n0 w dl h.o,doOf7 s.A s.O s.k s.n n0 w dl h.o⟩
 ·have hk:kd<1∨7<kd:=by omega
  exact⟨s,0,0,1,h,do0 s.A s.O s.k s.n n0 w dl kd hk,doOf0 s.A s.O s.k s.n n0 w dl kd hk⟩
/-! ### ranges -/
def AmL(l:List Ac):Prop:=∀ a∈l,wiB a.2.1=true∧wiB a.2.2.1=true
theorem amL_nil:AmL []:=fun a ha=>by cases ha
theorem amL_of{l:List Ac}(h:acE l=0):AmL l:=fun a ha=>⟨wiB_iff.2 ((acE_ok h).mo a ha),wiB_iff.2 ((acE_ok h).nu a ha)⟩
theorem amL_op{l:List Ac}{w:Str}{m:Int}(h:AmL l)(hm:0≤m∧m≤1000000):AmL (opM l w m):=fun a ha=>by
 unfold opM at ha
 rcases List.mem_append.1 ha with ha|ha
 ·exact h a (List.mem_of_mem_take ha)
 ·rcases List.mem_cons.1 ha with rfl|ha
  ·exact⟨wiB_iff.2 hm,wiB_iff.2 ⟨Int.le_refl 0,by show(0:Int)≤1000000;decide⟩⟩
  ·exact h a (List.mem_of_mem_drop ha)
theorem amL_rcs{R:List Rc}:AmL (rcs R):=by
 have key:∀ (R:List Rc) (A:List Ac),AmL A→AmL (R.foldl rcS A):=fun R=>by
  induction R with
  | nil=>intro A h;exact h
  | cons r R ih =>
   intro A hA
   refine ih _ ?_
   cases r with
   | o s m =>
    show AmL (ifA (opE A s m) (opM A s m))
    by_cases c:opE A s m=0
    ·rw [c];exact amL_op hA (opE_ok c).2.2.1
    ·unfold ifA;rw [if_neg c];exact amL_nil
   | d x w =>
    show AmL (ifA (tkE A x w) (tkM A x w))
    by_cases c:tkE A x w=0
    ·rw [c];exact amL_of (tkE_ok c).2.2
    ·unfold ifA;rw [if_neg c];exact amL_nil
 exact key R [] amL_nil
theorem getD_am{l:List Ac}(h:AmL l)(i:Nat):wiB (l.getD i ([],0,0,())).2.1=true∧wiB (l.getD i ([],0,0,())).2.2.1=true:=by
 rw [List.getD_eq_getElem?_getD]
 cases hx:l[i]? with
 | none=>exact⟨wiB_iff.2 ⟨by decide,by decide⟩,wiB_iff.2 ⟨by decide,by decide⟩⟩
 | some a=>exact h a (List.mem_of_getElem? hx)
theorem onE_range{A:List Ac}{k w:Str}{m:Int}:0≤onE A k w m∧onE A k w m≤100:=by
 have:=acE_range A
 unfold onE opE appE
 repeat' split
 all_goals omega
theorem adE_range{l:List Dl}{d:Dl}:0≤adE l d∧adE l d≤100:=by
 have:=ofE_range l
 have:=dlE_range d
 unfold adE
 repeat' split
 all_goals omega
theorem drE_range{l:List Dl}{s:Str}{n:Int}:0≤drE l s n∧drE l s n≤100:=by
 have:=ofE_range l
 unfold drE
 repeat' split
 all_goals omega
theorem crE_range{d:List UInt8}{n k:Int}:0≤crE d n k∧crE d n k≤100:=by
 unfold crE
 split<;>omega
theorem nxE_range2{l:List Dl}{L:List Ac}{w:Str}{room:Int}:0≤nxE l L w room∧nxE l L w room≤100:=by
 have:=ofE_range l
 have:=acE_range L
 unfold nxE
 repeat' split
 all_goals omega
theorem buE_range{O:List Dl}{A:List Ac}{k w:Str}{room:Int}:0≤buE O A k w room∧buE O A k w room≤100:=by
 have:=nxE_range2 (l:=O) (L:=A) (w:=w) (room:=room)
 unfold buE bdE
 repeat' split
 all_goals omega
theorem do_small(s:Hs)(h:HsOk s)(ha:AmL s.A)(d:De)(hw:d.2.2.1.length≤9223372036854775807)(h1:d.2.2.2.1.1.length≤9223372036854775807)(h2:d.2.2.2.1.2.1.length≤9223372036854775807):∃ s' t m e,Both s d s' t m e∧AmL s'.A∧(0≤e∧e≤100)∧(0≤t∧t≤1000000000)∧(0≤m∧m≤1000000000):=by
 obtain⟨kd,n0,w,dl,⟨⟩⟩:=d
 dsimp only at hw h1 h2
 by_cases k1:kd=1
 ·subst k1
  obtain⟨s',hs',e1,e2,e3,e4⟩:=onOk h n0 w
  refine⟨s',0,0,onE s.A s.k w n0,⟨hs',?_,?_⟩,?_,onE_range,by decide,by decide⟩
  ·rw [e1,e2,e3,e4];exact do1 s.A s.O s.k s.n n0 w dl h.a h.k hw
  ·rw [e1,e2,e3,e4];exact doOf1 s.A s.O s.k s.n n0 w dl h.a h.k hw
  ·rw [e1]
   unfold onA
   by_cases c:onE s.A s.k w n0=0
   ·rw [if_pos c]
    refine amL_op ha ?_
    unfold onE at c
    by_cases c1:opE s.A w n0≠0
    ·rw [if_pos c1] at c;exact absurd c c1
    ·exact(opE_ok (Classical.not_not.1 c1)).2.2.1
   ·rw [if_neg c];exact ha
 by_cases k2:kd=2
 ·subst k2
  have hO:=adOk h.o h.ol h1 h2
  exact⟨⟨s.A,if adE s.O dl=0 then adM s.O dl else s.O,s.R,s.n⟩,0,0,adE s.O dl,⟨⟨h.a,h.al,hO.1,hO.2,h.r,h.k,h.n⟩,do2 s.A s.O s.k s.n n0 w dl h.o h1 h2,doOf2 s.A s.O s.k s.n n0 w dl h.o h1 h2⟩,ha,adE_range,by decide,by decide⟩
 by_cases k3:kd=3
 ·subst k3
  obtain⟨s',hs',e1,e2,e3,e4⟩:=buOk h n0 w
  refine⟨s',buN s.O s.A s.k w n0,buM s.O s.A s.k w n0,buE s.O s.A s.k w n0,⟨hs',?_,?_⟩,?_,buE_range,?_,?_⟩
  ·rw [e1,e2,e3,e4];exact do3 s.A s.O s.k s.n n0 w dl h.a h.o h.k h.al
  ·rw [e1,e2,e3,e4];exact doOf3 s.A s.O s.k s.n n0 w dl h.a h.o h.k h.al
  ·rw [e1]
   unfold buA
   by_cases c:buE s.O s.A s.k w n0=0
   ·rw [if_pos c];exact amL_of (bA_ok (buE_ok c).2.1 h.a).1
   ·rw [if_neg c];exact ha
  ·unfold buN
   have:=bT_len (O:=s.O) (A:=s.A) (w:=w) (room:=n0)
   split<;>omega
  ·unfold buM
   by_cases c:buE s.O s.A s.k w n0=0
   ·rw [if_pos c]
    have:=bT_len (O:=s.O) (A:=s.A) (w:=w) (room:=n0)
    have h3:=feeS_bound (bdE_ok (buE_ok c).2.1).1 (bT s.O s.A w n0) bT_mem
    omega
   ·rw [if_neg c];decide
 by_cases k4:kd=4
 ·subst k4
  exact⟨⟨s.A,s.O,s.R,s.k.length⟩,0,0,0,⟨⟨h.a,h.al,h.o,h.ol,h.r,h.k,⟨Int.natCast_nonneg _,Int.le_refl _⟩⟩,do4 s.A s.O s.k s.n n0 w dl,doOf4 s.A s.O s.k s.n n0 w dl⟩,ha,by decide,by decide,by decide⟩
 by_cases k5:kd=5
 ·subst k5
  by_cases c:crE s.k s.n n0=0
  ·obtain⟨R',r1,r2,r3,r4,r5⟩:=crash_at h c
   have hR:=rcs_AL r1
   have a1:=do5 s.A s.O s.k s.n n0 w dl R' h.k h.n fun _=>⟨r1,r2,r5,r4⟩
   have a2:=doOf5 s.A s.O s.k s.n n0 w dl R' h.k h.n fun _=>⟨r1,r2,r5,r4⟩
   rw [if_pos c,r2,r3] at a1 a2
   exact⟨⟨rcs R',[],R',((dk (R'.map Rc.str)).length:Nat)⟩,0,0,_,⟨⟨hR.1,hR.2,⟨by simp,fun d hd=>(by cases hd),fun d hd=>(by cases hd)⟩,by simp,r1,r4,⟨Int.natCast_nonneg _,Int.le_refl _⟩⟩,a1,a2⟩,amL_rcs,crE_range,by decide,by decide⟩
  ·have a1:=do5 s.A s.O s.k s.n n0 w dl [] h.k h.n fun e=>absurd e c
   have a2:=doOf5 s.A s.O s.k s.n n0 w dl [] h.k h.n fun e=>absurd e c
   rw [if_neg c] at a1 a2
   exact⟨s,0,0,_,⟨h,a1,a2⟩,ha,crE_range,by decide,by decide⟩
 by_cases k6:kd=6
 ·subst k6
  have a1:=do6 s.A s.O s.k s.n n0 w dl h.al
  have a2:=doOf6 s.A s.O s.k s.n n0 w dl h.a
  have hg:=getD_am ha (fA s.A w).toNat
  rw [wiB_iff,wiB_iff] at hg
  by_cases c:fA s.A w<0
  ·rw [if_pos c] at a1 a2
   exact⟨s,0,0,_,⟨h,a1,a2⟩,ha,by split<;>decide,by decide,by decide⟩
  ·rw [if_neg c] at a1 a2
   exact⟨s,_,_,_,⟨h,a1,a2⟩,ha,by split<;>decide,by omega,by omega⟩
 by_cases k7:kd=7
 ·subst k7
  have hO:=drOk (w:=w) (n0:=n0) h.o h.ol
  exact⟨⟨s.A,if drE s.O w n0=0 then drM s.O w n0 else s.O,s.R,s.n⟩,0,0,drE s.O w n0,⟨⟨h.a,h.al,hO.1,hO.2,h.r,h.k,h.n⟩,do7 s.A s.O s.k s.n n0 w dl h.o,doOf7 s.A s.O s.k s.n n0 w dl h.o⟩,ha,drE_range,by decide,by decide⟩
 ·have hk:kd<1∨7<kd:=by omega
  exact⟨s,0,0,1,⟨h,do0 s.A s.O s.k s.n n0 w dl kd hk,doOf0 s.A s.O s.k s.n n0 w dl kd hk⟩,ha,by decide,by decide,by decide⟩
end Go.Proofs.YtkkcnppgcnmikaaGreatDoor
