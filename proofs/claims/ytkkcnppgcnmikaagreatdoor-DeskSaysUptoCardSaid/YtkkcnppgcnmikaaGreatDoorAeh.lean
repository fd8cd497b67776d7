/- The reference's answer of a line: Xn2. -/
import Derived.Test.YtkkcnppgcnmikaaGreatDoorAeg
namespace Go.Proofs.YtkkcnppgcnmikaaGreatDoor
open Go FM Go.Proofs
set_option maxRecDepth 10000
set_option maxHeartbeats 6400000
set_option linter.all false
section
variable (A:List Ac) (O:List Dl) (k:Str) (n:Int) (A':List Ac) (O':List Dl) (k':Str) (n':Int)
theorem ao_len0(line:Str)(hl:line.length≤5000)(w:Str)  (l:List Str)(hw:Xf.wg [] line=w::l)(K NM:Int)(hK:kdF w=K)(hN:nmF K=NM)(hM:min NM ((((w::l).length:Nat):Int)-1)=0)(hll:l.length≤10000)(hb:l.all nuB=true)(LN:Int)(hL:lnF K=LN)(hK0:K≠0)(hne:(((w::l).length:Nat):Int)-1≠LN):FnSpec Sy.P 53 [hsR A O k n,.str line] [hsR A O k n,.str line] (.tup [hsR A O k n,.str (rfS 12)]):=by
 have hW:=ffn_spec line hl
 rw [hw] at hW
 have hwc:(w::l).length=l.length+1:=rfl
 have hwl:(w::l).length≤10010:=by omega
 have hR:=refusal_spec 12 (by decide)
 have hD:=digits_ok l hb (by omega)
 generalize l.map nuV=x at *
 refine enT Tryz.func53 Tryz.ntmps53 fun v0=>?_
 repeat' first|(refine J.freezeO 6 rfl rfl (sh_map (g:=AV.str) (fun _=>rfl)) rfl ?_)|refine w9x ?_|refine w9p (hW) ?_|(refine w9c ?_ ?_<;>intro _<;>try exact w9o)|fail
 repeat' first|(refine CW.cut (c:=.region 4 _ _) [(2,.av (.pt true (hsR A O k n).cells)),(4,.av (.pt true [.nil,.nil,.str [],.int 0])),(6,.av (swS (w::l))),(7,.av (.int (K)))] ?_ ?_)|exact w9g|(refine CW.cut (c:=.region 5 _ _) [(2,.av (.pt true (hsR A O k n).cells)),(4,.av (.pt true [.nil,.nil,.str [],.int 0])),(6,.av (swS (w::l))),(7,.av (.int (K))),(8,.av (.int (0)))] ?_ ?_)|exact w9g|((with_reducible apply J.step);rfl;((with_reducible apply(rC hK))<;>rfl))|refine w9E @rA ?_|refine w9E @rB ?_|refine w9x ?_|(refine w9c ?_ ?_<;>intro _<;>try exact w9o)|fail
 all_goals repeat' first|exact w9g|((with_reducible apply J.step);rfl;((with_reducible apply(rF hN))<;>rfl))|((with_reducible apply J.step);rfl;((with_reducible apply(s_minE (hc:=hM)))<;>rfl))|refine w9E @rD ?_|refine w9E @rE ?_|refine w9x ?_|(refine w9c ?_ ?_<;>intro _<;>try exact w9o)|fail
 all_goals repeat' first|refine w9x ?_|refine w9p (hD) ?_|refine w9p (hR) ?_|(refine w9c ?_ ?_<;>intro _<;>try exact w9o)|fail
 all_goals repeat' first|((with_reducible refine w9i ?_);first|refine w9J2 3 0 1 ?_ ?_|refine w9J1 2 0 ?_|refine w9J1 2 1 ?_|refine w9J1 1 2 ?_|refine w9Jt 0 3 ?_|refine w9J0 ?_)|exact w9g|refine w9U 0 4 ?_|((with_reducible apply J.step);rfl;((with_reducible apply(rF hL))<;>rfl))|refine w9E @rD ?_|refine w9E @rE ?_|refine w9x ?_|refine w9p (hR) ?_|(refine w9c ?_ ?_<;>intro _<;>try exact w9o)|fail
 all_goals exact w9e
theorem ao_len1(line:Str)(hl:line.length≤5000)(w:Str)(a:Str)(l:List Str)(hw:Xf.wg [] line=w::a::l)(K NM:Int)(hK:kdF w=K)(hN:nmF K=NM)(hM:min NM ((((w::a::l).length:Nat):Int)-1)=1)(hll:l.length≤10000)(hb:l.all nuB=true)(LN:Int)(hL:lnF K=LN)(hK0:K≠0)(hne:(((w::a::l).length:Nat):Int)-1≠LN):FnSpec Sy.P 53 [hsR A O k n,.str line] [hsR A O k n,.str line] (.tup [hsR A O k n,.str (rfS 12)]):=by
 have hW:=ffn_spec line hl
 rw [hw] at hW
 have hwc:(w::a::l).length=l.length+2:=rfl
 have hwl:(w::a::l).length≤10010:=by omega
 have hR:=refusal_spec 12 (by decide)
 have hD:=digits_ok l hb (by omega)
 generalize l.map nuV=x at *
 refine enT Tryz.func53 Tryz.ntmps53 fun v0=>?_
 repeat' first|(refine J.freezeO 6 rfl rfl (sh_map (g:=AV.str) (fun _=>rfl)) rfl ?_)|refine w9x ?_|refine w9p (hW) ?_|(refine w9c ?_ ?_<;>intro _<;>try exact w9o)|fail
 repeat' first|(refine CW.cut (c:=.region 4 _ _) [(2,.av (.pt true (hsR A O k n).cells)),(4,.av (.pt true [.nil,.nil,.str [],.int 0])),(6,.av (swS (w::a::l))),(7,.av (.int (K)))] ?_ ?_)|exact w9g|(refine CW.cut (c:=.region 5 _ _) [(2,.av (.pt true (hsR A O k n).cells)),(4,.av (.pt true [.nil,.nil,.str [],.int 0])),(6,.av (swS (w::a::l))),(7,.av (.int (K))),(8,.av (.int (1)))] ?_ ?_)|exact w9g|((with_reducible apply J.step);rfl;((with_reducible apply(rC hK))<;>rfl))|refine w9E @rA ?_|refine w9E @rB ?_|refine w9x ?_|(refine w9c ?_ ?_<;>intro _<;>try exact w9o)|fail
 all_goals repeat' first|exact w9g|((with_reducible apply J.step);rfl;((with_reducible apply(rF hN))<;>rfl))|((with_reducible apply J.step);rfl;((with_reducible apply(s_minE (hc:=hM)))<;>rfl))|refine w9E @rD ?_|refine w9E @rE ?_|refine w9x ?_|(refine w9c ?_ ?_<;>intro _<;>try exact w9o)|fail
 all_goals repeat' first|refine w9x ?_|refine w9p (hD) ?_|refine w9p (hR) ?_|(refine w9c ?_ ?_<;>intro _<;>try exact w9o)|fail
 all_goals repeat' first|((with_reducible refine w9i ?_);first|refine w9J2 3 0 1 ?_ ?_|refine w9J1 2 0 ?_|refine w9J1 2 1 ?_|refine w9J1 1 2 ?_|refine w9Jt 0 3 ?_|refine w9J0 ?_)|exact w9g|refine w9U 0 4 ?_|((with_reducible apply J.step);rfl;((with_reducible apply(rF hL))<;>rfl))|refine w9E @rD ?_|refine w9E @rE ?_|refine w9x ?_|refine w9p (hR) ?_|(refine w9c ?_ ?_<;>intro _<;>try exact w9o)|fail
 all_goals exact w9e
theorem ao_len2(line:Str)(hl:line.length≤5000)(w:Str)(a b:Str)(l:List Str)(hw:Xf.wg [] line=w::a::b::l)(K NM:Int)(hK:kdF w=K)(hN:nmF K=NM)(hM:min NM ((((w::a::b::l).length:Nat):Int)-1)=2)(hll:l.length≤10000)(hb:l.all nuB=true)(LN:Int)(hL:lnF K=LN)(hK0:K≠0)(hne:(((w::a::b::l).length:Nat):Int)-1≠LN):FnSpec Sy.P 53 [hsR A O k n,.str line] [hsR A O k n,.str line] (.tup [hsR A O k n,.str (rfS 12)]):=by
 have hW:=ffn_spec line hl
 rw [hw] at hW
 have hwc:(w::a::b::l).length=l.length+3:=rfl
 have hwl:(w::a::b::l).length≤10010:=by omega
 have hR:=refusal_spec 12 (by decide)
 have hD:=digits_ok l hb (by omega)
 generalize l.map nuV=x at *
 refine enT Tryz.func53 Tryz.ntmps53 fun v0=>?_
 repeat' first|(refine J.freezeO 6 rfl rfl (sh_map (g:=AV.str) (fun _=>rfl)) rfl ?_)|refine w9x ?_|refine w9p (hW) ?_|(refine w9c ?_ ?_<;>intro _<;>try exact w9o)|fail
 repeat' first|(refine CW.cut (c:=.region 4 _ _) [(2,.av (.pt true (hsR A O k n).cells)),(4,.av (.pt true [.nil,.nil,.str [],.int 0])),(6,.av (swS (w::a::b::l))),(7,.av (.int (K)))] ?_ ?_)|exact w9g|(refine CW.cut (c:=.region 5 _ _) [(2,.av (.pt true (hsR A O k n).cells)),(4,.av (.pt true [.nil,.nil,.str [],.int 0])),(6,.av (swS (w::a::b::l))),(7,.av (.int (K))),(8,.av (.int (2)))] ?_ ?_)|exact w9g|((with_reducible apply J.step);rfl;((with_reducible apply(rC hK))<;>rfl))|refine w9E @rA ?_|refine w9E @rB ?_|refine w9x ?_|(refine w9c ?_ ?_<;>intro _<;>try exact w9o)|fail
 all_goals repeat' first|exact w9g|((with_reducible apply J.step);rfl;((with_reducible apply(rF hN))<;>rfl))|((with_reducible apply J.step);rfl;((with_reducible apply(s_minE (hc:=hM)))<;>rfl))|refine w9E @rD ?_|refine w9E @rE ?_|refine w9x ?_|(refine w9c ?_ ?_<;>intro _<;>try exact w9o)|fail
 all_goals repeat' first|refine w9x ?_|refine w9p (hD) ?_|refine w9p (hR) ?_|(refine w9c ?_ ?_<;>intro _<;>try exact w9o)|fail
 all_goals repeat' first|((with_reducible refine w9i ?_);first|refine w9J2 3 0 1 ?_ ?_|refine w9J1 2 0 ?_|refine w9J1 2 1 ?_|refine w9J1 1 2 ?_|refine w9Jt 0 3 ?_|refine w9J0 ?_)|exact w9g|refine w9U 0 4 ?_|((with_reducible apply J.step);rfl;((with_reducible apply(rF hL))<;>rfl))|refine w9E @rD ?_|refine w9E @rE ?_|refine w9x ?_|refine w9p (hR) ?_|(refine w9c ?_ ?_<;>intro _<;>try exact w9o)|fail
 all_goals exact w9e
theorem ao_reck(line:Str)(hl:line.length≤5000)(w:Str)(l:List Str)(hw:Xf.wg [] line=w::l)(hK:kdF w=0)(hll:l.length≤10000)(hb:l.all nuB=true)(t:Str)(hC:FnSpec Sy.P 100 [.str w,.sl false 1 ((l.map nuV).map .int)] [.str w,.sl false 1 ((l.map nuV).map .int)] (.tup [.str t,.bool true])):FnSpec Sy.P 53 [hsR A O k n,.str line] [hsR A O k n,.str line] (.tup [hsR A O k n,.str t]):=by
 have hW:=ffn_spec line hl
 rw [hw] at hW
 have hR:=refusal_spec 12 (by decide)
 have hwc:(w::l).length=l.length+1:=rfl
 have hwl:(w::l).length≤10010:=by omega
 have hN:nmF 0=0:=by decide
 have hM:min 0 ((((w::l).length:Nat):Int)-1)=0:=by rw [List.length_cons];omega
 have hD:=digits_ok l hb (by omega)
 generalize l.map nuV=x at *
 refine enT Tryz.func53 Tryz.ntmps53 fun v0=>?_
 repeat' first|(refine J.freezeO 6 rfl rfl (sh_map (g:=AV.str) (fun _=>rfl)) rfl ?_)|refine w9x ?_|refine w9p (hW) ?_|fail
 repeat' first|(refine CW.cut (c:=.region 4 _ _) [(2,.av (.pt true (hsR A O k n).cells)),(4,.av (.pt true [.nil,.nil,.str [],.int 0])),(6,.av (swS (w::l))),(7,.av (.int (0)))] ?_ ?_)|exact w9g|(refine CW.cut (c:=.region 5 _ _) [(2,.av (.pt true (hsR A O k n).cells)),(4,.av (.pt true [.nil,.nil,.str [],.int 0])),(6,.av (swS (w::l))),(7,.av (.int (0))),(8,.av (.int (0)))] ?_ ?_)|exact w9g|((with_reducible apply J.step);rfl;((with_reducible apply(rC hK))<;>rfl))|refine w9E @rA ?_|refine w9E @rB ?_|refine w9x ?_|fail
 all_goals repeat' first|exact w9g|((with_reducible apply J.step);rfl;((with_reducible apply(rF hN))<;>rfl))|((with_reducible apply J.step);rfl;((with_reducible apply(s_minE (hc:=hM)))<;>rfl))|refine w9E @rD ?_|refine w9E @rE ?_|refine w9x ?_|fail
 all_goals repeat' first|(refine J.freezeO 9 rfl rfl sh_int rfl ?_)|refine w9U 0 4 ?_|refine w9x ?_|refine w9p (hD) ?_|refine w9p (hC) ?_|refine w9p (hR) ?_|fail
 all_goals exact w9e
theorem ao_reck_no(line:Str)(hl:line.length≤5000)(w:Str)(l:List Str)(hw:Xf.wg [] line=w::l)(hK:kdF w=0)(hll:l.length≤10000)(hb:l.all nuB=true)(hC:FnSpec Sy.P 100 [.str w,.sl false 1 ((l.map nuV).map .int)] [.str w,.sl false 1 ((l.map nuV).map .int)] (.tup [.str [],.bool false])):FnSpec Sy.P 53 [hsR A O k n,.str line] [hsR A O k n,.str line] (.tup [hsR A O k n,.str (rfS 12)]):=by
 have hW:=ffn_spec line hl
 rw [hw] at hW
 have hR:=refusal_spec 12 (by decide)
 have hwc:(w::l).length=l.length+1:=rfl
 have hwl:(w::l).length≤10010:=by omega
 have hN:nmF 0=0:=by decide
 have hM:min 0 ((((w::l).length:Nat):Int)-1)=0:=by rw [List.length_cons];omega
 have hD:=digits_ok l hb (by omega)
 generalize l.map nuV=x at *
 refine enT Tryz.func53 Tryz.ntmps53 fun v0=>?_
 repeat' first|(refine J.freezeO 6 rfl rfl (sh_map (g:=AV.str) (fun _=>rfl)) rfl ?_)|refine w9x ?_|refine w9p (hW) ?_|fail
 repeat' first|(refine CW.cut (c:=.region 4 _ _) [(2,.av (.pt true (hsR A O k n).cells)),(4,.av (.pt true [.nil,.nil,.str [],.int 0])),(6,.av (swS (w::l))),(7,.av (.int (0)))] ?_ ?_)|exact w9g|(refine CW.cut (c:=.region 5 _ _) [(2,.av (.pt true (hsR A O k n).cells)),(4,.av (.pt true [.nil,.nil,.str [],.int 0])),(6,.av (swS (w::l))),(7,.av (.int (0))),(8,.av (.int (0)))] ?_ ?_)|exact w9g|((with_reducible apply J.step);rfl;((with_reducible apply(rC hK))<;>rfl))|refine w9E @rA ?_|refine w9E @rB ?_|refine w9x ?_|fail
 all_goals repeat' first|exact w9g|((with_reducible apply J.step);rfl;((with_reducible apply(rF hN))<;>rfl))|((with_reducible apply J.step);rfl;((with_reducible apply(s_minE (hc:=hM)))<;>rfl))|refine w9E @rD ?_|refine w9E @rE ?_|refine w9x ?_|fail
 all_goals repeat' first|((with_reducible refine w9i ?_);first|refine w9J2 3 0 1 ?_ ?_|refine w9J1 2 0 ?_|refine w9J1 2 1 ?_|refine w9J1 1 2 ?_|refine w9Jt 0 3 ?_|refine w9J0 ?_)|(refine J.freezeO 9 rfl rfl sh_int rfl ?_)|refine w9U 0 4 ?_|refine w9x ?_|refine w9p (hD) ?_|refine w9p (hC) ?_|refine w9p (hR) ?_|fail
 all_goals exact w9e
end
section
variable (A:List Ac) (O:List Dl) (k:Str) (n:Int) (A':List Ac) (O':List Dl) (k':Str) (n':Int)
theorem ao_open(line:Str)(hl:line.length≤5000)  (w:Str)(s u:Str)(hw:Xf.wg [] line=w::[s,u])(hK:kdF w=1)(hb:([u]:List Str).all nuB=true)(t m:Int)(hG:FnSpec Sy.P 8 [hsR A O k n,dxA 1 (nuV u) s dl0] [hsR A O k n,dxA 1 (nuV u) s dl0] (.tup [hsR A' O' k' n',tdA t m,.int 0])):FnSpec Sy.P 53 [hsR A O k n,.str line] [hsR A O k n,.str line] (.tup [hsR A' O' k' n',.str [111,107]]):=by
 have hW:=ffn_spec line hl
 rw [hw] at hW
 have hwc:(w::[s,u]).length=3:=rfl
 have hwl:(w::[s,u]).length≤10010:=by omega
 have hN:nmF 1=1:=by decide
 have hL:lnF 1=2:=by decide
 have hM:min 1 ((((w::[s,u]).length:Nat):Int)-1)=1:=by simp only [List.length_cons,List.length_nil];omega
 have hD:=digits_ok [u] hb (by simp)
 simp only [List.map_cons,List.map_nil] at hD
 have hR:=refusal_spec 12 (by decide)
 generalize nuV u=z0 at *
 refine enT Tryz.func53 Tryz.ntmps53 fun v0=>?_
 repeat' first|(refine J.freezeO 6 rfl rfl (sh_map (g:=AV.str) (fun _=>rfl)) rfl ?_)|refine w9x ?_|refine w9p (hW) ?_|fail
 repeat' first|(refine CW.cut (c:=.region 4 _ _) [(2,.av (.pt true (hsR A O k n).cells)),(4,.av (.pt true [.nil,.nil,.str [],.int 0])),(6,.av (swS (w::[s,u]))),(7,.av (.int (1)))] ?_ ?_)|exact w9g|(refine CW.cut (c:=.region 5 _ _) [(2,.av (.pt true (hsR A O k n).cells)),(4,.av (.pt true [.nil,.nil,.str [],.int 0])),(6,.av (swS (w::[s,u]))),(7,.av (.int (1))),(8,.av (.int (1)))] ?_ ?_)|exact w9g|((with_reducible apply J.step);rfl;((with_reducible apply(rC hK))<;>rfl))|refine w9E @rA ?_|refine w9E @rB ?_|refine w9x ?_|fail
 all_goals repeat' first|exact w9g|((with_reducible apply J.step);rfl;((with_reducible apply(rF hN))<;>rfl))|((with_reducible apply J.step);rfl;((with_reducible apply(s_minE (hc:=hM)))<;>rfl))|refine w9E @rD ?_|refine w9E @rE ?_|refine w9x ?_|fail
 all_goals repeat' first|(refine CW.cut (c:=.region 14 _ _) [(2,.av (.pt true (hsR A O k n).cells)),(4,.av (.pt true [.nil,.nil,.str [],.int 0])),(6,.av (swS (w::[s,u]))),(7,.av (.int (1))),(8,.av (.int (1))),(9,.av (.sl true 1 [.int z0])),(72,.av (.bool false))] ?_ ?_)|exact w9g|refine w9x ?_|refine w9p (hD) ?_|refine w9p (hR) ?_|fail
 all_goals repeat' first|exact w9g|((with_reducible apply J.step);rfl;((with_reducible apply(rF hL))<;>rfl))|refine w9E @rD ?_|refine w9E @rE ?_|refine w9x ?_|fail
 all_goals repeat' first|((with_reducible apply J.step);rfl;((with_reducible apply s_bldG)<;>(first|rfl|(solve|(repeat' (first|exact FillG.nil|(with_unfolding_all apply FillG.part rfl rfl rfl rfl rfl rfl rfl)))))))|refine w9x ?_|refine w9p (hR) ?_|refine w9p (hG) ?_|fail
 all_goals exact w9e
theorem ao_open_e(line:Str)(hl:line.length≤5000)  (w:Str)(s u:Str)(hw:Xf.wg [] line=w::[s,u])(hK:kdF w=1)(hb:([u]:List Str).all nuB=true)(t m e:Int)(he:0<e∧e≤100)(hG:FnSpec Sy.P 8 [hsR A O k n,dxA 1 (nuV u) s dl0] [hsR A O k n,dxA 1 (nuV u) s dl0] (.tup [hsR A' O' k' n',tdA t m,.int e])):FnSpec Sy.P 53 [hsR A O k n,.str line] [hsR A O k n,.str line] (.tup [hsR A' O' k' n',.str (rfS e)]):=by
 have hW:=ffn_spec line hl
 rw [hw] at hW
 have hwc:(w::[s,u]).length=3:=rfl
 have hwl:(w::[s,u]).length≤10010:=by omega
 have hN:nmF 1=1:=by decide
 have hL:lnF 1=2:=by decide
 have hM:min 1 ((((w::[s,u]).length:Nat):Int)-1)=1:=by simp only [List.length_cons,List.length_nil];omega
 have hD:=digits_ok [u] hb (by simp)
 simp only [List.map_cons,List.map_nil] at hD
 have hR:=refusal_spec e (by omega)
 generalize nuV u=z0 at *
 refine enT Tryz.func53 Tryz.ntmps53 fun v0=>?_
 repeat' first|(refine J.freezeO 6 rfl rfl (sh_map (g:=AV.str) (fun _=>rfl)) rfl ?_)|refine w9x ?_|refine w9p (hW) ?_|(refine w9c ?_ ?_<;>intro _<;>try exact w9o)|fail
 repeat' first|(refine CW.cut (c:=.region 4 _ _) [(2,.av (.pt true (hsR A O k n).cells)),(4,.av (.pt true [.nil,.nil,.str [],.int 0])),(6,.av (swS (w::[s,u]))),(7,.av (.int (1)))] ?_ ?_)|exact w9g|(refine CW.cut (c:=.region 5 _ _) [(2,.av (.pt true (hsR A O k n).cells)),(4,.av (.pt true [.nil,.nil,.str [],.int 0])),(6,.av (swS (w::[s,u]))),(7,.av (.int (1))),(8,.av (.int (1)))] ?_ ?_)|exact w9g|((with_reducible apply J.step);rfl;((with_reducible apply(rC hK))<;>rfl))|refine w9E @rA ?_|refine w9E @rB ?_|refine w9x ?_|(refine w9c ?_ ?_<;>intro _<;>try exact w9o)|fail
 all_goals repeat' first|exact w9g|((with_reducible apply J.step);rfl;((with_reducible apply(rF hN))<;>rfl))|((with_reducible apply J.step);rfl;((with_reducible apply(s_minE (hc:=hM)))<;>rfl))|refine w9E @rD ?_|refine w9E @rE ?_|refine w9x ?_|(refine w9c ?_ ?_<;>intro _<;>try exact w9o)|fail
 all_goals repeat' first|(refine CW.cut (c:=.region 14 _ _) [(2,.av (.pt true (hsR A O k n).cells)),(4,.av (.pt true [.nil,.nil,.str [],.int 0])),(6,.av (swS (w::[s,u]))),(7,.av (.int (1))),(8,.av (.int (1))),(9,.av (.sl true 1 [.int z0])),(72,.av (.bool false))] ?_ ?_)|exact w9g|refine w9x ?_|refine w9p (hD) ?_|refine w9p (hR) ?_|(refine w9c ?_ ?_<;>intro _<;>try exact w9o)|fail
 all_goals repeat' first|exact w9g|((with_reducible apply J.step);rfl;((with_reducible apply(rF hL))<;>rfl))|refine w9E @rD ?_|refine w9E @rE ?_|refine w9x ?_|(refine w9c ?_ ?_<;>intro _<;>try exact w9o)|fail
 all_goals repeat' first|((with_reducible refine w9i ?_);first|refine w9Jt 4 1 ?_|refine w9J2 3 0 2 ?_ ?_|refine w9J1 2 0 ?_|refine w9J1 2 2 ?_|refine w9J1 1 3 ?_|refine w9Jt 0 4 ?_|refine w9J0 ?_)|refine w9U 0 5 ?_|((with_reducible apply J.step);rfl;((with_reducible apply s_bldG)<;>(first|rfl|(solve|(repeat' (first|exact FillG.nil|(with_unfolding_all apply FillG.part rfl rfl rfl rfl rfl rfl rfl)))))))|refine w9x ?_|refine w9p (hR) ?_|refine w9p (hG) ?_|(refine w9c ?_ ?_<;>intro _<;>try exact w9o)|fail
 all_goals exact w9e
theorem ao_drop(line:Str)(hl:line.length≤5000)  (w:Str)(s u:Str)(hw:Xf.wg [] line=w::[s,u])(hK:kdF w=7)(hb:([u]:List Str).all nuB=true)(t m:Int)(hG:FnSpec Sy.P 8 [hsR A O k n,dxA 7 (nuV u) s dl0] [hsR A O k n,dxA 7 (nuV u) s dl0] (.tup [hsR A' O' k' n',tdA t m,.int 0])):FnSpec Sy.P 53 [hsR A O k n,.str line] [hsR A O k n,.str line] (.tup [hsR A' O' k' n',.str [111,107]]):=by
 have hW:=ffn_spec line hl
 rw [hw] at hW
 have hwc:(w::[s,u]).length=3:=rfl
 have hwl:(w::[s,u]).length≤10010:=by omega
 have hN:nmF 7=1:=by decide
 have hL:lnF 7=2:=by decide
 have hM:min 1 ((((w::[s,u]).length:Nat):Int)-1)=1:=by simp only [List.length_cons,List.length_nil];omega
 have hD:=digits_ok [u] hb (by simp)
 simp only [List.map_cons,List.map_nil] at hD
 have hR:=refusal_spec 12 (by decide)
 generalize nuV u=z0 at *
 refine enT Tryz.func53 Tryz.ntmps53 fun v0=>?_
 repeat' first|(refine J.freezeO 6 rfl rfl (sh_map (g:=AV.str) (fun _=>rfl)) rfl ?_)|refine w9x ?_|refine w9p (hW) ?_|fail
 repeat' first|(refine CW.cut (c:=.region 4 _ _) [(2,.av (.pt true (hsR A O k n).cells)),(4,.av (.pt true [.nil,.nil,.str [],.int 0])),(6,.av (swS (w::[s,u]))),(7,.av (.int (7)))] ?_ ?_)|exact w9g|(refine CW.cut (c:=.region 5 _ _) [(2,.av (.pt true (hsR A O k n).cells)),(4,.av (.pt true [.nil,.nil,.str [],.int 0])),(6,.av (swS (w::[s,u]))),(7,.av (.int (7))),(8,.av (.int (1)))] ?_ ?_)|exact w9g|((with_reducible apply J.step);rfl;((with_reducible apply(rC hK))<;>rfl))|refine w9E @rA ?_|refine w9E @rB ?_|refine w9x ?_|fail
 all_goals repeat' first|exact w9g|((with_reducible apply J.step);rfl;((with_reducible apply(rF hN))<;>rfl))|((with_reducible apply J.step);rfl;((with_reducible apply(s_minE (hc:=hM)))<;>rfl))|refine w9E @rD ?_|refine w9E @rE ?_|refine w9x ?_|fail
 all_goals repeat' first|(refine CW.cut (c:=.region 14 _ _) [(2,.av (.pt true (hsR A O k n).cells)),(4,.av (.pt true [.nil,.nil,.str [],.int 0])),(6,.av (swS (w::[s,u]))),(7,.av (.int (7))),(8,.av (.int (1))),(9,.av (.sl true 1 [.int z0])),(72,.av (.bool false))] ?_ ?_)|exact w9g|refine w9x ?_|refine w9p (hD) ?_|refine w9p (hR) ?_|fail
 all_goals repeat' first|exact w9g|((with_reducible apply J.step);rfl;((with_reducible apply(rF hL))<;>rfl))|refine w9E @rD ?_|refine w9E @rE ?_|refine w9x ?_|fail
 all_goals repeat' first|((with_reducible apply J.step);rfl;((with_reducible apply s_bldG)<;>(first|rfl|(solve|(repeat' (first|exact FillG.nil|(with_unfolding_all apply FillG.part rfl rfl rfl rfl rfl rfl rfl)))))))|refine w9x ?_|refine w9p (hR) ?_|refine w9p (hG) ?_|fail
 all_goals exact w9e
theorem ao_drop_e(line:Str)(hl:line.length≤5000)  (w:Str)(s u:Str)(hw:Xf.wg [] line=w::[s,u])(hK:kdF w=7)(hb:([u]:List Str).all nuB=true)(t m e:Int)(he:0<e∧e≤100)(hG:FnSpec Sy.P 8 [hsR A O k n,dxA 7 (nuV u) s dl0] [hsR A O k n,dxA 7 (nuV u) s dl0] (.tup [hsR A' O' k' n',tdA t m,.int e])):FnSpec Sy.P 53 [hsR A O k n,.str line] [hsR A O k n,.str line] (.tup [hsR A' O' k' n',.str (rfS e)]):=by
 have hW:=ffn_spec line hl
 rw [hw] at hW
 have hwc:(w::[s,u]).length=3:=rfl
 have hwl:(w::[s,u]).length≤10010:=by omega
 have hN:nmF 7=1:=by decide
 have hL:lnF 7=2:=by decide
 have hM:min 1 ((((w::[s,u]).length:Nat):Int)-1)=1:=by simp only [List.length_cons,List.length_nil];omega
 have hD:=digits_ok [u] hb (by simp)
 simp only [List.map_cons,List.map_nil] at hD
 have hR:=refusal_spec e (by omega)
 generalize nuV u=z0 at *
 refine enT Tryz.func53 Tryz.ntmps53 fun v0=>?_
 repeat' first|(refine J.freezeO 6 rfl rfl (sh_map (g:=AV.str) (fun _=>rfl)) rfl ?_)|refine w9x ?_|refine w9p (hW) ?_|(refine w9c ?_ ?_<;>intro _<;>try exact w9o)|fail
 repeat' first|(refine CW.cut (c:=.region 4 _ _) [(2,.av (.pt true (hsR A O k n).cells)),(4,.av (.pt true [.nil,.nil,.str [],.int 0])),(6,.av (swS (w::[s,u]))),(7,.av (.int (7)))] ?_ ?_)|exact w9g|(refine CW.cut (c:=.region 5 _ _) [(2,.av (.pt true (hsR A O k n).cells)),(4,.av (.pt true [.nil,.nil,.str [],.int 0])),(6,.av (swS (w::[s,u]))),(7,.av (.int (7))),(8,.av (.int (1)))] ?_ ?_)|exact w9g|((with_reducible apply J.step);rfl;((with_reducible apply(rC hK))<;>rfl))|refine w9E @rA ?_|refine w9E @rB ?_|refine w9x ?_|(refine w9c ?_ ?_<;>intro _<;>try exact w9o)|fail
 all_goals repeat' first|exact w9g|((with_reducible apply J.step);rfl;((with_reducible apply(rF hN))<;>rfl))|((with_reducible apply J.step);rfl;((with_reducible apply(s_minE (hc:=hM)))<;>rfl))|refine w9E @rD ?_|refine w9E @rE ?_|refine w9x ?_|(refine w9c ?_ ?_<;>intro _<;>try exact w9o)|fail
 all_goals repeat' first|(refine CW.cut (c:=.region 14 _ _) [(2,.av (.pt true (hsR A O k n).cells)),(4,.av (.pt true [.nil,.nil,.str [],.int 0])),(6,.av (swS (w::[s,u]))),(7,.av (.int (7))),(8,.av (.int (1))),(9,.av (.sl true 1 [.int z0])),(72,.av (.bool false))] ?_ ?_)|exact w9g|refine w9x ?_|refine w9p (hD) ?_|refine w9p (hR) ?_|(refine w9c ?_ ?_<;>intro _<;>try exact w9o)|fail
 all_goals repeat' first|exact w9g|((with_reducible apply J.step);rfl;((with_reducible apply(rF hL))<;>rfl))|refine w9E @rD ?_|refine w9E @rE ?_|refine w9x ?_|(refine w9c ?_ ?_<;>intro _<;>try exact w9o)|fail
 all_goals repeat' first|((with_reducible refine w9i ?_);first|refine w9Jt 4 1 ?_|refine w9J2 3 0 2 ?_ ?_|refine w9J1 2 0 ?_|refine w9J1 2 2 ?_|refine w9J1 1 3 ?_|refine w9Jt 0 4 ?_|refine w9J0 ?_)|refine w9U 0 5 ?_|((with_reducible apply J.step);rfl;((with_reducible apply s_bldG)<;>(first|rfl|(solve|(repeat' (first|exact FillG.nil|(with_unfolding_all apply FillG.part rfl rfl rfl rfl rfl rfl rfl)))))))|refine w9x ?_|refine w9p (hR) ?_|refine w9p (hG) ?_|(refine w9c ?_ ?_<;>intro _<;>try exact w9o)|fail
 all_goals exact w9e
end
section
variable (A:List Ac) (O:List Dl) (k:Str) (n:Int) (A':List Ac) (O':List Dl) (k':Str) (n':Int)
theorem ao_build(line:Str)(hl:line.length≤5000)  (w:Str)(s u:Str)(hw:Xf.wg [] line=w::[s,u])(hK:kdF w=3)(hb:([u]:List Str).all nuB=true)(t m:Int)(hr:∀ x∈[t,m],0≤x∧x≤1000000000)(hG:FnSpec Sy.P 8 [hsR A O k n,dxA 3 (nuV u) s dl0] [hsR A O k n,dxA 3 (nuV u) s dl0] (.tup [hsR A' O' k' n',tdA t m,.int 0])):FnSpec Sy.P 53 [hsR A O k n,.str line] [hsR A O k n,.str line] (.tup [hsR A' O' k' n',.str (lsS [t,m])]):=by
 have hW:=ffn_spec line hl
 rw [hw] at hW
 have hwc:(w::[s,u]).length=3:=rfl
 have hwl:(w::[s,u]).length≤10010:=by omega
 have hN:nmF 3=1:=by decide
 have hL:lnF 3=2:=by decide
 have hM:min 1 ((((w::[s,u]).length:Nat):Int)-1)=1:=by simp only [List.length_cons,List.length_nil];omega
 have hD:=digits_ok [u] hb (by simp)
 simp only [List.map_cons,List.map_nil] at hD
 have hR:=row_spec [t,m] (by show 2≤1000;decide) hr
 generalize nuV u=z0 at *
 refine enT Tryz.func53 Tryz.ntmps53 fun v0=>?_
 repeat' first|(refine J.freezeO 6 rfl rfl (sh_map (g:=AV.str) (fun _=>rfl)) rfl ?_)|refine w9x ?_|refine w9p (hW) ?_|fail
 repeat' first|(refine CW.cut (c:=.region 4 _ _) [(2,.av (.pt true (hsR A O k n).cells)),(4,.av (.pt true [.nil,.nil,.str [],.int 0])),(6,.av (swS (w::[s,u]))),(7,.av (.int (3)))] ?_ ?_)|exact w9g|(refine CW.cut (c:=.region 5 _ _) [(2,.av (.pt true (hsR A O k n).cells)),(4,.av (.pt true [.nil,.nil,.str [],.int 0])),(6,.av (swS (w::[s,u]))),(7,.av (.int (3))),(8,.av (.int (1)))] ?_ ?_)|exact w9g|((with_reducible apply J.step);rfl;((with_reducible apply(rC hK))<;>rfl))|refine w9E @rA ?_|refine w9E @rB ?_|refine w9x ?_|fail
 all_goals repeat' first|exact w9g|((with_reducible apply J.step);rfl;((with_reducible apply(rF hN))<;>rfl))|((with_reducible apply J.step);rfl;((with_reducible apply(s_minE (hc:=hM)))<;>rfl))|refine w9E @rD ?_|refine w9E @rE ?_|refine w9x ?_|fail
 all_goals repeat' first|(refine CW.cut (c:=.region 14 _ _) [(2,.av (.pt true (hsR A O k n).cells)),(4,.av (.pt true [.nil,.nil,.str [],.int 0])),(6,.av (swS (w::[s,u]))),(7,.av (.int (3))),(8,.av (.int (1))),(9,.av (.sl true 1 [.int z0])),(72,.av (.bool false))] ?_ ?_)|exact w9g|refine w9x ?_|refine w9p (hD) ?_|refine w9p (hR) ?_|fail
 all_goals repeat' first|exact w9g|((with_reducible apply J.step);rfl;((with_reducible apply(rF hL))<;>rfl))|refine w9E @rD ?_|refine w9E @rE ?_|refine w9x ?_|fail
 all_goals repeat' first|((with_reducible refine w9i ?_);first|refine w9Jt 9 1 ?_|refine w9Jw 8 2 ?_|refine w9Jw 7 4 ?_|refine w9J3 6 0 3 5 ?_ ?_ ?_|refine w9J2 5 0 5 ?_ ?_|refine w9J2 5 0 3 ?_ ?_|refine w9J2 5 3 5 ?_ ?_|refine w9J2 4 0 6 ?_ ?_|refine w9J1 4 3 ?_|refine w9J1 4 5 ?_|refine w9J2 3 0 7 ?_ ?_|refine w9J1 3 6 ?_|refine w9J1 2 0 ?_|refine w9J1 2 7 ?_|refine w9J1 1 8 ?_|refine w9Jt 0 9 ?_|refine w9J0 ?_)|refine w9U 0 10 ?_|((with_reducible apply J.step);rfl;((with_reducible apply s_bldG)<;>(first|rfl|(solve|(repeat' (first|exact FillG.nil|(with_unfolding_all apply FillG.part rfl rfl rfl rfl rfl rfl rfl)))))))|refine w9x ?_|refine w9p (hR) ?_|refine w9p (hG) ?_|fail
 all_goals exact w9e
theorem ao_build_e(line:Str)(hl:line.length≤5000)  (w:Str)(s u:Str)(hw:Xf.wg [] line=w::[s,u])(hK:kdF w=3)(hb:([u]:List Str).all nuB=true)(t m e:Int)(he:0<e∧e≤100)(hG:FnSpec Sy.P 8 [hsR A O k n,dxA 3 (nuV u) s dl0] [hsR A O k n,dxA 3 (nuV u) s dl0] (.tup [hsR A' O' k' n',tdA t m,.int e])):FnSpec Sy.P 53 [hsR A O k n,.str line] [hsR A O k n,.str line] (.tup [hsR A' O' k' n',.str (rfS e)]):=by
 have hW:=ffn_spec line hl
 rw [hw] at hW
 have hwc:(w::[s,u]).length=3:=rfl
 have hwl:(w::[s,u]).length≤10010:=by omega
 have hN:nmF 3=1:=by decide
 have hL:lnF 3=2:=by decide
 have hM:min 1 ((((w::[s,u]).length:Nat):Int)-1)=1:=by simp only [List.length_cons,List.length_nil];omega
 have hD:=digits_ok [u] hb (by simp)
 simp only [List.map_cons,List.map_nil] at hD
 have hR:=refusal_spec e (by omega)
 generalize nuV u=z0 at *
 refine enT Tryz.func53 Tryz.ntmps53 fun v0=>?_
 repeat' first|(refine J.freezeO 6 rfl rfl (sh_map (g:=AV.str) (fun _=>rfl)) rfl ?_)|refine w9x ?_|refine w9p (hW) ?_|(refine w9c ?_ ?_<;>intro _<;>try exact w9o)|fail
 repeat' first|(refine CW.cut (c:=.region 4 _ _) [(2,.av (.pt true (hsR A O k n).cells)),(4,.av (.pt true [.nil,.nil,.str [],.int 0])),(6,.av (swS (w::[s,u]))),(7,.av (.int (3)))] ?_ ?_)|exact w9g|(refine CW.cut (c:=.region 5 _ _) [(2,.av (.pt true (hsR A O k n).cells)),(4,.av (.pt true [.nil,.nil,.str [],.int 0])),(6,.av (swS (w::[s,u]))),(7,.av (.int (3))),(8,.av (.int (1)))] ?_ ?_)|exact w9g|((with_reducible apply J.step);rfl;((with_reducible apply(rC hK))<;>rfl))|refine w9E @rA ?_|refine w9E @rB ?_|refine w9x ?_|(refine w9c ?_ ?_<;>intro _<;>try exact w9o)|fail
 all_goals repeat' first|exact w9g|((with_reducible apply J.step);rfl;((with_reducible apply(rF hN))<;>rfl))|((with_reducible apply J.step);rfl;((with_reducible apply(s_minE (hc:=hM)))<;>rfl))|refine w9E @rD ?_|refine w9E @rE ?_|refine w9x ?_|(refine w9c ?_ ?_<;>intro _<;>try exact w9o)|fail
 all_goals repeat' first|(refine CW.cut (c:=.region 14 _ _) [(2,.av (.pt true (hsR A O k n).cells)),(4,.av (.pt true [.nil,.nil,.str [],.int 0])),(6,.av (swS (w::[s,u]))),(7,.av (.int (3))),(8,.av (.int (1))),(9,.av (.sl true 1 [.int z0])),(72,.av (.bool false))] ?_ ?_)|exact w9g|refine w9x ?_|refine w9p (hD) ?_|refine w9p (hR) ?_|(refine w9c ?_ ?_<;>intro _<;>try exact w9o)|fail
 all_goals repeat' first|exact w9g|((with_reducible apply J.step);rfl;((with_reducible apply(rF hL))<;>rfl))|refine w9E @rD ?_|refine w9E @rE ?_|refine w9x ?_|(refine w9c ?_ ?_<;>intro _<;>try exact w9o)|fail
 all_goals repeat' first|((with_reducible refine w9i ?_);first|refine w9Jt 4 1 ?_|refine w9J2 3 0 2 ?_ ?_|refine w9J1 2 0 ?_|refine w9J1 2 2 ?_|refine w9J1 1 3 ?_|refine w9Jt 0 4 ?_|refine w9J0 ?_)|refine w9U 0 5 ?_|((with_reducible apply J.step);rfl;((with_reducible apply s_bldG)<;>(first|rfl|(solve|(repeat' (first|exact FillG.nil|(with_unfolding_all apply FillG.part rfl rfl rfl rfl rfl rfl rfl)))))))|refine w9x ?_|refine w9p (hR) ?_|refine w9p (hG) ?_|(refine w9c ?_ ?_<;>intro _<;>try exact w9o)|fail
 all_goals exact w9e
theorem ao_money(line:Str)(hl:line.length≤5000)  (w:Str)(s:Str)(hw:Xf.wg [] line=w::[s])(hK:kdF w=6)(hb:([]:List Str).all nuB=true)(t m:Int)(hr:∀ x∈[t,m],0≤x∧x≤1000000000)(hG:FnSpec Sy.P 8 [hsR A O k n,dxA 6 0 s dl0] [hsR A O k n,dxA 6 0 s dl0] (.tup [hsR A' O' k' n',tdA t m,.int 0])):FnSpec Sy.P 53 [hsR A O k n,.str line] [hsR A O k n,.str line] (.tup [hsR A' O' k' n',.str (lsS [t,m])]):=by
 have hW:=ffn_spec line hl
 rw [hw] at hW
 have hwc:(w::[s]).length=2:=rfl
 have hwl:(w::[s]).length≤10010:=by omega
 have hN:nmF 6=1:=by decide
 have hL:lnF 6=1:=by decide
 have hM:min 1 ((((w::[s]).length:Nat):Int)-1)=1:=by simp only [List.length_cons,List.length_nil];omega
 have hD:=digits_ok [] hb (by simp)
 simp only [List.map_cons,List.map_nil] at hD
 have hR:=row_spec [t,m] (by show 2≤1000;decide) hr
 refine enT Tryz.func53 Tryz.ntmps53 fun v0=>?_
 repeat' first|(refine J.freezeO 6 rfl rfl (sh_map (g:=AV.str) (fun _=>rfl)) rfl ?_)|refine w9x ?_|refine w9p (hW) ?_|fail
 repeat' first|(refine CW.cut (c:=.region 4 _ _) [(2,.av (.pt true (hsR A O k n).cells)),(4,.av (.pt true [.nil,.nil,.str [],.int 0])),(6,.av (swS (w::[s]))),(7,.av (.int (6)))] ?_ ?_)|exact w9g|(refine CW.cut (c:=.region 5 _ _) [(2,.av (.pt true (hsR A O k n).cells)),(4,.av (.pt true [.nil,.nil,.str [],.int 0])),(6,.av (swS (w::[s]))),(7,.av (.int (6))),(8,.av (.int (1)))] ?_ ?_)|exact w9g|((with_reducible apply J.step);rfl;((with_reducible apply(rC hK))<;>rfl))|refine w9E @rA ?_|refine w9E @rB ?_|refine w9x ?_|fail
 all_goals repeat' first|exact w9g|((with_reducible apply J.step);rfl;((with_reducible apply(rF hN))<;>rfl))|((with_reducible apply J.step);rfl;((with_reducible apply(s_minE (hc:=hM)))<;>rfl))|refine w9E @rD ?_|refine w9E @rE ?_|refine w9x ?_|fail
 all_goals repeat' first|(refine CW.cut (c:=.region 14 _ _) [(2,.av (.pt true (hsR A O k n).cells)),(4,.av (.pt true [.nil,.nil,.str [],.int 0])),(6,.av (swS (w::[s]))),(7,.av (.int (6))),(8,.av (.int (1))),(9,.av (.sl true 1 [])),(72,.av (.bool false))] ?_ ?_)|exact w9g|refine w9x ?_|refine w9p (hD) ?_|refine w9p (hR) ?_|fail
 all_goals repeat' first|exact w9g|((with_reducible apply J.step);rfl;((with_reducible apply(rF hL))<;>rfl))|refine w9E @rD ?_|refine w9E @rE ?_|refine w9x ?_|fail
 all_goals repeat' first|((with_reducible refine w9i ?_);first|refine w9Jt 9 1 ?_|refine w9Jw 8 2 ?_|refine w9Jw 7 4 ?_|refine w9J3 6 0 3 5 ?_ ?_ ?_|refine w9J2 5 0 5 ?_ ?_|refine w9J2 5 0 3 ?_ ?_|refine w9J2 5 3 5 ?_ ?_|refine w9J2 4 0 6 ?_ ?_|refine w9J1 4 3 ?_|refine w9J1 4 5 ?_|refine w9J2 3 0 7 ?_ ?_|refine w9J1 3 6 ?_|refine w9J1 2 0 ?_|refine w9J1 2 7 ?_|refine w9J1 1 8 ?_|refine w9Jt 0 9 ?_|refine w9J0 ?_)|refine w9U 0 10 ?_|((with_reducible apply J.step);rfl;((with_reducible apply s_bldG)<;>(first|rfl|(solve|(repeat' (first|exact FillG.nil|(with_unfolding_all apply FillG.part rfl rfl rfl rfl rfl rfl rfl)))))))|refine w9x ?_|refine w9p (hR) ?_|refine w9p (hG) ?_|fail
 all_goals exact w9e
theorem ao_money_e(line:Str)(hl:line.length≤5000)  (w:Str)(s:Str)(hw:Xf.wg [] line=w::[s])(hK:kdF w=6)(hb:([]:List Str).all nuB=true)(t m e:Int)(he:0<e∧e≤100)(hG:FnSpec Sy.P 8 [hsR A O k n,dxA 6 0 s dl0] [hsR A O k n,dxA 6 0 s dl0] (.tup [hsR A' O' k' n',tdA t m,.int e])):FnSpec Sy.P 53 [hsR A O k n,.str line] [hsR A O k n,.str line] (.tup [hsR A' O' k' n',.str (rfS e)]):=by
 have hW:=ffn_spec line hl
 rw [hw] at hW
 have hwc:(w::[s]).length=2:=rfl
 have hwl:(w::[s]).length≤10010:=by omega
 have hN:nmF 6=1:=by decide
 have hL:lnF 6=1:=by decide
 have hM:min 1 ((((w::[s]).length:Nat):Int)-1)=1:=by simp only [List.length_cons,List.length_nil];omega
 have hD:=digits_ok [] hb (by simp)
 simp only [List.map_cons,List.map_nil] at hD
 have hR:=refusal_spec e (by omega)
 refine enT Tryz.func53 Tryz.ntmps53 fun v0=>?_
 repeat' first|(refine J.freezeO 6 rfl rfl (sh_map (g:=AV.str) (fun _=>rfl)) rfl ?_)|refine w9x ?_|refine w9p (hW) ?_|(refine w9c ?_ ?_<;>intro _<;>try exact w9o)|fail
 repeat' first|(refine CW.cut (c:=.region 4 _ _) [(2,.av (.pt true (hsR A O k n).cells)),(4,.av (.pt true [.nil,.nil,.str [],.int 0])),(6,.av (swS (w::[s]))),(7,.av (.int (6)))] ?_ ?_)|exact w9g|(refine CW.cut (c:=.region 5 _ _) [(2,.av (.pt true (hsR A O k n).cells)),(4,.av (.pt true [.nil,.nil,.str [],.int 0])),(6,.av (swS (w::[s]))),(7,.av (.int (6))),(8,.av (.int (1)))] ?_ ?_)|exact w9g|((with_reducible apply J.step);rfl;((with_reducible apply(rC hK))<;>rfl))|refine w9E @rA ?_|refine w9E @rB ?_|refine w9x ?_|(refine w9c ?_ ?_<;>intro _<;>try exact w9o)|fail
 all_goals repeat' first|exact w9g|((with_reducible apply J.step);rfl;((with_reducible apply(rF hN))<;>rfl))|((with_reducible apply J.step);rfl;((with_reducible apply(s_minE (hc:=hM)))<;>rfl))|refine w9E @rD ?_|refine w9E @rE ?_|refine w9x ?_|(refine w9c ?_ ?_<;>intro _<;>try exact w9o)|fail
 all_goals repeat' first|(refine CW.cut (c:=.region 14 _ _) [(2,.av (.pt true (hsR A O k n).cells)),(4,.av (.pt true [.nil,.nil,.str [],.int 0])),(6,.av (swS (w::[s]))),(7,.av (.int (6))),(8,.av (.int (1))),(9,.av (.sl true 1 [])),(72,.av (.bool false))] ?_ ?_)|exact w9g|refine w9x ?_|refine w9p (hD) ?_|refine w9p (hR) ?_|(refine w9c ?_ ?_<;>intro _<;>try exact w9o)|fail
 all_goals repeat' first|exact w9g|((with_reducible apply J.step);rfl;((with_reducible apply(rF hL))<;>rfl))|refine w9E @rD ?_|refine w9E @rE ?_|refine w9x ?_|(refine w9c ?_ ?_<;>intro _<;>try exact w9o)|fail
 all_goals repeat' first|((with_reducible refine w9i ?_);first|refine w9Jt 4 1 ?_|refine w9J2 3 0 2 ?_ ?_|refine w9J1 2 0 ?_|refine w9J1 2 2 ?_|refine w9J1 1 3 ?_|refine w9Jt 0 4 ?_|refine w9J0 ?_)|refine w9U 0 5 ?_|((with_reducible apply J.step);rfl;((with_reducible apply s_bldG)<;>(first|rfl|(solve|(repeat' (first|exact FillG.nil|(with_unfolding_all apply FillG.part rfl rfl rfl rfl rfl rfl rfl)))))))|refine w9x ?_|refine w9p (hR) ?_|refine w9p (hG) ?_|(refine w9c ?_ ?_<;>intro _<;>try exact w9o)|fail
 all_goals exact w9e
end
end Go.Proofs.YtkkcnppgcnmikaaGreatDoor
