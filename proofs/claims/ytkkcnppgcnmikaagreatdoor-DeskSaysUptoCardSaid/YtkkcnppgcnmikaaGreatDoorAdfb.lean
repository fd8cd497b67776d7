/- The desk: deeds of a line, drop. -/
import Derived.Test.YtkkcnppgcnmikaaGreatDoorAdc
namespace Go.Proofs.YtkkcnppgcnmikaaGreatDoor
open Go FM Go.Proofs
set_option maxRecDepth 10000
set_option maxHeartbeats 6400000
set_option linter.all false
section
variable (A:List Ac) (O:List Dl) (k:Str) (n:Int) (A':List Ac) (O':List Dl) (k':Str) (n':Int)
theorem deed_drop(s u:Str)(t m:Int)(hu:nuB u=true)  (hDo:FnSpec Sy.P 7 [hsV A O k n,dxA 7 (nuV u) s dl0] [hsV A' O' k' n',dxA 7 (nuV u) s dl0] (.tup [tdA t m,.int 0])):FnSpec Sy.P 94 [dkV A O k n,.str [100,114,111,112],swS [s,u]] [dkV A' O' k' n',.str [100,114,111,112],swS [s,u]] (.tup [.str [111,107],.bool true]):=by
 have hM:=must_ok
 have hN:=number_spec u hu
 generalize nuV u=z at *
 refine FnSpec.enter (S:=Sy) 1 Tryz.func94 rfl rfl rfl Tryz.ntmps94 rfl rfl rfl rfl fun v0=>?_
 repeat' first|((with_reducible refine w9i ?_);first|refine w9Jt 8 0 ?_|refine w9Jt 7 3 ?_|refine w9Jw 6 1 ?_|refine w9Jw 5 4 ?_|refine w9J2 4 2 5 ?_ ?_|refine w9J2 3 2 6 ?_ ?_|refine w9J1 3 5 ?_|refine w9J1 2 2 ?_|refine w9J1 2 6 ?_|refine w9J1 1 7 ?_|refine w9J1 0 8 ?_|refine w9J0 ?_|refine w9Jt 11 0 ?_|refine w9Jw 10 1 ?_|refine w9Jw 9 2 ?_|refine w9J3 8 3 4 9 ?_ ?_ ?_|refine w9J2 7 3 9 ?_ ?_|refine w9J2 7 3 4 ?_ ?_|refine w9J2 7 4 9 ?_ ?_|refine w9J2 6 5 9 ?_ ?_|refine w9J1 6 3 ?_|refine w9J1 6 4 ?_|refine w9Jt 5 6 ?_|refine w9J1 5 5 ?_|refine w9Jt 4 6 ?_|refine w9Jw 4 7 ?_|refine w9Jw 3 7 ?_|refine w9Jw 3 8 ?_|refine w9Jw 2 8 ?_|refine w9J1 2 9 ?_|refine w9J1 1 10 ?_|refine w9Jt 0 11 ?_|refine w9J0 ?_)|refine w9U 0 9 ?_|refine w9U 0 12 ?_|refine w9S @s_strEqT ?_|refine w9S @s_strEqF ?_|refine w9S @s_bld0 ?_|((with_reducible apply J.step);rfl;((with_reducible apply s_bldG)<;>(first|rfl|(solve|(repeat' (first|exact FillG.nil|(with_unfolding_all apply FillG.part rfl rfl rfl rfl rfl rfl rfl)))))))|((with_reducible apply J.step);rfl;((with_reducible apply s_ldFo)<;>(first|rfl|exact AV.noConfusion)))|refine w9x ?_|refine w9p (hN) ?_|refine w9f1 (hDo) ?_|refine w9p (hM) ?_|fail
 all_goals exact w9e
theorem deed_drop_e(s u:Str)(t m e:Int)(he:e≠0)(hu:nuB u=true)(hDo:FnSpec Sy.P 7 [hsV A O k n,dxA 7 (nuV u) s dl0] [hsV A' O' k' n',dxA 7 (nuV u) s dl0] (.tup [tdA t m,.int e])):FnDies Sy.P 94 [dkV A O k n,.str [100,114,111,112],swS [s,u]] [dkV A' O' k' n',.str [100,114,111,112],swS [s,u]] (refd e):=by
 have hM:=must_dies e he
 have hN:=number_spec u hu
 generalize nuV u=z at *
 refine FnDies.enter1 (S:=Sy) Tryz.func94 rfl rfl Tryz.ntmps94 rfl rfl fun v0=>?_
 repeat' first|((with_reducible refine w9i ?_);first|refine w9Jt 8 0 ?_|refine w9Jt 7 3 ?_|refine w9Jw 6 1 ?_|refine w9Jw 5 4 ?_|refine w9J2 4 2 5 ?_ ?_|refine w9J2 3 2 6 ?_ ?_|refine w9J1 3 5 ?_|refine w9J1 2 2 ?_|refine w9J1 2 6 ?_|refine w9J1 1 7 ?_|refine w9J1 0 8 ?_|refine w9J0 ?_|refine w9Jt 11 0 ?_|refine w9Jw 10 1 ?_|refine w9Jw 9 2 ?_|refine w9J3 8 3 4 9 ?_ ?_ ?_|refine w9J2 7 3 9 ?_ ?_|refine w9J2 7 3 4 ?_ ?_|refine w9J2 7 4 9 ?_ ?_|refine w9J2 6 5 9 ?_ ?_|refine w9J1 6 3 ?_|refine w9J1 6 4 ?_|refine w9Jt 5 6 ?_|refine w9J1 5 5 ?_|refine w9Jt 4 6 ?_|refine w9Jw 4 7 ?_|refine w9Jw 3 7 ?_|refine w9Jw 3 8 ?_|refine w9Jw 2 8 ?_|refine w9J1 2 9 ?_|refine w9J1 1 10 ?_|refine w9Jt 0 11 ?_|refine w9J0 ?_)|refine w9U 0 9 ?_|refine w9U 0 12 ?_|refine w9S @s_strEqT ?_|refine w9S @s_strEqF ?_|refine w9S @s_bld0 ?_|((with_reducible apply J.step);rfl;((with_reducible apply s_bldG)<;>(first|rfl|(solve|(repeat' (first|exact FillG.nil|(with_unfolding_all apply FillG.part rfl rfl rfl rfl rfl rfl rfl)))))))|((with_reducible apply J.step);rfl;((with_reducible apply s_ldFo)<;>(first|rfl|exact AV.noConfusion)))|refine w9x ?_|refine w9p (hN) ?_|refine w9f1 (hDo) ?_|(exact J.die1 hM rfl (.cons (.pl rfl rfl) .nil) rfl)
 all_goals first|(exfalso;omega)|(exfalso;contradiction)|skip
 all_goals done
theorem deed_drop_d(s u:Str)(hu:nuB u=false)(hs:u.length≤9223372036854775807):FnDies Sy.P 94 [dkV A O k n,.str [100,114,111,112],swS [s,u]] [dkV A O k n,.str [100,114,111,112],swS [s,u]] (refd 12):=by
 have hN:=number_dies u hu hs
 refine FnDies.enter1 (S:=Sy) Tryz.func94 rfl rfl Tryz.ntmps94 rfl rfl fun v0=>?_
 repeat' first|((with_reducible refine w9i ?_);first|refine w9Jt 8 0 ?_|refine w9Jt 7 3 ?_|refine w9Jw 6 1 ?_|refine w9Jw 5 4 ?_|refine w9J2 4 2 5 ?_ ?_|refine w9J2 3 2 6 ?_ ?_|refine w9J1 3 5 ?_|refine w9J1 2 2 ?_|refine w9J1 2 6 ?_|refine w9J1 1 7 ?_|refine w9J1 0 8 ?_|refine w9J0 ?_|refine w9Jt 11 0 ?_|refine w9Jw 10 1 ?_|refine w9Jw 9 2 ?_|refine w9J3 8 3 4 9 ?_ ?_ ?_|refine w9J2 7 3 9 ?_ ?_|refine w9J2 7 3 4 ?_ ?_|refine w9J2 7 4 9 ?_ ?_|refine w9J2 6 5 9 ?_ ?_|refine w9J1 6 3 ?_|refine w9J1 6 4 ?_|refine w9Jt 5 6 ?_|refine w9J1 5 5 ?_|refine w9Jt 4 6 ?_|refine w9Jw 4 7 ?_|refine w9Jw 3 7 ?_|refine w9Jw 3 8 ?_|refine w9Jw 2 8 ?_|refine w9J1 2 9 ?_|refine w9J1 1 10 ?_|refine w9Jt 0 11 ?_|refine w9J0 ?_)|refine w9U 0 9 ?_|refine w9U 0 12 ?_|refine w9S @s_strEqT ?_|refine w9S @s_strEqF ?_|refine w9S @s_bld0 ?_|((with_reducible apply J.step);rfl;((with_reducible apply s_ldFo)<;>(first|rfl|exact AV.noConfusion)))|refine w9x ?_|(exact J.die1 hN rfl (.cons (.pl rfl rfl) .nil) rfl)
 all_goals first|(exfalso;omega)|(exfalso;contradiction)|skip
 all_goals done
end
end Go.Proofs.YtkkcnppgcnmikaaGreatDoor
