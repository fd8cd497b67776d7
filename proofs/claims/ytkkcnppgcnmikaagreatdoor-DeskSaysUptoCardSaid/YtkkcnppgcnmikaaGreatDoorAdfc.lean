/- The desk: deeds of a line, money, sync, crash. -/
import Derived.Test.YtkkcnppgcnmikaaGreatDoorAdc
namespace Go.Proofs.YtkkcnppgcnmikaaGreatDoor
open Go FM Go.Proofs
set_option maxRecDepth 10000
set_option maxHeartbeats 6400000
set_option linter.all false
section
variable (A:List Ac) (O:List Dl) (k:Str) (n:Int) (A':List Ac) (O':List Dl) (k':Str) (n':Int)
theorem deed_money(s:Str)(t m:Int)  (hr:∀ x∈[t,m],0≤x∧x≤1000000000)(hDo:FnSpec Sy.P 7 [hsV A O k n,dxA 6 0 s dl0] [hsV A' O' k' n',dxA 6 0 s dl0] (.tup [tdA t m,.int 0])):FnSpec Sy.P 94 [dkV A O k n,.str [109,111,110,101,121],swS [s]] [dkV A' O' k' n',.str [109,111,110,101,121],swS [s]] (.tup [.str (lsS [t,m]),.bool true]):=by
 have hM:=must_ok
 have hL:=listed_spec [t,m] (by show 2≤1000;decide) hr
 refine FnSpec.enter (S:=Sy) 1 Tryz.func94 rfl rfl rfl Tryz.ntmps94 rfl rfl rfl rfl fun v0=>?_
 repeat' first|((with_reducible refine w9i ?_);first|refine w9Jt 11 0 ?_|refine w9Jw 10 1 ?_|refine w9Jw 9 2 ?_|refine w9J3 8 3 4 9 ?_ ?_ ?_|refine w9J2 7 3 9 ?_ ?_|refine w9J2 7 3 4 ?_ ?_|refine w9J2 7 4 9 ?_ ?_|refine w9J2 6 5 9 ?_ ?_|refine w9J1 6 3 ?_|refine w9J1 6 4 ?_|refine w9Jt 5 6 ?_|refine w9J1 5 5 ?_|refine w9Jt 4 6 ?_|refine w9Jw 4 7 ?_|refine w9Jw 3 7 ?_|refine w9Jw 3 8 ?_|refine w9Jw 2 8 ?_|refine w9J1 2 9 ?_|refine w9J1 1 10 ?_|refine w9Jt 0 11 ?_|refine w9J0 ?_)|refine w9U 0 12 ?_|refine w9S @s_strEqT ?_|refine w9S @s_strEqF ?_|refine w9S @s_bld0 ?_|((with_reducible apply J.step);rfl;((with_reducible apply s_bldG)<;>(first|rfl|(solve|(repeat' (first|exact FillG.nil|(with_unfolding_all apply FillG.part rfl rfl rfl rfl rfl rfl rfl)))))))|((with_reducible apply J.step);rfl;((with_reducible apply s_ldFo)<;>(first|rfl|exact AV.noConfusion)))|refine w9x ?_|refine w9p (hL) ?_|refine w9f1 (hDo) ?_|refine w9p (hM) ?_|fail
 all_goals exact w9e
theorem deed_money_e(s:Str)(t m e:Int)(he:e≠0)  (hDo:FnSpec Sy.P 7 [hsV A O k n,dxA 6 0 s dl0] [hsV A' O' k' n',dxA 6 0 s dl0] (.tup [tdA t m,.int e])):FnDies Sy.P 94 [dkV A O k n,.str [109,111,110,101,121],swS [s]] [dkV A' O' k' n',.str [109,111,110,101,121],swS [s]] (refd e):=by
 have hM:=must_dies e he
 refine FnDies.enter1 (S:=Sy) Tryz.func94 rfl rfl Tryz.ntmps94 rfl rfl fun v0=>?_
 repeat' first|((with_reducible refine w9i ?_);first|refine w9Jt 11 0 ?_|refine w9Jw 10 1 ?_|refine w9Jw 9 2 ?_|refine w9J3 8 3 4 9 ?_ ?_ ?_|refine w9J2 7 3 9 ?_ ?_|refine w9J2 7 3 4 ?_ ?_|refine w9J2 7 4 9 ?_ ?_|refine w9J2 6 5 9 ?_ ?_|refine w9J1 6 3 ?_|refine w9J1 6 4 ?_|refine w9Jt 5 6 ?_|refine w9J1 5 5 ?_|refine w9Jt 4 6 ?_|refine w9Jw 4 7 ?_|refine w9Jw 3 7 ?_|refine w9Jw 3 8 ?_|refine w9Jw 2 8 ?_|refine w9J1 2 9 ?_|refine w9J1 1 10 ?_|refine w9Jt 0 11 ?_|refine w9J0 ?_)|refine w9U 0 12 ?_|refine w9S @s_strEqT ?_|refine w9S @s_strEqF ?_|refine w9S @s_bld0 ?_|((with_reducible apply J.step);rfl;((with_reducible apply s_bldG)<;>(first|rfl|(solve|(repeat' (first|exact FillG.nil|(with_unfolding_all apply FillG.part rfl rfl rfl rfl rfl rfl rfl)))))))|((with_reducible apply J.step);rfl;((with_reducible apply s_ldFo)<;>(first|rfl|exact AV.noConfusion)))|refine w9x ?_|refine w9f1 (hDo) ?_|(exact J.die1 hM rfl (.cons (.pl rfl rfl) .nil) rfl)
 all_goals first|(exfalso;omega)|(exfalso;contradiction)|skip
 all_goals done
theorem deed_sync  (t m:Int)   (hDo:FnSpec Sy.P 7 [hsV A O k n,dxA 4 0 [] dl0] [hsV A' O' k' n',dxA 4 0 [] dl0] (.tup [tdA t m,.int 0])):FnSpec Sy.P 94 [dkV A O k n,.str [115,121,110,99],swS []] [dkV A' O' k' n',.str [115,121,110,99],swS []] (.tup [.str [111,107],.bool true]):=by
 have hM:=must_ok
 refine FnSpec.enter (S:=Sy) 1 Tryz.func94 rfl rfl rfl Tryz.ntmps94 rfl rfl rfl rfl fun v0=>?_
 repeat' first|((with_reducible refine w9i ?_);first|refine w9Jt 11 0 ?_|refine w9Jw 10 1 ?_|refine w9Jw 9 2 ?_|refine w9J3 8 3 4 9 ?_ ?_ ?_|refine w9J2 7 3 9 ?_ ?_|refine w9J2 7 3 4 ?_ ?_|refine w9J2 7 4 9 ?_ ?_|refine w9J2 6 5 9 ?_ ?_|refine w9J1 6 3 ?_|refine w9J1 6 4 ?_|refine w9Jt 5 6 ?_|refine w9J1 5 5 ?_|refine w9Jt 4 6 ?_|refine w9Jw 4 7 ?_|refine w9Jw 3 7 ?_|refine w9Jw 3 8 ?_|refine w9Jw 2 8 ?_|refine w9J1 2 9 ?_|refine w9J1 1 10 ?_|refine w9Jt 0 11 ?_|refine w9J0 ?_)|refine w9U 0 12 ?_|refine w9S @s_strEqT ?_|refine w9S @s_strEqF ?_|refine w9S @s_bld0 ?_|((with_reducible apply J.step);rfl;((with_reducible apply s_bldG)<;>(first|rfl|(solve|(repeat' (first|exact FillG.nil|(with_unfolding_all apply FillG.part rfl rfl rfl rfl rfl rfl rfl)))))))|((with_reducible apply J.step);rfl;((with_reducible apply s_ldFo)<;>(first|rfl|exact AV.noConfusion)))|refine w9x ?_|refine w9f1 (hDo) ?_|refine w9p (hM) ?_|fail
 all_goals exact w9e
theorem deed_sync_e  (t m e:Int) (he:e≠0)  (hDo:FnSpec Sy.P 7 [hsV A O k n,dxA 4 0 [] dl0] [hsV A' O' k' n',dxA 4 0 [] dl0] (.tup [tdA t m,.int e])):FnDies Sy.P 94 [dkV A O k n,.str [115,121,110,99],swS []] [dkV A' O' k' n',.str [115,121,110,99],swS []] (refd e):=by
 have hM:=must_dies e he
 refine FnDies.enter1 (S:=Sy) Tryz.func94 rfl rfl Tryz.ntmps94 rfl rfl fun v0=>?_
 repeat' first|((with_reducible refine w9i ?_);first|refine w9Jt 11 0 ?_|refine w9Jw 10 1 ?_|refine w9Jw 9 2 ?_|refine w9J3 8 3 4 9 ?_ ?_ ?_|refine w9J2 7 3 9 ?_ ?_|refine w9J2 7 3 4 ?_ ?_|refine w9J2 7 4 9 ?_ ?_|refine w9J2 6 5 9 ?_ ?_|refine w9J1 6 3 ?_|refine w9J1 6 4 ?_|refine w9Jt 5 6 ?_|refine w9J1 5 5 ?_|refine w9Jt 4 6 ?_|refine w9Jw 4 7 ?_|refine w9Jw 3 7 ?_|refine w9Jw 3 8 ?_|refine w9Jw 2 8 ?_|refine w9J1 2 9 ?_|refine w9J1 1 10 ?_|refine w9Jt 0 11 ?_|refine w9J0 ?_)|refine w9U 0 12 ?_|refine w9S @s_strEqT ?_|refine w9S @s_strEqF ?_|refine w9S @s_bld0 ?_|((with_reducible apply J.step);rfl;((with_reducible apply s_bldG)<;>(first|rfl|(solve|(repeat' (first|exact FillG.nil|(with_unfolding_all apply FillG.part rfl rfl rfl rfl rfl rfl rfl)))))))|((with_reducible apply J.step);rfl;((with_reducible apply s_ldFo)<;>(first|rfl|exact AV.noConfusion)))|refine w9x ?_|refine w9f1 (hDo) ?_|(exact J.die1 hM rfl (.cons (.pl rfl rfl) .nil) rfl)
 all_goals first|(exfalso;omega)|(exfalso;contradiction)|skip
 all_goals done
theorem deed_crash(u:Str)(t m:Int)(hu:nuB u=true)  (hDo:FnSpec Sy.P 7 [hsV A O k n,dxA 5 (nuV u) [] dl0] [hsV A' O' k' n',dxA 5 (nuV u) [] dl0] (.tup [tdA t m,.int 0])):FnSpec Sy.P 94 [dkV A O k n,.str [99,114,97,115,104],swS [u]] [dkV A' O' k' n',.str [99,114,97,115,104],swS [u]] (.tup [.str [111,107],.bool true]):=by
 have hM:=must_ok
 have hN:=number_spec u hu
 generalize nuV u=z at *
 refine FnSpec.enter (S:=Sy) 1 Tryz.func94 rfl rfl rfl Tryz.ntmps94 rfl rfl rfl rfl fun v0=>?_
 repeat' first|((with_reducible refine w9i ?_);first|refine w9Jt 11 0 ?_|refine w9Jw 10 1 ?_|refine w9Jw 9 2 ?_|refine w9J3 8 3 4 9 ?_ ?_ ?_|refine w9J2 7 3 9 ?_ ?_|refine w9J2 7 3 4 ?_ ?_|refine w9J2 7 4 9 ?_ ?_|refine w9J2 6 5 9 ?_ ?_|refine w9J1 6 3 ?_|refine w9J1 6 4 ?_|refine w9Jt 5 6 ?_|refine w9J1 5 5 ?_|refine w9Jt 4 6 ?_|refine w9Jw 4 7 ?_|refine w9Jw 3 7 ?_|refine w9Jw 3 8 ?_|refine w9Jw 2 8 ?_|refine w9J1 2 9 ?_|refine w9J1 1 10 ?_|refine w9Jt 0 11 ?_|refine w9J0 ?_)|refine w9U 0 12 ?_|refine w9S @s_strEqT ?_|refine w9S @s_strEqF ?_|refine w9S @s_bld0 ?_|((with_reducible apply J.step);rfl;((with_reducible apply s_bldG)<;>(first|rfl|(solve|(repeat' (first|exact FillG.nil|(with_unfolding_all apply FillG.part rfl rfl rfl rfl rfl rfl rfl)))))))|((with_reducible apply J.step);rfl;((with_reducible apply s_ldFo)<;>(first|rfl|exact AV.noConfusion)))|refine w9x ?_|refine w9p (hN) ?_|refine w9f1 (hDo) ?_|refine w9p (hM) ?_|fail
 all_goals exact w9e
theorem deed_crash_e(u:Str)(t m e:Int)(he:e≠0)(hu:nuB u=true)(hDo:FnSpec Sy.P 7 [hsV A O k n,dxA 5 (nuV u) [] dl0] [hsV A' O' k' n',dxA 5 (nuV u) [] dl0] (.tup [tdA t m,.int e])):FnDies Sy.P 94 [dkV A O k n,.str [99,114,97,115,104],swS [u]] [dkV A' O' k' n',.str [99,114,97,115,104],swS [u]] (refd e):=by
 have hM:=must_dies e he
 have hN:=number_spec u hu
 generalize nuV u=z at *
 refine FnDies.enter1 (S:=Sy) Tryz.func94 rfl rfl Tryz.ntmps94 rfl rfl fun v0=>?_
 repeat' first|((with_reducible refine w9i ?_);first|refine w9Jt 11 0 ?_|refine w9Jw 10 1 ?_|refine w9Jw 9 2 ?_|refine w9J3 8 3 4 9 ?_ ?_ ?_|refine w9J2 7 3 9 ?_ ?_|refine w9J2 7 3 4 ?_ ?_|refine w9J2 7 4 9 ?_ ?_|refine w9J2 6 5 9 ?_ ?_|refine w9J1 6 3 ?_|refine w9J1 6 4 ?_|refine w9Jt 5 6 ?_|refine w9J1 5 5 ?_|refine w9Jt 4 6 ?_|refine w9Jw 4 7 ?_|refine w9Jw 3 7 ?_|refine w9Jw 3 8 ?_|refine w9Jw 2 8 ?_|refine w9J1 2 9 ?_|refine w9J1 1 10 ?_|refine w9Jt 0 11 ?_|refine w9J0 ?_)|refine w9U 0 12 ?_|refine w9S @s_strEqT ?_|refine w9S @s_strEqF ?_|refine w9S @s_bld0 ?_|((with_reducible apply J.step);rfl;((with_reducible apply s_bldG)<;>(first|rfl|(solve|(repeat' (first|exact FillG.nil|(with_unfolding_all apply FillG.part rfl rfl rfl rfl rfl rfl rfl)))))))|((with_reducible apply J.step);rfl;((with_reducible apply s_ldFo)<;>(first|rfl|exact AV.noConfusion)))|refine w9x ?_|refine w9p (hN) ?_|refine w9f1 (hDo) ?_|(exact J.die1 hM rfl (.cons (.pl rfl rfl) .nil) rfl)
 all_goals first|(exfalso;omega)|(exfalso;contradiction)|skip
 all_goals done
theorem deed_crash_d(u:Str)(hu:nuB u=false)(hs:u.length≤9223372036854775807):FnDies Sy.P 94 [dkV A O k n,.str [99,114,97,115,104],swS [u]] [dkV A O k n,.str [99,114,97,115,104],swS [u]] (refd 12):=by
 have hN:=number_dies u hu hs
 refine FnDies.enter1 (S:=Sy) Tryz.func94 rfl rfl Tryz.ntmps94 rfl rfl fun v0=>?_
 repeat' first|refine w9U 0 12 ?_|refine w9S @s_strEqT ?_|refine w9S @s_strEqF ?_|refine w9S @s_bld0 ?_|((with_reducible apply J.step);rfl;((with_reducible apply s_ldFo)<;>(first|rfl|exact AV.noConfusion)))|refine w9x ?_|(exact J.die1 hN rfl (.cons (.pl rfl rfl) .nil) rfl)
 all_goals first|(exfalso;omega)|(exfalso;contradiction)|skip
 all_goals done
end
end Go.Proofs.YtkkcnppgcnmikaaGreatDoor
