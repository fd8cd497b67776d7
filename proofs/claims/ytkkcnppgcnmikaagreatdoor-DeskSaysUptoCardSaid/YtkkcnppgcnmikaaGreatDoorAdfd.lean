/- The desk: deeds of a line, offer. -/
import Derived.Test.YtkkcnppgcnmikaaGreatDoorAdc
namespace Go.Proofs.YtkkcnppgcnmikaaGreatDoor
open Go FM Go.Proofs
set_option maxRecDepth 10000
set_option maxHeartbeats 6400000
set_option linter.all false
section
variable (A:List Ac) (O:List Dl) (k:Str) (n:Int) (A':List Ac) (O':List Dl) (k':Str) (n':Int)
theorem deed_offer(s s2 u1 u2 u3 u4:Str)(t m:Int)(hu:[u1,u2,u3,u4].all nuB=true)  (hDo:FnSpec Sy.P 7 [hsV A O k n,dxA 2 0 [] (s,s2,nuV u1,nuV u2,nuV u3,nuV u4,())] [hsV A' O' k' n',dxA 2 0 [] (s,s2,nuV u1,nuV u2,nuV u3,nuV u4,())] (.tup [tdA t m,.int 0])):FnSpec Sy.P 94 [dkV A O k n,.str [111,102,102,101,114],swS [s,s2,u1,u2,u3,u4]] [dkV A' O' k' n',.str [111,102,102,101,114],swS [s,s2,u1,u2,u3,u4]] (.tup [.str [111,107],.bool true]):=by
 have hM:=must_ok
 have hN:=numbers_spec [u1,u2,u3,u4] hu (by show 4≤1000000;decide)
 simp only [List.map_cons,List.map_nil] at hN
 generalize nuV u1=z1 at *
 generalize nuV u2=z2 at *
 generalize nuV u3=z3 at *
 generalize nuV u4=z4 at *
 refine FnSpec.enter (S:=Sy) 1 Tryz.func94 rfl rfl rfl Tryz.ntmps94 rfl rfl rfl rfl fun v0=>?_
 repeat' first|((with_reducible refine w9i ?_);first|refine w9J1 0 20 ?_|refine w9J0 ?_|refine w9Jt 11 0 ?_|refine w9Jw 10 1 ?_|refine w9Jw 9 2 ?_|refine w9J3 8 3 4 9 ?_ ?_ ?_|refine w9J2 7 3 9 ?_ ?_|refine w9J2 7 3 4 ?_ ?_|refine w9J2 7 4 9 ?_ ?_|refine w9J2 6 5 9 ?_ ?_|refine w9J1 6 3 ?_|refine w9J1 6 4 ?_|refine w9Jt 5 6 ?_|refine w9J1 5 5 ?_|refine w9Jt 4 6 ?_|refine w9Jw 4 7 ?_|refine w9Jw 3 7 ?_|refine w9Jw 3 8 ?_|refine w9Jw 2 8 ?_|refine w9J1 2 9 ?_|refine w9J1 1 10 ?_|refine w9Jt 0 11 ?_|refine w9J0 ?_)|refine w9U 20 1 ?_|refine w9U 0 12 ?_|refine w9S @s_strEqT ?_|refine w9S @s_strEqF ?_|refine w9S @s_bld0 ?_|((with_reducible apply J.step);rfl;((with_reducible apply s_bldG)<;>(first|rfl|(solve|(repeat' (first|exact FillG.nil|(with_unfolding_all apply FillG.part rfl rfl rfl rfl rfl rfl rfl)))))))|((with_reducible apply J.step);rfl;((with_reducible apply s_ldFo)<;>(first|rfl|exact AV.noConfusion)))|refine w9x ?_|refine w9p (hN) ?_|refine w9f1 (hDo) ?_|refine w9p (hM) ?_|fail
 all_goals exact w9e
theorem deed_offer_e(s s2 u1 u2 u3 u4:Str)(t m e:Int)(he:e≠0)(hu:[u1,u2,u3,u4].all nuB=true)(hDo:FnSpec Sy.P 7 [hsV A O k n,dxA 2 0 [] (s,s2,nuV u1,nuV u2,nuV u3,nuV u4,())] [hsV A' O' k' n',dxA 2 0 [] (s,s2,nuV u1,nuV u2,nuV u3,nuV u4,())] (.tup [tdA t m,.int e])):FnDies Sy.P 94 [dkV A O k n,.str [111,102,102,101,114],swS [s,s2,u1,u2,u3,u4]] [dkV A' O' k' n',.str [111,102,102,101,114],swS [s,s2,u1,u2,u3,u4]] (refd e):=by
 have hM:=must_dies e he
 have hN:=numbers_spec [u1,u2,u3,u4] hu (by show 4≤1000000;decide)
 simp only [List.map_cons,List.map_nil] at hN
 generalize nuV u1=z1 at *
 generalize nuV u2=z2 at *
 generalize nuV u3=z3 at *
 generalize nuV u4=z4 at *
 refine FnDies.enter1 (S:=Sy) Tryz.func94 rfl rfl Tryz.ntmps94 rfl rfl fun v0=>?_
 repeat' first|((with_reducible refine w9i ?_);first|refine w9J1 0 20 ?_|refine w9J0 ?_|refine w9Jt 11 0 ?_|refine w9Jw 10 1 ?_|refine w9Jw 9 2 ?_|refine w9J3 8 3 4 9 ?_ ?_ ?_|refine w9J2 7 3 9 ?_ ?_|refine w9J2 7 3 4 ?_ ?_|refine w9J2 7 4 9 ?_ ?_|refine w9J2 6 5 9 ?_ ?_|refine w9J1 6 3 ?_|refine w9J1 6 4 ?_|refine w9Jt 5 6 ?_|refine w9J1 5 5 ?_|refine w9Jt 4 6 ?_|refine w9Jw 4 7 ?_|refine w9Jw 3 7 ?_|refine w9Jw 3 8 ?_|refine w9Jw 2 8 ?_|refine w9J1 2 9 ?_|refine w9J1 1 10 ?_|refine w9Jt 0 11 ?_|refine w9J0 ?_)|refine w9U 20 1 ?_|refine w9U 0 12 ?_|refine w9S @s_strEqT ?_|refine w9S @s_strEqF ?_|refine w9S @s_bld0 ?_|((with_reducible apply J.step);rfl;((with_reducible apply s_bldG)<;>(first|rfl|(solve|(repeat' (first|exact FillG.nil|(with_unfolding_all apply FillG.part rfl rfl rfl rfl rfl rfl rfl)))))))|((with_reducible apply J.step);rfl;((with_reducible apply s_ldFo)<;>(first|rfl|exact AV.noConfusion)))|refine w9x ?_|refine w9p (hN) ?_|refine w9f1 (hDo) ?_|(exact J.die1 hM rfl (.cons (.pl rfl rfl) .nil) rfl)
 all_goals first|(exfalso;omega)|(exfalso;contradiction)|skip
 all_goals done
theorem deed_offer_d(s s2 u1 u2 u3 u4:Str)(hu:[u1,u2,u3,u4].all nuB=false)(hs:∀ s∈[u1,u2,u3,u4],s.length≤9223372036854775807):FnDies Sy.P 94 [dkV A O k n,.str [111,102,102,101,114],swS [s,s2,u1,u2,u3,u4]] [dkV A O k n,.str [111,102,102,101,114],swS [s,s2,u1,u2,u3,u4]] (refd 12):=by
 have hN:=numbers_dies [u1,u2,u3,u4] hu (by show 4≤1000000;decide) hs
 refine FnDies.enter1 (S:=Sy) Tryz.func94 rfl rfl Tryz.ntmps94 rfl rfl fun v0=>?_
 repeat' first|refine w9S @s_strEqT ?_|refine w9S @s_strEqF ?_|refine w9S @s_bld0 ?_|((with_reducible apply J.step);rfl;((with_reducible apply s_ldFo)<;>(first|rfl|exact AV.noConfusion)))|refine w9x ?_|(exact J.die1 hN rfl (.cons (.pl rfl rfl) .nil) rfl)
 all_goals first|(exfalso;omega)|(exfalso;contradiction)|skip
 all_goals done
end
section
variable (A:List Ac) (O:List Dl) (k:Str) (n:Int) (A':List Ac) (O':List Dl) (k':Str) (n':Int)
theorem deed_non_open(l:List Str)(h:l.length≠2):FnSpec Sy.P 94 [dkV A O k n,.str [111,112,101,110],swS l] [dkV A O k n,.str [111,112,101,110],swS l] (.tup [.str [],.bool false]):=by
 refine FnSpec.enter (S:=Sy) 1 Tryz.func94 rfl rfl rfl Tryz.ntmps94 rfl rfl rfl rfl fun v0=>?_
 repeat' first|refine w9S @s_strEqT ?_|((with_reducible apply J.step);rfl;((with_reducible apply s_strEqF)<;>(first|rfl|assumption)))|refine w9S @s_bld0 ?_|refine w9x ?_|(refine w9c ?_ ?_<;>intro _<;>try exact w9o)|fail
 all_goals exact w9e
theorem deed_non_offer(l:List Str)(h:l.length≠6):FnSpec Sy.P 94 [dkV A O k n,.str [111,102,102,101,114],swS l] [dkV A O k n,.str [111,102,102,101,114],swS l] (.tup [.str [],.bool false]):=by
 refine FnSpec.enter (S:=Sy) 1 Tryz.func94 rfl rfl rfl Tryz.ntmps94 rfl rfl rfl rfl fun v0=>?_
 repeat' first|refine w9S @s_strEqT ?_|((with_reducible apply J.step);rfl;((with_reducible apply s_strEqF)<;>(first|rfl|assumption)))|refine w9S @s_bld0 ?_|refine w9x ?_|(refine w9c ?_ ?_<;>intro _<;>try exact w9o)|fail
 all_goals exact w9e
theorem deed_non_build(l:List Str)(h:l.length≠2):FnSpec Sy.P 94 [dkV A O k n,.str [98,117,105,108,100],swS l] [dkV A O k n,.str [98,117,105,108,100],swS l] (.tup [.str [],.bool false]):=by
 refine FnSpec.enter (S:=Sy) 1 Tryz.func94 rfl rfl rfl Tryz.ntmps94 rfl rfl rfl rfl fun v0=>?_
 repeat' first|refine w9S @s_strEqT ?_|((with_reducible apply J.step);rfl;((with_reducible apply s_strEqF)<;>(first|rfl|assumption)))|refine w9S @s_bld0 ?_|refine w9x ?_|(refine w9c ?_ ?_<;>intro _<;>try exact w9o)|fail
 all_goals exact w9e
theorem deed_non_drop(l:List Str)(h:l.length≠2):FnSpec Sy.P 94 [dkV A O k n,.str [100,114,111,112],swS l] [dkV A O k n,.str [100,114,111,112],swS l] (.tup [.str [],.bool false]):=by
 refine FnSpec.enter (S:=Sy) 1 Tryz.func94 rfl rfl rfl Tryz.ntmps94 rfl rfl rfl rfl fun v0=>?_
 repeat' first|refine w9S @s_strEqT ?_|((with_reducible apply J.step);rfl;((with_reducible apply s_strEqF)<;>(first|rfl|assumption)))|refine w9S @s_bld0 ?_|refine w9x ?_|(refine w9c ?_ ?_<;>intro _<;>try exact w9o)|fail
 all_goals exact w9e
theorem deed_non_money(l:List Str)(h:l.length≠1):FnSpec Sy.P 94 [dkV A O k n,.str [109,111,110,101,121],swS l] [dkV A O k n,.str [109,111,110,101,121],swS l] (.tup [.str [],.bool false]):=by
 refine FnSpec.enter (S:=Sy) 1 Tryz.func94 rfl rfl rfl Tryz.ntmps94 rfl rfl rfl rfl fun v0=>?_
 repeat' first|refine w9S @s_strEqT ?_|((with_reducible apply J.step);rfl;((with_reducible apply s_strEqF)<;>(first|rfl|assumption)))|refine w9S @s_bld0 ?_|refine w9x ?_|(refine w9c ?_ ?_<;>intro _<;>try exact w9o)|fail
 all_goals exact w9e
theorem deed_non_sync(l:List Str)(h:l.length≠0):FnSpec Sy.P 94 [dkV A O k n,.str [115,121,110,99],swS l] [dkV A O k n,.str [115,121,110,99],swS l] (.tup [.str [],.bool false]):=by
 refine FnSpec.enter (S:=Sy) 1 Tryz.func94 rfl rfl rfl Tryz.ntmps94 rfl rfl rfl rfl fun v0=>?_
 repeat' first|refine w9S @s_strEqT ?_|((with_reducible apply J.step);rfl;((with_reducible apply s_strEqF)<;>(first|rfl|assumption)))|refine w9S @s_bld0 ?_|refine w9x ?_|(refine w9c ?_ ?_<;>intro _<;>try exact w9o)|fail
 all_goals exact w9e
theorem deed_non_crash(l:List Str)(h:l.length≠1):FnSpec Sy.P 94 [dkV A O k n,.str [99,114,97,115,104],swS l] [dkV A O k n,.str [99,114,97,115,104],swS l] (.tup [.str [],.bool false]):=by
 refine FnSpec.enter (S:=Sy) 1 Tryz.func94 rfl rfl rfl Tryz.ntmps94 rfl rfl rfl rfl fun v0=>?_
 repeat' first|refine w9S @s_strEqT ?_|((with_reducible apply J.step);rfl;((with_reducible apply s_strEqF)<;>(first|rfl|assumption)))|refine w9S @s_bld0 ?_|refine w9x ?_|(refine w9c ?_ ?_<;>intro _<;>try exact w9o)|fail
 all_goals exact w9e
theorem deed_non(w:Str)(l:List Str)(h0:decide (w=[111,112,101,110])=false)(h1:decide (w=[111,102,102,101,114])=false)(h2:decide (w=[98,117,105,108,100])=false)(h3:decide (w=[100,114,111,112])=false)(h4:decide (w=[109,111,110,101,121])=false)(h5:decide (w=[115,121,110,99])=false)(h6:decide (w=[99,114,97,115,104])=false):FnSpec Sy.P 94 [dkV A O k n,.str w,swS l] [dkV A O k n,.str w,swS l] (.tup [.str [],.bool false]):=by
 refine FnSpec.enter (S:=Sy) 1 Tryz.func94 rfl rfl rfl Tryz.ntmps94 rfl rfl rfl rfl fun v0=>?_
 repeat' first|((with_reducible apply J.step);rfl;((with_reducible apply s_strEqF)<;>(first|rfl|assumption)))|refine w9S @s_bld0 ?_|refine w9x ?_|fail
 all_goals exact w9e
theorem deed_none(w:Str)(l:List Str)(n0:¬ (w=[111,112,101,110]∧l.length=2))(n1:¬ (w=[111,102,102,101,114]∧l.length=6))(n2:¬ (w=[98,117,105,108,100]∧l.length=2))(n3:¬ (w=[100,114,111,112]∧l.length=2))(n4:¬ (w=[109,111,110,101,121]∧l.length=1))(n5:¬ (w=[115,121,110,99]∧l.length=0))(n6:¬ (w=[99,114,97,115,104]∧l.length=1)):FnSpec Sy.P 94 [dkV A O k n,.str w,swS l] [dkV A O k n,.str w,swS l] (.tup [.str [],.bool false]):=by
 by_cases c0:w=[111,112,101,110]
 ·subst c0;exact deed_non_open A O k n l fun h=>n0 ⟨rfl,h⟩
 by_cases c1:w=[111,102,102,101,114]
 ·subst c1;exact deed_non_offer A O k n l fun h=>n1 ⟨rfl,h⟩
 by_cases c2:w=[98,117,105,108,100]
 ·subst c2;exact deed_non_build A O k n l fun h=>n2 ⟨rfl,h⟩
 by_cases c3:w=[100,114,111,112]
 ·subst c3;exact deed_non_drop A O k n l fun h=>n3 ⟨rfl,h⟩
 by_cases c4:w=[109,111,110,101,121]
 ·subst c4;exact deed_non_money A O k n l fun h=>n4 ⟨rfl,h⟩
 by_cases c5:w=[115,121,110,99]
 ·subst c5;exact deed_non_sync A O k n l fun h=>n5 ⟨rfl,h⟩
 by_cases c6:w=[99,114,97,115,104]
 ·subst c6;exact deed_non_crash A O k n l fun h=>n6 ⟨rfl,h⟩
 exact deed_non A O k n w l (decide_eq_false c0) (decide_eq_false c1) (decide_eq_false c2) (decide_eq_false c3) (decide_eq_false c4) (decide_eq_false c5) (decide_eq_false c6)
end
end Go.Proofs.YtkkcnppgcnmikaaGreatDoor
