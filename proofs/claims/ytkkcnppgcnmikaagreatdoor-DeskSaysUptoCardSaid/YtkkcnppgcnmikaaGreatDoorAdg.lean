/- The desk: what is asked of numbers alone, by the program and by the reference. -/
import Derived.Test.YtkkcnppgcnmikaaGreatDoorAdc
import Derived.Test.YtkkcnppgcnmikaaGreatDoorAbi
import Derived.Test.YtkkcnppgcnmikaaGreatDoorAbh
import Derived.Test.YtkkcnppgcnmikaaGreatDoorAbg
import Derived.Shelf.SlSortCmp.Whole1
import Derived.Lib.SliceRun
import Derived.Deep.QuietTactic
import Derived.BigQuiet
import Derived.Test.YtkkcnppgcnmikaaGreatDoorAbe
namespace Go.Proofs.YtkkcnppgcnmikaaGreatDoor
open Go FM Go.Proofs
set_option maxRecDepth 10000
set_option maxHeartbeats 6400000
set_option linter.all false
theorem asked_num(w:Str)(l:List Str)(h:l.all nuB=false)(hl:l.length≤1000000)(hs:∀ s∈l,s.length≤9223372036854775807):FnDies Sy.P 95 [.str w,swS l] [.str w,swS l] (refd 12):=by
 have hN:=numbers_dies l h hl hs
 refine FnDies.enter0 (S:=Sy) Tryz.func95 rfl rfl Tryz.ntmps95 rfl rfl fun v0=>?_
 repeat' first|refine w9x ?_|(exact J.die0 hN rfl (.cons (.pl rfl rfl) .nil))
 all_goals try exact w9o
 all_goals done
theorem asked_piles(l:List Str)(h:l.all nuB=true)(hl:l.length≤1000000)(x:List Int)(hx:l.map nuV=x)(i k:Int)(hr:∀ x∈[i,k],0≤x∧x≤1000000000)(hC:FnSpec Sy.P 152 [.sl false 1 ((x).map .int)] [.sl false 1 ((x).map .int)] (.tup [.int i,.int k,.int 0])):FnSpec Sy.P 95 [.str [112,105,108,101,115],swS l] [.str [112,105,108,101,115],swS l] (.str (lsS [i,k])):=by
 have hN:=numbers_spec l h hl
 have hM:=must_ok
 have hL:=listed_spec [i,k] (by show 2≤1000;decide) hr
 rw [hx] at hN
 refine enT Tryz.func95 Tryz.ntmps95 fun v0=>?_
 repeat' first|(refine J.freezeO 5 rfl rfl sh_int rfl ?_)|refine w9S @s_strEqT ?_|refine w9x ?_|refine w9p (hN) ?_|refine w9p (hC) ?_|refine w9p (hM) ?_|refine w9p (hL) ?_|fail
 all_goals exact w9e
theorem asked_piles_e(l:List Str)(h:l.all nuB=true)(hl:l.length≤1000000)(x:List Int)(hx:l.map nuV=x)(i k e:Int)(he:e≠0)(hC:FnSpec Sy.P 152 [.sl false 1 ((x).map .int)] [.sl false 1 ((x).map .int)] (.tup [.int i,.int k,.int e])):FnDies Sy.P 95 [.str [112,105,108,101,115],swS l] [.str [112,105,108,101,115],swS l] (refd e):=by
 have hN:=numbers_spec l h hl
 have hM:=must_dies e he
 rw [hx] at hN
 refine FnDies.enter0 (S:=Sy) Tryz.func95 rfl rfl Tryz.ntmps95 rfl rfl fun v0=>?_
 repeat' first|(refine J.freezeO 5 rfl rfl sh_int rfl ?_)|refine w9S @s_strEqT ?_|refine w9x ?_|refine w9p (hN) ?_|refine w9p (hC) ?_|(exact J.die0 hM rfl (.cons (.pl rfl rfl) .nil))
 all_goals first|(exfalso;omega)|(exfalso;simp only [List.length_cons] at *;omega)|(exfalso;contradiction)|skip
 all_goals done
theorem asked_second(l:List Str)(h:l.all nuB=true)(hl:l.length≤1000000)(r:Int)(b:List Int)(hx:l.map nuV=r::b)(i k:Int)(hr:∀ x∈[i,k],0≤x∧x≤1000000000)(hC:FnSpec Sy.P 153 [.sl false 1 ((b).map .int),.int r] [.sl false 1 ((b).map .int),.int r] (.tup [.int i,.int k,.int 0])):FnSpec Sy.P 95 [.str [115,101,99,111,110,100],swS l] [.str [115,101,99,111,110,100],swS l] (.str (lsS [i,k])):=by
 have hN:=numbers_spec l h hl
 have hM:=must_ok
 have hL:=listed_spec [i,k] (by show 2≤1000;decide) hr
 rw [hx] at hN
 refine enT Tryz.func95 Tryz.ntmps95 fun v0=>?_
 repeat' first|((with_reducible refine w9i ?_);first|refine w9J1 7 5 ?_|refine w9Jt 6 6 ?_|refine w9Jw 5 7 ?_|refine w9Jt 4 10 ?_|refine w9Jw 3 8 ?_|refine w9Jt 2 11 ?_|refine w9Jw 1 9 ?_|refine w9Jt 0 12 ?_|refine w9J0 ?_)|(refine J.freezeO 5 rfl rfl sh_int rfl ?_)|refine w9U 5 8 ?_|refine w9S @s_strEqT ?_|refine w9S @s_strEqF ?_|refine w9x ?_|refine w9p (hN) ?_|refine w9p (hC) ?_|refine w9p (hM) ?_|refine w9p (hL) ?_|(refine w9c ?_ ?_<;>intro _<;>try exact w9o)|fail
 all_goals exact w9e
theorem asked_second_e(l:List Str)(h:l.all nuB=true)(hl:l.length≤1000000)(r:Int)(b:List Int)(hx:l.map nuV=r::b)(i k e:Int)(he:e≠0)(hC:FnSpec Sy.P 153 [.sl false 1 ((b).map .int),.int r] [.sl false 1 ((b).map .int),.int r] (.tup [.int i,.int k,.int e])):FnDies Sy.P 95 [.str [115,101,99,111,110,100],swS l] [.str [115,101,99,111,110,100],swS l] (refd e):=by
 have hN:=numbers_spec l h hl
 have hM:=must_dies e he
 rw [hx] at hN
 refine FnDies.enter0 (S:=Sy) Tryz.func95 rfl rfl Tryz.ntmps95 rfl rfl fun v0=>?_
 repeat' first|((with_reducible refine w9i ?_);first|refine w9J1 7 5 ?_|refine w9Jt 6 6 ?_|refine w9Jw 5 7 ?_|refine w9Jt 4 10 ?_|refine w9Jw 3 8 ?_|refine w9Jt 2 11 ?_|refine w9Jw 1 9 ?_|refine w9Jt 0 12 ?_|refine w9J0 ?_)|(refine J.freezeO 5 rfl rfl sh_int rfl ?_)|refine w9U 5 8 ?_|refine w9S @s_strEqT ?_|refine w9S @s_strEqF ?_|refine w9x ?_|refine w9p (hN) ?_|refine w9p (hC) ?_|(exact J.die0 hM rfl (.cons (.pl rfl rfl) .nil))|(refine w9c ?_ ?_<;>intro _<;>try exact w9o)|fail
 all_goals first|(exfalso;omega)|(exfalso;simp only [List.length_cons] at *;omega)|(exfalso;contradiction)|skip
 all_goals done
theorem asked_seats(l:List Str)(h:l.all nuB=true)(hl:l.length≤1000000)(y H:Int)(p:List Int)(hx:l.map nuV=y::H::p)(s:List Int)(hs:s.length≤1000)(hr:∀ x∈s,0≤x∧x≤1000000000)(hC:FnSpec Sy.P 154 [.int y,.sl false 1 ((p).map .int),.int H] [.int y,.sl false 1 ((p).map .int),.int H] (.tup [.sl true 1 ((s).map .int),.int 0])):FnSpec Sy.P 95 [.str [115,101,97,116,115],swS l] [.str [115,101,97,116,115],swS l] (.str (lsS s)):=by
 have hN:=numbers_spec l h hl
 have hM:=must_ok
 have hL:=listed_spec s hs hr
 rw [hx] at hN
 refine enT Tryz.func95 Tryz.ntmps95 fun v0=>?_
 repeat' first|((with_reducible refine w9i ?_);first|refine w9J1 5 8 ?_|refine w9Jt 4 9 ?_|refine w9Jw 3 10 ?_|refine w9Jt 2 12 ?_|refine w9Jw 1 11 ?_|refine w9Jt 0 13 ?_|refine w9J0 ?_)|(refine J.freezeO 5 rfl rfl sh_int rfl ?_)|refine w9U 8 6 ?_|refine w9S @s_strEqT ?_|refine w9S @s_strEqF ?_|refine w9x ?_|refine w9p (hN) ?_|refine w9p (hC) ?_|refine w9p (hM) ?_|refine w9p (hL) ?_|(refine w9c ?_ ?_<;>intro _<;>try exact w9o)|fail
 all_goals exact w9e
theorem asked_seats_e(l:List Str)(h:l.all nuB=true)(hl:l.length≤1000000)(y H:Int)(p:List Int)(hx:l.map nuV=y::H::p)(e:Int)(he:e≠0)(hC:FnSpec Sy.P 154 [.int y,.sl false 1 ((p).map .int),.int H] [.int y,.sl false 1 ((p).map .int),.int H] (.tup [.nil,.int e])):FnDies Sy.P 95 [.str [115,101,97,116,115],swS l] [.str [115,101,97,116,115],swS l] (refd e):=by
 have hN:=numbers_spec l h hl
 have hM:=must_dies e he
 rw [hx] at hN
 refine FnDies.enter0 (S:=Sy) Tryz.func95 rfl rfl Tryz.ntmps95 rfl rfl fun v0=>?_
 repeat' first|((with_reducible refine w9i ?_);first|refine w9J1 5 8 ?_|refine w9Jt 4 9 ?_|refine w9Jw 3 10 ?_|refine w9Jt 2 12 ?_|refine w9Jw 1 11 ?_|refine w9Jt 0 13 ?_|refine w9J0 ?_)|(refine J.freezeO 5 rfl rfl sh_int rfl ?_)|refine w9U 8 6 ?_|refine w9S @s_strEqT ?_|refine w9S @s_strEqF ?_|refine w9x ?_|refine w9p (hN) ?_|refine w9p (hC) ?_|(exact J.die0 hM rfl (.cons (.pl rfl rfl) .nil))|(refine w9c ?_ ?_<;>intro _<;>try exact w9o)|fail
 all_goals first|(exfalso;omega)|(exfalso;simp only [List.length_cons] at *;omega)|(exfalso;contradiction)|skip
 all_goals done
theorem asked_swings(l:List Str)(h:l.all nuB=true)(hl:l.length≤1000000)(q:Int)(u:List Int)(hx:l.map nuV=q::u)(s:List Int)(hs:s.length≤1000)(hr:∀ x∈s,0≤x∧x≤1000000000)(hC:FnSpec Sy.P 155 [.sl false 1 ((u).map .int),.int q] [.sl false 1 ((u).map .int),.int q] (.tup [.sl true 1 ((s).map .int),.int 0])):FnSpec Sy.P 95 [.str [115,119,105,110,103,115],swS l] [.str [115,119,105,110,103,115],swS l] (.str (lsS s)):=by
 have hN:=numbers_spec l h hl
 have hM:=must_ok
 have hL:=listed_spec s hs hr
 rw [hx] at hN
 refine enT Tryz.func95 Tryz.ntmps95 fun v0=>?_
 repeat' first|((with_reducible refine w9i ?_);first|refine w9J1 5 5 ?_|refine w9Jt 4 6 ?_|refine w9Jw 3 7 ?_|refine w9Jt 2 9 ?_|refine w9Jw 1 8 ?_|refine w9Jt 0 10 ?_|refine w9J0 ?_)|(refine J.freezeO 5 rfl rfl sh_int rfl ?_)|refine w9U 5 6 ?_|refine w9S @s_strEqT ?_|refine w9S @s_strEqF ?_|refine w9x ?_|refine w9p (hN) ?_|refine w9p (hC) ?_|refine w9p (hM) ?_|refine w9p (hL) ?_|(refine w9c ?_ ?_<;>intro _<;>try exact w9o)|fail
 all_goals exact w9e
theorem asked_swings_e(l:List Str)(h:l.all nuB=true)(hl:l.length≤1000000)(q:Int)(u:List Int)(hx:l.map nuV=q::u)(e:Int)(he:e≠0)(hC:FnSpec Sy.P 155 [.sl false 1 ((u).map .int),.int q] [.sl false 1 ((u).map .int),.int q] (.tup [.nil,.int e])):FnDies Sy.P 95 [.str [115,119,105,110,103,115],swS l] [.str [115,119,105,110,103,115],swS l] (refd e):=by
 have hN:=numbers_spec l h hl
 have hM:=must_dies e he
 rw [hx] at hN
 refine FnDies.enter0 (S:=Sy) Tryz.func95 rfl rfl Tryz.ntmps95 rfl rfl fun v0=>?_
 repeat' first|((with_reducible refine w9i ?_);first|refine w9J1 5 5 ?_|refine w9Jt 4 6 ?_|refine w9Jw 3 7 ?_|refine w9Jt 2 9 ?_|refine w9Jw 1 8 ?_|refine w9Jt 0 10 ?_|refine w9J0 ?_)|(refine J.freezeO 5 rfl rfl sh_int rfl ?_)|refine w9U 5 6 ?_|refine w9S @s_strEqT ?_|refine w9S @s_strEqF ?_|refine w9x ?_|refine w9p (hN) ?_|refine w9p (hC) ?_|(exact J.die0 hM rfl (.cons (.pl rfl rfl) .nil))|(refine w9c ?_ ?_<;>intro _<;>try exact w9o)|fail
 all_goals first|(exfalso;omega)|(exfalso;simp only [List.length_cons] at *;omega)|(exfalso;contradiction)|skip
 all_goals done
theorem asked_none(w:Str)(l:List Str)(h:l.all nuB=true)(hl:l.length≤1000000)(n0:¬ (w=[112,105,108,101,115]∧0≤l.length))(n1:¬ (w=[115,101,99,111,110,100]∧1≤l.length))(n2:¬ (w=[115,101,97,116,115]∧2≤l.length))(n3:¬ (w=[115,119,105,110,103,115]∧1≤l.length)):FnDies Sy.P 95 [.str w,swS l] [.str w,swS l] (refd 12):=by
 have hN:=numbers_spec l h hl
 have hM:=must_dies 12 (by decide)
 have hll:(l.map nuV).length=l.length:=List.length_map ..
 generalize l.map nuV=x at *
 refine FnDies.enter0 (S:=Sy) Tryz.func95 rfl rfl Tryz.ntmps95 rfl rfl fun v0=>?_
 repeat' first|(refine J.freezeO 5 rfl rfl sh_int rfl ?_)|refine w9x ?_|refine w9p (hN) ?_|(exact J.die0 hM rfl (.cons (.pl rfl rfl) .nil))|(refine w9c ?_ ?_<;>intro _<;>try exact w9o)|fail
 all_goals first|(exfalso;omega)|(exfalso;first|exact n0 ⟨‹_›,by omega⟩|exact n1 ⟨‹_›,by omega⟩|exact n2 ⟨‹_›,by omega⟩|exact n3 ⟨‹_›,by omega⟩)|skip
 all_goals done
theorem reck_piles(x:List Int)(i k:Int)(hr:∀ x∈[i,k],0≤x∧x≤1000000000)(hE:FnSpec Sy.P 156 [.sl false 1 ((x).map .int)] [.sl false 1 ((x).map .int)] (.int 0))(hC:FnSpec Sy.P 157 [.sl false 1 ((x).map .int)] [.sl false 1 ((x).map .int)] (.tup [.int i,.int k,.bool true])):FnSpec Sy.P 100 [.str [112,105,108,101,115],.sl false 1 ((x).map .int)] [.str [112,105,108,101,115],.sl false 1 ((x).map .int)] (.tup [.str (lsS [i,k]),.bool true]):=by
 have hL:=row_spec [i,k] (by show 2≤1000;decide) hr
 refine enT Tryz.func100 Tryz.ntmps100 fun v0=>?_
 repeat' first|refine w9S @s_strEqT ?_|refine w9x ?_|refine w9p (hE) ?_|refine w9p (hC) ?_|refine w9p (hL) ?_|fail
 all_goals exact w9e
theorem reck_piles_no(x:List Int)(hE:FnSpec Sy.P 156 [.sl false 1 ((x).map .int)] [.sl false 1 ((x).map .int)] (.int 0))(hC:FnSpec Sy.P 157 [.sl false 1 ((x).map .int)] [.sl false 1 ((x).map .int)] (.tup [.int 0,.int 0,.bool false])):FnSpec Sy.P 100 [.str [112,105,108,101,115],.sl false 1 ((x).map .int)] [.str [112,105,108,101,115],.sl false 1 ((x).map .int)] (.tup [.str (rfS 4),.bool true]):=by
 have hL:=row_err 4 [0,0] (by decide)
 refine enT Tryz.func100 Tryz.ntmps100 fun v0=>?_
 repeat' first|refine w9S @s_strEqT ?_|refine w9x ?_|refine w9p (hE) ?_|refine w9p (hC) ?_|refine w9p (hL) ?_|fail
 all_goals exact w9e
theorem reck_piles_e(x:List Int)(e:Int)(he:0<e∧e≤100)(hE:FnSpec Sy.P 156 [.sl false 1 ((x).map .int)] [.sl false 1 ((x).map .int)] (.int e)):FnSpec Sy.P 100 [.str [112,105,108,101,115],.sl false 1 ((x).map .int)] [.str [112,105,108,101,115],.sl false 1 ((x).map .int)] (.tup [.str (rfS e),.bool true]):=by
 have hL:=row_err e [0,0] he
 refine enT Tryz.func100 Tryz.ntmps100 fun v0=>?_
 repeat' first|refine w9S @s_strEqT ?_|refine w9x ?_|refine w9p (hE) ?_|refine w9p (hL) ?_|(refine w9c ?_ ?_<;>intro _<;>try exact w9o)|fail
 all_goals exact w9e
theorem reck_second(r:Int)(b:List Int)(i k:Int)(hr:∀ x∈[i,k],0≤x∧x≤1000000000)(hE:FnSpec Sy.P 158 [.sl false 1 ((b).map .int),.int r] [.sl false 1 ((b).map .int),.int r] (.int 0))(hC:FnSpec Sy.P 159 [.sl false 1 ((b).map .int),.int r] [.sl false 1 ((b).map .int),.int r] (.tup [.int i,.int k,.bool true])):FnSpec Sy.P 100 [.str [115,101,99,111,110,100],.sl false 1 ((r::b).map .int)] [.str [115,101,99,111,110,100],.sl false 1 ((r::b).map .int)] (.tup [.str (lsS [i,k]),.bool true]):=by
 have hL:=row_spec [i,k] (by show 2≤1000;decide) hr
 refine enT Tryz.func100 Tryz.ntmps100 fun v0=>?_
 repeat' first|((with_reducible refine w9i ?_);first|refine w9J1 1 5 ?_|refine w9Jt 0 6 ?_|refine w9J0 ?_|refine w9J1 7 5 ?_|refine w9Jt 6 6 ?_|refine w9Jw 5 7 ?_|refine w9Jt 4 10 ?_|refine w9Jw 3 8 ?_|refine w9Jt 2 11 ?_|refine w9Jw 1 9 ?_|refine w9Jt 0 12 ?_|refine w9J0 ?_)|refine w9U 5 2 ?_|refine w9U 5 8 ?_|refine w9S @s_strEqT ?_|refine w9S @s_strEqF ?_|refine w9x ?_|refine w9p (hE) ?_|refine w9p (hC) ?_|refine w9p (hL) ?_|(refine w9c ?_ ?_<;>intro _<;>try exact w9o)|fail
 all_goals exact w9e
theorem reck_second_no(r:Int)(b:List Int)(hE:FnSpec Sy.P 158 [.sl false 1 ((b).map .int),.int r] [.sl false 1 ((b).map .int),.int r] (.int 0))(hC:FnSpec Sy.P 159 [.sl false 1 ((b).map .int),.int r] [.sl false 1 ((b).map .int),.int r] (.tup [.int 0,.int 0,.bool false])):FnSpec Sy.P 100 [.str [115,101,99,111,110,100],.sl false 1 ((r::b).map .int)] [.str [115,101,99,111,110,100],.sl false 1 ((r::b).map .int)] (.tup [.str (rfS 4),.bool true]):=by
 have hL:=row_err 4 [0,0] (by decide)
 refine enT Tryz.func100 Tryz.ntmps100 fun v0=>?_
 repeat' first|((with_reducible refine w9i ?_);first|refine w9J1 1 5 ?_|refine w9Jt 0 6 ?_|refine w9J0 ?_|refine w9J1 7 5 ?_|refine w9Jt 6 6 ?_|refine w9Jw 5 7 ?_|refine w9Jt 4 10 ?_|refine w9Jw 3 8 ?_|refine w9Jt 2 11 ?_|refine w9Jw 1 9 ?_|refine w9Jt 0 12 ?_|refine w9J0 ?_)|refine w9U 5 2 ?_|refine w9U 5 8 ?_|refine w9S @s_strEqT ?_|refine w9S @s_strEqF ?_|refine w9x ?_|refine w9p (hE) ?_|refine w9p (hC) ?_|refine w9p (hL) ?_|(refine w9c ?_ ?_<;>intro _<;>try exact w9o)|fail
 all_goals exact w9e
theorem reck_second_e(r:Int)(b:List Int)(e:Int)(he:0<e∧e≤100)(hE:FnSpec Sy.P 158 [.sl false 1 ((b).map .int),.int r] [.sl false 1 ((b).map .int),.int r] (.int e)):FnSpec Sy.P 100 [.str [115,101,99,111,110,100],.sl false 1 ((r::b).map .int)] [.str [115,101,99,111,110,100],.sl false 1 ((r::b).map .int)] (.tup [.str (rfS e),.bool true]):=by
 have hL:=row_err e [0,0] he
 refine enT Tryz.func100 Tryz.ntmps100 fun v0=>?_
 repeat' first|((with_reducible refine w9i ?_);first|refine w9J1 1 5 ?_|refine w9Jt 0 6 ?_|refine w9J0 ?_)|refine w9U 5 2 ?_|refine w9S @s_strEqT ?_|refine w9S @s_strEqF ?_|refine w9x ?_|refine w9p (hE) ?_|refine w9p (hL) ?_|(refine w9c ?_ ?_<;>intro _<;>try exact w9o)|fail
 all_goals exact w9e
theorem reck_seats(y H:Int)(p:List Int)(hy:1≤y∧y≤3)(s:List Int)(hs:s.length≤1000)(hr:∀ x∈s,0≤x∧x≤1000000000)(hE:FnSpec Sy.P 160 [.sl false 1 ((p).map .int),.int H] [.sl false 1 ((p).map .int),.int H] (.int 0))(hC:FnSpec Sy.P 161 [.int y,.sl false 1 ((p).map .int),.int H] [.int y,.sl false 1 ((p).map .int),.int H] (.sl true 1 ((s).map .int))):FnSpec Sy.P 100 [.str [115,101,97,116,115],.sl false 1 ((y::H::p).map .int)] [.str [115,101,97,116,115],.sl false 1 ((y::H::p).map .int)] (.tup [.str (lsS s),.bool true]):=by
 have hL:=row_spec s hs hr
 refine enT Tryz.func100 Tryz.ntmps100 fun v0=>?_
 repeat' first|((with_reducible refine w9i ?_);first|refine w9J1 1 5 ?_|refine w9Jt 0 6 ?_|refine w9J0 ?_|refine w9Jt 12 0 ?_|refine w9Jt 11 1 ?_|refine w9Jt 10 4 ?_|refine w9Jt 9 6 ?_|refine w9Jw 8 2 ?_|refine w9Jw 7 7 ?_|refine w9J3 6 3 5 8 ?_ ?_ ?_|refine w9J2 5 3 8 ?_ ?_|refine w9J2 5 3 5 ?_ ?_|refine w9J2 5 5 8 ?_ ?_|refine w9J1 4 3 ?_|refine w9J1 4 5 ?_|refine w9J1 4 8 ?_|refine w9J1 3 9 ?_|refine w9J1 2 10 ?_|refine w9Jt 1 11 ?_|refine w9Jt 0 12 ?_|refine w9J0 ?_)|refine w9U 5 2 ?_|refine w9U 0 13 ?_|refine w9S @s_strEqT ?_|refine w9S @s_strEqF ?_|refine w9x ?_|refine w9p (hE) ?_|refine w9p (hC) ?_|refine w9p (hL) ?_|(refine w9c ?_ ?_<;>intro _<;>try exact w9o)|fail
 all_goals exact w9e
theorem reck_seats_e(y H:Int)(p:List Int)(e:Int)(hy:1≤y∧y≤3)(he:0<e∧e≤100)(hE:FnSpec Sy.P 160 [.sl false 1 ((p).map .int),.int H] [.sl false 1 ((p).map .int),.int H] (.int e)):FnSpec Sy.P 100 [.str [115,101,97,116,115],.sl false 1 ((y::H::p).map .int)] [.str [115,101,97,116,115],.sl false 1 ((y::H::p).map .int)] (.tup [.str (rfS e),.bool true]):=by
 have hL:=refusal_spec e (by omega)
 refine enT Tryz.func100 Tryz.ntmps100 fun v0=>?_
 repeat' first|((with_reducible refine w9i ?_);first|refine w9J1 1 5 ?_|refine w9Jt 0 6 ?_|refine w9J0 ?_)|refine w9U 5 2 ?_|refine w9S @s_strEqT ?_|refine w9S @s_strEqF ?_|refine w9x ?_|refine w9p (hE) ?_|refine w9p (hL) ?_|(refine w9c ?_ ?_<;>intro _<;>try exact w9o)|fail
 all_goals exact w9e
theorem reck_seats_y(y H:Int)(p:List Int)(e:Int)(hy:y<1∨3<y)(hE:FnSpec Sy.P 160 [.sl false 1 ((p).map .int),.int H] [.sl false 1 ((p).map .int),.int H] (.int e)):FnSpec Sy.P 100 [.str [115,101,97,116,115],.sl false 1 ((y::H::p).map .int)] [.str [115,101,97,116,115],.sl false 1 ((y::H::p).map .int)] (.tup [.str (rfS 1),.bool true]):=by
 have hL:=refusal_spec 1 (by decide)
 refine enT Tryz.func100 Tryz.ntmps100 fun v0=>?_
 repeat' first|((with_reducible refine w9i ?_);first|refine w9J1 1 5 ?_|refine w9Jt 0 6 ?_|refine w9J0 ?_)|refine w9U 5 2 ?_|refine w9S @s_strEqT ?_|refine w9S @s_strEqF ?_|refine w9x ?_|refine w9p (hE) ?_|refine w9p (hL) ?_|(refine w9c ?_ ?_<;>intro _<;>try exact w9o)|fail
 all_goals exact w9e
theorem reck_swings(q:Int)(u:List Int)(v:List Int)(s:List Int)(hs:s.length≤1000)(hr:∀ x∈s,0≤x∧x≤1000000000)(hE:FnSpec Sy.P 162 [.sl false 1 ((u).map .int),.int q] [.sl false 1 ((u).map .int),.int q] (.int 0))(hC:FnSpec Sy.P 163 [.sl false 1 ((u).map .int),.int q] [.sl false 1 ((u).map .int),.int q] (.tup [.sl true 1 ((s).map .int),.sl true 1 ((v).map .int)])):FnSpec Sy.P 100 [.str [115,119,105,110,103,115],.sl false 1 ((q::u).map .int)] [.str [115,119,105,110,103,115],.sl false 1 ((q::u).map .int)] (.tup [.str (lsS s),.bool true]):=by
 have hL:=row_spec s hs hr
 refine enT Tryz.func100 Tryz.ntmps100 fun v0=>?_
 repeat' first|((with_reducible refine w9i ?_);first|refine w9J1 1 5 ?_|refine w9Jt 0 6 ?_|refine w9J0 ?_|refine w9J1 5 5 ?_|refine w9Jt 4 6 ?_|refine w9Jw 3 7 ?_|refine w9Jt 2 9 ?_|refine w9Jw 1 8 ?_|refine w9Jt 0 10 ?_|refine w9J0 ?_)|refine w9U 5 2 ?_|refine w9U 5 6 ?_|refine w9S @s_strEqT ?_|refine w9S @s_strEqF ?_|refine w9x ?_|refine w9p (hE) ?_|refine w9p (hC) ?_|refine w9p (hL) ?_|(refine w9c ?_ ?_<;>intro _<;>try exact w9o)|fail
 all_goals exact w9e
theorem reck_swings_e(q:Int)(u:List Int)(e:Int)(he:0<e∧e≤100)(hE:FnSpec Sy.P 162 [.sl false 1 ((u).map .int),.int q] [.sl false 1 ((u).map .int),.int q] (.int e)):FnSpec Sy.P 100 [.str [115,119,105,110,103,115],.sl false 1 ((q::u).map .int)] [.str [115,119,105,110,103,115],.sl false 1 ((q::u).map .int)] (.tup [.str (rfS e),.bool true]):=by
 have hL:=refusal_spec e (by omega)
 refine enT Tryz.func100 Tryz.ntmps100 fun v0=>?_
 repeat' first|((with_reducible refine w9i ?_);first|refine w9J1 1 5 ?_|refine w9Jt 0 6 ?_|refine w9J0 ?_)|refine w9U 5 2 ?_|refine w9S @s_strEqT ?_|refine w9S @s_strEqF ?_|refine w9x ?_|refine w9p (hE) ?_|refine w9p (hL) ?_|(refine w9c ?_ ?_<;>intro _<;>try exact w9o)|fail
 all_goals exact w9e
theorem reck_none(w:Str)(l:List Int)(n0:¬ (w=[112,105,108,101,115]∧0≤l.length))(n1:¬ (w=[115,101,99,111,110,100]∧1≤l.length))(n2:¬ (w=[115,101,97,116,115]∧2≤l.length))(n3:¬ (w=[115,119,105,110,103,115]∧1≤l.length)):FnSpec Sy.P 100 [.str w,.sl false 1 ((l).map .int)] [.str w,.sl false 1 ((l).map .int)] (.tup [.str [],.bool false]):=by
 refine enT Tryz.func100 Tryz.ntmps100 fun v0=>?_
 repeat' first|refine w9x ?_|(refine w9c ?_ ?_<;>intro _<;>try exact w9o)|fail
 all_goals first|(exfalso;omega)|(exfalso;first|exact n0 ⟨‹_›,by omega⟩|exact n1 ⟨‹_›,by omega⟩|exact n2 ⟨‹_›,by omega⟩|exact n3 ⟨‹_›,by omega⟩)|exact .mk rfl rfl rfl
end Go.Proofs.YtkkcnppgcnmikaaGreatDoor
namespace Go.Proofs.YtkkcnppgcnmikaaGreatDoor
open Go FM
set_option maxRecDepth 10000
set_option maxHeartbeats 1600000
set_option linter.all false
theorem clone_spec(l:List Int)(hl:l.length≤17592186044416):FnSpec Sy.P 23 [.sl false 1 ((l).map .int)] [.sl false 1 ((l).map .int)] (.sl true 1 ((l).map .int)):=by
 refine enT Tryz.func23 Tryz.ntmps23 fun v0=>?_
 repeat' first|refine w9x ?_|(refine w9d ?_ ?_<;>intro _<;>try exact w9s)|(refine w9q ?_;intro bnil hbnil)|fail
 ·by_cases h:l=[]
  ·subst h
   exact .mkL rfl .nil rfl
  ·have:=hbnil (by simpa using h)
   simp_all
 ·exact .mk rfl rfl rfl
end Go.Proofs.YtkkcnppgcnmikaaGreatDoor
namespace Go.Proofs.YtkkcnppgcnmikaaGreatDoor
set_option linter.all false
def fb(e:Nat→Bool)(w v:Nat→Int):Nat→Int
 | 0=>-1
 | i+1=>if e i=true∧(fb e w v i<0∨v (fb e w v i).toNat*w i<v i*w (fb e w v i).toNat) then(i:Int) else fb e w v i
def isB(e:Nat→Bool)(w v:Nat→Int)(lo hi:Nat)(b:Int):Prop :=
 (b=-1∧∀ i,lo≤i→i<hi→e i=false)∨∃ k:Nat,b=k∧lo≤k∧k<hi∧e k=true∧∀ i,lo≤i→i<hi→e i=true→(v i*w k≤v k*w i∧(i<k→v i*w k<v k*w i))
theorem ratio_lt2{a b c wa wb wc:Int}(hb:0<wb)(ha:0<wa)(hc:0≤wc)(h1:a*wb≤b*wa)(h2:b*wc<c*wb):a*wc<c*wa:=by
 have e1:=Int.mul_le_mul_of_nonneg_right h1 hc
 have e2:=Int.mul_lt_mul_of_pos_right h2 ha
 have e3:(a*wc)*wb<(c*wa)*wb:=by
  have x1:a*wb*wc=(a*wc)*wb:=by rw [Int.mul_assoc,Int.mul_comm wb,←Int.mul_assoc]
  have x2:b*wa*wc=b*wc*wa:=by rw [Int.mul_assoc,Int.mul_comm wa,←Int.mul_assoc]
  have x3:c*wb*wa=(c*wa)*wb:=by rw [Int.mul_assoc,Int.mul_comm wb,←Int.mul_assoc]
  omega
 exact Int.lt_of_mul_lt_mul_right e3 (Int.le_of_lt hb)
section
variable {e:Nat→Bool} {w v:Nat→Int}
theorem isB_one{lo hi:Nat}{b b':Int}(h:isB e w v lo hi b)(h':isB e w v lo hi b'):b=b':=by
 rcases h with⟨h1,h2⟩|⟨k,h1,h2,h3,h4,h5⟩<;>rcases h' with⟨g1,g2⟩|⟨k',g1,g2,g3,g4,g5⟩
 ·omega
 ·rw [h2 k' g2 g3] at g4;cases g4
 ·rw [g2 k h2 h3] at h4;cases h4
 ·have a1:=h5 k' g2 g3 g4
  have a2:=g5 k h2 h3 h4
  rcases Nat.lt_trichotomy k k' with h|h|h
  ·have:=a2.2 h;have:=a1.1;omega
  ·omega
  ·have:=a1.2 h;have:=a2.1;omega
theorem fb_isB(hw:∀ i,0<w i):∀ n,isB e w v 0 n (fb e w v n)
 | 0=>.inl ⟨rfl,fun i _ h=>by omega⟩
 | n+1=>by
  have ih:=fb_isB hw n
  unfold fb
  rcases ih with⟨h1,h2⟩|⟨k,h1,h2,h3,h4,h5⟩
  ·rw [h1]
   by_cases he:e n=true
   ·rw [if_pos ⟨he,.inl (by omega)⟩]
    refine .inr ⟨n,rfl,Nat.zero_le _,Nat.lt_succ_self _,he,fun i _ hi hei=>?_⟩
    by_cases hin:i=n
    ·subst hin;exact⟨Int.le_refl _,fun h=>absurd h (Nat.lt_irrefl _)⟩
    ·rw [h2 i (Nat.zero_le _) (by omega)] at hei;cases hei
   ·rw [if_neg (fun h=>he h.1)]
    refine .inl ⟨rfl,fun i _ hi=>?_⟩
    by_cases hin:i=n
    ·subst hin;simpa using he
    ·exact h2 i (Nat.zero_le _) (by omega)
  ·rw [h1,Int.toNat_natCast]
   by_cases hc:e n=true∧v k*w n<v n*w k
   ·rw [if_pos ⟨hc.1,.inr hc.2⟩]
    refine .inr ⟨n,rfl,Nat.zero_le _,Nat.lt_succ_self _,hc.1,fun i _ hi hei=>?_⟩
    by_cases hin:i=n
    ·subst hin;exact⟨Int.le_refl _,fun h=>absurd h (Nat.lt_irrefl _)⟩
    ·have:=ratio_lt2 (hw k) (hw i) (Int.le_of_lt (hw n)) (h5 i (Nat.zero_le _) (by omega) hei).1 hc.2
     exact⟨Int.le_of_lt this,fun _=>this⟩
   ·rw [if_neg (by rintro⟨h,h'|h'⟩;omega;exact hc ⟨h,h'⟩)]
    refine .inr ⟨k,rfl,Nat.zero_le _,by omega,h4,fun i _ hi hei=>?_⟩
    by_cases hin:i=n
    ·subst hin
     refine⟨?_,fun h=>by omega⟩
     rcases Int.lt_or_le (v k*w i) (v i*w k) with h|h
     ·exact absurd ⟨hei,h⟩ hc
     ·exact h
    ·exact h5 i (Nat.zero_le _) (by omega) hei
theorem fb_range(n:Nat):fb e w v n=-1∨∃ k:Nat,fb e w v n=k∧k<n∧e k=true:=by
 induction n with
 | zero=>exact .inl rfl
 | succ n ih =>
  unfold fb
  split
  ·rename_i h;exact .inr ⟨n,rfl,Nat.lt_succ_self _,h.1⟩
  ·rcases ih with h|⟨k,h1,h2,h3⟩
   ·exact .inl h
   ·exact .inr ⟨k,h1,by omega,h3⟩
end
end Go.Proofs.YtkkcnppgcnmikaaGreatDoor
namespace Go.Proofs.YtkkcnppgcnmikaaGreatDoor
open Go FM
set_option linter.all false
abbrev atZ(l:List Int)(i:Nat):Int:=l.getD i 0
theorem atZ_get{l:List Int}{i:Nat}(h:i<l.length):atZ l i=l[i]:=by unfold atZ;rw [List.getD_eq_getElem?_getD,List.getElem?_eq_getElem h];rfl
def badBid(x:Int):Bool:=decide (x<0∨1000000<x)
def bidE(l:List Int)(r:Int):Int:=if 10<l.length then 2 else if l.any badBid=true∨r<0∨1000000<r then 1 else 0
structure BOk(l:List Int)(r:Int):Prop where
 len:l.length≤10
 ok:∀ x∈l,0≤x∧x≤1000000
 r0:0≤r
 r1:r≤1000000
theorem bidE_ok{l:List Int}{r:Int}(h:bidE l r=0):BOk l r:=by
 unfold bidE at h
 split at h
 ·cases h
 ·split at h
  ·cases h
  ·rename_i h1 h2
   have h3:¬ (l.any badBid=true):=fun e=>h2 (.inl e)
   refine⟨by omega,fun x hx=>?_,by omega,by omega⟩
   have:¬ badBid x=true:=fun e=>h3 (List.any_eq_true.2 ⟨x,hx,e⟩)
   unfold badBid at this
   rw [decide_eq_true_iff] at this
   omega
theorem BOk.at{l:List Int} {r:Int} (h:BOk l r) (i:Nat):0≤atZ l i∧atZ l i≤1000000:=by
 by_cases hi:i<l.length
 ·rw [atZ_get hi];exact h.ok _ (List.getElem_mem hi)
 ·unfold atZ;rw [List.getD_eq_getElem?_getD,List.getElem?_eq_none (by omega)];simp
def bst(l:List Int)(r:Int)(k:Nat):Int:=fb (fun i=>decide (r≤atZ l i)) (fun _=>1) (atZ l) k
theorem bst_succ{l:List Int}{r:Int}{k:Nat}(h:k<l.length):bst l r (k+1)=if r≤l[k]∧(bst l r k<0∨atZ l (bst l r k).toNat<l[k]) then(k:Int) else bst l r k:=by
 show(if decide (r≤atZ l k)=true∧(bst l r k<0∨atZ l (bst l r k).toNat*1<atZ l k*1) then(k:Int) else bst l r k)=_
 simp only [decide_eq_true_eq,Int.mul_one]
 rw [atZ_get h]
theorem bst_range(l:List Int)(r:Int)(k:Nat):-1≤bst l r k∧bst l r k<k:=by
 rcases fb_range (e:=fun i=>decide (r≤atZ l i)) (w:=fun _=>1) (v:=atZ l) k with h|⟨j,h,hj,_⟩
 ·unfold bst;rw [h];omega
 ·unfold bst;rw [h];omega
def oth(l:List Int)(r b:Int):Nat→Int
 | 0=>r
 | k+1=>if (k:Int)=b then oth l r b k else max (oth l r b k) (atZ l k)
theorem oth_ge{l:List Int}{r b:Int}:∀ k,r≤oth l r b k∧∀ i,i<k→(i:Int)≠b→atZ l i≤oth l r b k
 | 0=>⟨Int.le_refl _,fun i h=>by omega⟩
 | k+1=>by
  have ih:=oth_ge (l:=l) (r:=r) (b:=b) k
  unfold oth
  by_cases e:(k:Int)=b
  ·rw [if_pos e]
   refine⟨ih.1,fun i hi hb=>?_⟩
   by_cases hik:i=k
   ·subst hik;exact absurd e hb
   ·exact ih.2 i (by omega) hb
  ·rw [if_neg e]
   refine⟨by have:=ih.1;omega,fun i hi hb=>?_⟩
   by_cases hik:i=k
   ·subst hik;omega
   ·have:=ih.2 i (by omega) hb;omega
theorem oth_is{l:List Int}{r b:Int}:∀ k,oth l r b k=r∨∃ i,i<k∧(i:Int)≠b∧oth l r b k=atZ l i
 | 0=>.inl rfl
 | k+1=>by
  have ih:=oth_is (l:=l) (r:=r) (b:=b) k
  unfold oth
  by_cases e:(k:Int)=b
  ·rw [if_pos e]
   rcases ih with h|⟨i,h1,h2,h3⟩
   ·exact .inl h
   ·exact .inr ⟨i,by omega,h2,h3⟩
  ·rw [if_neg e]
   rcases Int.le_total (oth l r b k) (atZ l k) with h|h
   ·exact .inr ⟨k,by omega,e,by omega⟩
   ·rw [show max (oth l r b k) (atZ l k)=oth l r b k by omega]
    rcases ih with h|⟨i,h1,h2,h3⟩
    ·exact .inl h
    ·exact .inr ⟨i,by omega,h2,h3⟩
/-! ### ranked -/
def ahd(l:List Int)(i k:Int):Prop:=atZ l k.toNat<atZ l i.toNat∨(atZ l i.toNat=atZ l k.toNat∧i≤k)
instance (l : List Int) (i k : Int) : Decidable (ahd l i k) := by unfold ahd; infer_instance
structure Rk(l R:List Int):Prop where
 perm:R.Perm ((List.range l.length).map fun(k:Nat)=>(k:Int))
 srt:R.Pairwise (ahd l)
theorem Rk.mem{l R:List Int}(h:Rk l R){x:Int}:x∈R↔∃ k:Nat,x=k∧k<l.length:=by
 rw [h.perm.mem_iff,List.mem_map]
 exact⟨fun⟨k,h1,h2⟩=>⟨k,h2.symm,List.mem_range.1 h1⟩,fun⟨k,h1,h2⟩=>⟨k,List.mem_range.2 h2,h1.symm⟩⟩
theorem Rk.length{l R:List Int}(h:Rk l R):R.length=l.length:=by rw [h.perm.length_eq];simp
theorem Rk.nodup{l R:List Int}(h:Rk l R):R.Nodup:=by
 rw [h.perm.nodup_iff]
 refine List.Pairwise.map _ (fun a b (h:a≠b) e=>h (by exact_mod_cast e)) List.nodup_range
theorem Rk.head{l:List Int}{b:Int}{R:List Int}(h:Rk l (b::R)):∃ k:Nat,b=k∧k<l.length∧∀ i,i<l.length→i≠k→atZ l i<atZ l k∨(atZ l i=atZ l k∧k<i):=by
 obtain⟨k,hk,hl⟩:=h.mem.1 (List.mem_cons_self ..)
 refine⟨k,hk,hl,fun i hi hne=>?_⟩
 have hm:(i:Int)∈R:=by
  rcases List.mem_cons.1 (h.mem.2 ⟨i,rfl,hi⟩) with e|e
  ·omega
  ·exact e
 have:=(List.pairwise_cons.1 h.srt).1 _ hm
 unfold ahd at this
 rw [hk,Int.toNat_natCast,Int.toNat_natCast] at this
 omega
theorem Rk.bst{l:List Int}{b:Int}{R:List Int}{r:Int}(h:Rk l (b::R)):bst l r l.length=if r≤atZ l b.toNat then b else -1:=by
 obtain⟨k,hk,hl,hb⟩:=h.head
 refine isB_one (fb_isB (fun _=>by decide) l.length) ?_
 rw [hk,Int.toNat_natCast]
 by_cases hr:r≤atZ l k
 ·rw [if_pos hr]
  refine .inr ⟨k,rfl,Nat.zero_le _,hl,decide_eq_true hr,fun i _ hi _=>?_⟩
  by_cases e:i=k
  ·subst e;exact⟨Int.le_refl _,fun h=>absurd h (Nat.lt_irrefl _)⟩
  ·have:=hb i hi e
   refine⟨?_,fun _=>?_⟩<;>simp only [Int.mul_one]<;>omega
 ·rw [if_neg hr]
  refine .inl ⟨rfl,fun i _ hi=>decide_eq_false fun h=>?_⟩
  by_cases e:i=k
  ·subst e;exact hr h
  ·have:=hb i hi e;omega
theorem Rk.oth1{l:List Int}{b:Int}{r:Int}(h:Rk l [b]):oth l r b l.length=r:=by
 have hl:=h.length
 rcases oth_is (l:=l) (r:=r) (b:=b) l.length with h1|⟨i,h1,h2,_⟩
 ·exact h1
 ·have:=h.mem.2 ⟨i,rfl,h1⟩
  rw [List.mem_singleton] at this
  exact absurd this h2
theorem Rk.oth2{l:List Int}{b c:Int}{R:List Int}{r:Int}(h:Rk l (b::c::R)):oth l r b l.length=max r (atZ l c.toNat):=by
 have hn:=h.nodup
 obtain⟨k,hk,hkl⟩:=h.mem.1 (List.mem_cons_of_mem _ (List.mem_cons_self ..))
 have hcb:c≠b:=fun e=>by
  have:=(List.nodup_cons.1 hn).1
  rw [e] at this;exact this (List.mem_cons_self ..)
 have g:=oth_ge (l:=l) (r:=r) (b:=b) l.length
 have g2:=g.2 k hkl (by rw [← hk];exact hcb)
 have hle:∀ i,i<l.length→(i:Int)≠b→atZ l i≤atZ l c.toNat:=fun i hi hb=>by
  rcases List.mem_cons.1 (h.mem.2 ⟨i,rfl,hi⟩) with e|e
  ·exact absurd e hb
  ·rcases List.mem_cons.1 e with e|e
   ·rw [← e,Int.toNat_natCast];exact Int.le_refl _
   ·have:=(List.pairwise_cons.1 (List.pairwise_cons.1 h.srt).2).1 _ e
    unfold ahd at this
    rw [Int.toNat_natCast] at this
    omega
 rw [hk,Int.toNat_natCast] at hle ⊢
 rcases oth_is (l:=l) (r:=r) (b:=b) l.length with h1|⟨i,h1,h2,h3⟩
 ·have:=g.1;omega
 ·have:=hle i h1 h2;have:=g.1;omega
/-! ### step by step -/
end Go.Proofs.YtkkcnppgcnmikaaGreatDoor
namespace Go.Proofs.YtkkcnppgcnmikaaGreatDoor
open Go Go.Proofs Go.Shelf Go.RowKit Go.Lib Go.Sort
set_option linter.all false
theorem drewN2(W:World)(a b:Nat):(W.drewN a).drewN b=W.drewN (a+b):=by simp only [World.drewN,Nat.add_assoc]
theorem rank1(n i k off cap B b:Nat)(x y:Int)(hi:i<n)(hk:k<n)(W:World)(hc:W.cell? ⟨B,0,none⟩=some (.slice (some ⟨b,off,none⟩) n cap))(hx:W.cell? ⟨b,off+i,none⟩=some (.int .i64 x))(hy:W.cell? ⟨b,off+k,none⟩=some (.int .i64 y))
  (hx0:0≤x∧x≤1000000) (hy0:0≤y∧y≤1000000) (hn:n≤1000000) :
  Calls Tryz.prog 245 #[.int .i64 i,.int .i64 k,.pointer (some ⟨B,0,none⟩)] W fun e w'=>e=.returned (.int .i64 (if x≠y then y-x else(i:Int)-k))∧∃ q,w'=W.drewN q:=by
 have hi':(i:Int)<(n:Int):=by omega
 have hk':(k:Int)<(n:Int):=by omega
 have hi0:(0:Int)≤(i:Int):=by omega
 have hk0:(0:Int)≤(k:Int):=by omega
 have w1:IntKind.i64.wrap (y-x)=y-x:=IntWalk.i64_in _ (by omega)
 have w2:IntKind.i64.wrap ((i:Int)-k)=(i:Int)-k:=IntWalk.i64_in _ (by omega)
 by_cases hxy:x=y
 ·subst hxy
  rw [if_neg (by simp)]
  go_enter Tryz.func245,Tryz.ntmps245
  go_wp2
  go_quiet (fail)
  go_wp2
  all_goals (go_ret;exact⟨by simp_all,_,rfl⟩)
 ·rw [if_pos hxy]
  go_enter Tryz.func245,Tryz.ntmps245
  go_wp2
  go_quiet (fail)
  go_wp2
  go_quiet (fail)
  go_wp2
  all_goals (go_ret;exact⟨by simp_all,_,drewN2 _ _ _⟩)
/-! ### what the sort leaves -/
def rkF(bids:List Int)(x y:Nat):Int:=if atZ bids x≠atZ bids y then atZ bids y-atZ bids x else(x:Int)-y
def rkLe(bids:List Int)(x y:Nat):Bool:=!(decide (rkF bids y x<0))
def rkd(bids:List Int):List Int:=((List.range bids.length).mergeSort (rkLe bids)).map fun(k:Nat)=>(k:Int)
theorem rkLe_iff{bids:List Int}{x y:Nat}:rkLe bids x y=true↔ahd bids x y:=by
 unfold rkLe rkF ahd
 rw [Bool.not_eq_true',decide_eq_false_iff_not,Int.toNat_natCast,Int.toNat_natCast]
 split<;>omega
theorem rk_ok(bids:List Int):Rk bids (rkd bids):=by
 refine⟨(List.mergeSort_perm _ _).map _,?_⟩
 unfold rkd
 rw [List.pairwise_map]
 have:=List.pairwise_mergeSort (le:=rkLe bids) (fun a b c h1 h2=>by rw [rkLe_iff] at *;unfold ahd at *;rw [Int.toNat_natCast,Int.toNat_natCast] at *;omega) (fun a b=>by
  rw [Bool.or_eq_true,rkLe_iff,rkLe_iff];unfold ahd;rw [Int.toNat_natCast,Int.toNat_natCast];omega) (List.range bids.length)
 exact this.imp fun h=>rkLe_iff.1 h
theorem rk_fin(bids:List Int)(m:Nat)(hm:bids.length=m+1):rkd bids=((List.finRange (m+1)).mergeSort fun x y=>rkLe bids x.val y.val).map fun x=>(x.val:Int):=by
 unfold rkd
 have h1:=List.map_mergeSort (r:=fun(x y:Fin (m+1))=>rkLe bids x.val y.val) (s:=rkLe bids) (f:=fun x:Fin (m+1)=>x.val) (l:=List.finRange (m+1)) (fun a _ b _=>rfl)
 have h2:(List.finRange (m+1)).map (fun x:Fin (m+1)=>x.val)=List.range (m+1):=by
  apply List.ext_getElem
  ·simp
  ·intro i h1 h2;simp
 rw [h2] at h1
 rw [hm,←h1,List.map_map];rfl
theorem cell_sortE{α:Type}[Inhabited α](enc:α→Value){w:World}{blk n B j:Nat}{dk:Array α}{os:Array Obj}{u:Value}(hB:B<w.heap.size)(hne:B≠blk)(h:w.cell? ⟨B,j,none⟩=some u):(Go.Proofs.sortWorld enc w blk 0 n dk os).cell? ⟨B,j,none⟩=some u:=by
 unfold Go.Proofs.sortWorld
 rw [Go.Sort.cell?_grow _ _ _ (by show B<(Go.Sort.putRow _ _ _ _ _).heap.size;rw [Go.Sort.size_putRow];exact hB),Go.Sort.cell?_putRow_other _ _ blk 0 _ _ (Or.inl hne)]
 exact h
theorem rank_cmp(bids:List Int)(m:Nat)(hm:bids.length=m+1)(hr:∀ i,0≤atZ bids i∧atZ bids i≤1000000)(hbig:m≤100000)(w:World)(blk B b off cap:Nat)(h1:B≠blk)(h2:b≠blk)(h3:B<w.heap.size)(h4:b<w.heap.size)
  (hc:w.cell? ⟨B,0,none⟩=some (.slice (some ⟨b,off,none⟩) bids.length cap)) (hz:∀ j,(hj:j<bids.length)→w.cell? ⟨b,off+j,none⟩=some (.int .i64 bids[j])) (sz:Nat) :
  CmpLays1 Tryz.prog 245 #[.pointer (some ⟨B,0,none⟩)] (fun x:Fin (m+1)=>.int .i64 (x.val:Int)) (fun x y=>rkF bids x.val y.val) blk 0 sz w:=by
 intro q os dk _ x y
 have hx:x.val<bids.length:=by omega
 have hy:y.val<bids.length:=by omega
 have:=rank1 bids.length x.val y.val off cap B b (atZ bids x.val) (atZ bids y.val) hx hy (Go.Proofs.sortWorld (fun x:Fin (m+1)=>.int .i64 (x.val:Int)) w blk 0 q dk os) (cell_sortE _ h3 h1 hc) (by rw [atZ_get hx];exact cell_sortE _ h4 h2 (hz _ hx)) (by rw [atZ_get hy];exact cell_sortE _ h4 h2 (hz _ hy)) (hr _) (hr _) (by omega)
 exact this.mono fun e w' ⟨he,k,hw⟩=>⟨he,k,#[],by rw [hw,grow_empty]⟩
theorem rank_swo(bids:List Int)(m:Nat):SWO (ltOf fun x y:Fin (m+1)=>rkF bids x.val y.val):=by
 refine⟨fun x=>?_,fun x y z h1 h2=>?_,fun x y z h1 h2=>?_⟩<;>unfold ltOf rkF at *<;>simp only [decide_eq_true_eq,decide_eq_false_iff_not] at *<;>(repeat' split at *)<;>omega
end Go.Proofs.YtkkcnppgcnmikaaGreatDoor
namespace FM
open Go Go.RowKit
set_option linter.all false
section
variable {S:Sys} {N:Nat} {σ:St}
theorem clo_eval{t f:Nat}{caps:List Nat}(ht:get σ t=.clo f caps){w0:World}{L0:Nat→Lab}{a:Act}{w:World}{L:Nat→Lab}(hR:RelL S w0 L0 N σ a w L):a.eval (.tmp t)=.func (.func f) #[] ((caps.map Operand.tmp).map a.eval).toArray:=by
 have hf:=hR.hold t (own_lt hR ht (by simp))
 rw [ht] at hf
 simp only [Hold] at hf
 show a.tmps.getD t undef=_
 rw [hf,List.map_map];rfl
end
end FM
