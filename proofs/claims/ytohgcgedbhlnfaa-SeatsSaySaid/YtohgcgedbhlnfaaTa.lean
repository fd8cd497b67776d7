/- The seat's table of types, each row held against the loaded program. Written by a program of the prover's (tab.py). -/
import Derived.Test.YtohgcgedbhlnfaaChecked
import Derived.Test.YtohgcgedbhlnfaaFf
namespace Go.Proofs.Ytohgcgedbhlnfaa
open Go FM

def tab : List (Nat × TI) := [
  (2, ⟨.int .i64, 1, 8, [.int 0]⟩),
  (3, ⟨.int .i64, 1, 8, [.int 0]⟩),
  (4, ⟨.plain, 1, 1, [.bool false]⟩),
  (5, ⟨.int .u8, 1, 1, [.val (.int .u8 0)]⟩),
  (6, ⟨.int .u8, 1, 1, [.val (.int .u8 0)]⟩),
  (7, ⟨.struct [(0, 2), (1, 3), (2, 4), (3, 6)], 4, 24, [.int 0, .int 0, .bool false, .val (.int .u8 0)]⟩),
  (8, ⟨.struct [(0, 2), (1, 3), (2, 4), (3, 6)], 4, 24, [.int 0, .int 0, .bool false, .val (.int .u8 0)]⟩),
  (9, ⟨.str, 1, 16, [.str []]⟩),
  (10, ⟨.str, 1, 16, [.str []]⟩),
  (11, ⟨.str, 1, 16, [.str []]⟩),
  (12, ⟨.int .u64, 1, 8, [.val (.int .u64 0)]⟩),
  (13, ⟨.struct [(0, 9), (1, 12)], 2, 24, [.str [], .val (.int .u64 0)]⟩),
  (14, ⟨.struct [(0, 9), (1, 12)], 2, 24, [.str [], .val (.int .u64 0)]⟩),
  (15, ⟨.plain, 1, 8, [.val (.pointer none)]⟩),
  (16, ⟨.plain, 1, 8, [.val (.pointer none)]⟩),
  (17, ⟨.plain, 1, 8, [.val (.pointer none)]⟩),
  (18, ⟨.struct [(0, 17)], 1, 8, [.val (.pointer none)]⟩),
  (19, ⟨.struct [(0, 17)], 1, 8, [.val (.pointer none)]⟩),
  (21, ⟨.int .i32, 1, 4, [.val (.int .i32 0)]⟩),
  (22, ⟨.slice 26, 1, 24, [.nil]⟩),
  (23, ⟨.int .i64, 1, 8, [.int 0]⟩),
  (26, ⟨.slice 3, 1, 24, [.nil]⟩),
  (34, ⟨.struct [(0, 3), (1, 3)], 2, 16, [.int 0, .int 0]⟩),
  (35, ⟨.struct [(0, 3), (1, 3)], 2, 16, [.int 0, .int 0]⟩),
  (41, ⟨.slice 84, 1, 24, [.nil]⟩),
  (84, ⟨.arr 2 3, 2, 16, [.int 0, .int 0]⟩),
  (88, ⟨.slice 90, 1, 24, [.nil]⟩),
  (89, ⟨.struct [(0, 3), (1, 3), (2, 3)], 3, 24, [.int 0, .int 0, .int 0]⟩),
  (90, ⟨.struct [(0, 3), (1, 3), (2, 3)], 3, 24, [.int 0, .int 0, .int 0]⟩),
  (99, ⟨.slice 23, 1, 24, [.nil]⟩),
  (102, ⟨.slice 35, 1, 24, [.nil]⟩),
  (109, ⟨.plain, 1, 8, [.val (.map none)]⟩),
  (111, ⟨.int .u64, 1, 8, [.val (.int .u64 0)]⟩),
  (119, ⟨.arr 6 4, 6, 6, [.bool false, .bool false, .bool false, .bool false, .bool false, .bool false]⟩),
  (120, ⟨.arr 6 3, 6, 48, [.int 0, .int 0, .int 0, .int 0, .int 0, .int 0]⟩),
  (126, ⟨.int .u32, 1, 4, [.val (.int .u32 0)]⟩),
  (129, ⟨.int .u64, 1, 8, [.val (.int .u64 0)]⟩),
  (136, ⟨.int .i64, 1, 8, [.int 0]⟩),
  (153, ⟨.int .u64, 1, 8, [.val (.int .u64 0)]⟩),
  (157, ⟨.plain, 1, 8, [.val (.pointer none)]⟩),
  (161, ⟨.plain, 1, 8, [.val (.pointer none)]⟩),
  (166, ⟨.struct [(0, 17), (1, 17), (2, 17), (3, 9)], 4, 40, [.val (.pointer none), .val (.pointer none), .val (.pointer none), .str []]⟩),
  (167, ⟨.struct [(0, 17), (1, 17), (2, 17), (3, 9)], 4, 40, [.val (.pointer none), .val (.pointer none), .val (.pointer none), .str []]⟩),
  (172, ⟨.int .u8, 1, 1, [.val (.int .u8 0)]⟩),
  (173, ⟨.int .u8, 1, 1, [.val (.int .u8 0)]⟩),
  (175, ⟨.plain, 1, 8, [.val (.pointer none)]⟩),
  (176, ⟨.int .i32, 1, 4, [.val (.int .i32 0)]⟩),
  (177, ⟨.int .i32, 1, 4, [.val (.int .i32 0)]⟩),
  (178, ⟨.struct [(0, 12), (1, 12), (2, 126), (3, 172), (4, 5), (5, 5), (6, 173), (7, 174), (8, 175), (9, 176), (10, 177)], 11, 48, [.val (.int .u64 0), .val (.int .u64 0), .val (.int .u32 0), .val (.int .u8 0), .val (.int .u8 0), .val (.int .u8 0), .val (.int .u8 0), .val .nilFunc, .val (.pointer none), .val (.int .i32 0), .val (.int .i32 0)]⟩),
  (179, ⟨.struct [(0, 12), (1, 12), (2, 126), (3, 172), (4, 5), (5, 5), (6, 173), (7, 174), (8, 175), (9, 176), (10, 177)], 11, 48, [.val (.int .u64 0), .val (.int .u64 0), .val (.int .u32 0), .val (.int .u8 0), .val (.int .u8 0), .val (.int .u8 0), .val (.int .u8 0), .val .nilFunc, .val (.pointer none), .val (.int .i32 0), .val (.int .i32 0)]⟩)]
theorem tok2 : TOk Try.prog 2 ⟨.int .i64, 1, 8, [.int 0]⟩ := ⟨⟨_, Try.underlying2, rfl⟩, TOk.ofInfo (by kernel_rfl) (by kernel_rfl) (by kernel_rfl) (by kernel_rfl)⟩
theorem tok3 : TOk Try.prog 3 ⟨.int .i64, 1, 8, [.int 0]⟩ := ⟨⟨_, Try.underlying3, rfl⟩, TOk.ofInfo (by kernel_rfl) (by kernel_rfl) (by kernel_rfl) (by kernel_rfl)⟩
theorem tok4 : TOk Try.prog 4 ⟨.plain, 1, 1, [.bool false]⟩ := ⟨⟨_, Try.underlying4, trivial⟩, TOk.ofInfo (by kernel_rfl) (by kernel_rfl) (by kernel_rfl) (by kernel_rfl)⟩
theorem tok5 : TOk Try.prog 5 ⟨.int .u8, 1, 1, [.val (.int .u8 0)]⟩ := ⟨⟨_, Try.underlying5, rfl⟩, TOk.ofInfo (by kernel_rfl) (by kernel_rfl) (by kernel_rfl) (by kernel_rfl)⟩
theorem tok6 : TOk Try.prog 6 ⟨.int .u8, 1, 1, [.val (.int .u8 0)]⟩ := ⟨⟨_, Try.underlying6, rfl⟩, TOk.ofInfo (by kernel_rfl) (by kernel_rfl) (by kernel_rfl) (by kernel_rfl)⟩
theorem tok7 : TOk Try.prog 7 ⟨.struct [(0, 2), (1, 3), (2, 4), (3, 6)], 4, 24, [.int 0, .int 0, .bool false, .val (.int .u8 0)]⟩ := ⟨⟨_, Try.underlying7, ⟨_, rfl, rfl⟩⟩, TOk.ofInfo (by kernel_rfl) (by kernel_rfl) (by kernel_rfl) (by kernel_rfl)⟩
theorem tok8 : TOk Try.prog 8 ⟨.struct [(0, 2), (1, 3), (2, 4), (3, 6)], 4, 24, [.int 0, .int 0, .bool false, .val (.int .u8 0)]⟩ := ⟨⟨_, Try.underlying8, ⟨_, rfl, rfl⟩⟩, TOk.ofInfo (by kernel_rfl) (by kernel_rfl) (by kernel_rfl) (by kernel_rfl)⟩
theorem tok9 : TOk Try.prog 9 ⟨.str, 1, 16, [.str []]⟩ := ⟨⟨_, Try.underlying9, rfl⟩, TOk.ofInfo (by kernel_rfl) (by kernel_rfl) (by kernel_rfl) (by kernel_rfl)⟩
theorem tok10 : TOk Try.prog 10 ⟨.str, 1, 16, [.str []]⟩ := ⟨⟨_, Try.underlying10, rfl⟩, TOk.ofInfo (by kernel_rfl) (by kernel_rfl) (by kernel_rfl) (by kernel_rfl)⟩
theorem tok11 : TOk Try.prog 11 ⟨.str, 1, 16, [.str []]⟩ := ⟨⟨_, Try.underlying11, rfl⟩, TOk.ofInfo (by kernel_rfl) (by kernel_rfl) (by kernel_rfl) (by kernel_rfl)⟩
theorem tok12 : TOk Try.prog 12 ⟨.int .u64, 1, 8, [.val (.int .u64 0)]⟩ := ⟨⟨_, Try.underlying12, rfl⟩, TOk.ofInfo (by kernel_rfl) (by kernel_rfl) (by kernel_rfl) (by kernel_rfl)⟩
theorem tok13 : TOk Try.prog 13 ⟨.struct [(0, 9), (1, 12)], 2, 24, [.str [], .val (.int .u64 0)]⟩ := ⟨⟨_, Try.underlying13, ⟨_, rfl, rfl⟩⟩, TOk.ofInfo (by kernel_rfl) (by kernel_rfl) (by kernel_rfl) (by kernel_rfl)⟩
theorem tok14 : TOk Try.prog 14 ⟨.struct [(0, 9), (1, 12)], 2, 24, [.str [], .val (.int .u64 0)]⟩ := ⟨⟨_, Try.underlying14, ⟨_, rfl, rfl⟩⟩, TOk.ofInfo (by kernel_rfl) (by kernel_rfl) (by kernel_rfl) (by kernel_rfl)⟩
theorem tok15 : TOk Try.prog 15 ⟨.plain, 1, 8, [.val (.pointer none)]⟩ := ⟨⟨_, Try.underlying15, trivial⟩, TOk.ofInfo (by kernel_rfl) (by kernel_rfl) (by kernel_rfl) (by kernel_rfl)⟩
theorem tok16 : TOk Try.prog 16 ⟨.plain, 1, 8, [.val (.pointer none)]⟩ := ⟨⟨_, Try.underlying16, trivial⟩, TOk.ofInfo (by kernel_rfl) (by kernel_rfl) (by kernel_rfl) (by kernel_rfl)⟩
theorem tok17 : TOk Try.prog 17 ⟨.plain, 1, 8, [.val (.pointer none)]⟩ := ⟨⟨_, Try.underlying17, trivial⟩, TOk.ofInfo (by kernel_rfl) (by kernel_rfl) (by kernel_rfl) (by kernel_rfl)⟩
theorem tok18 : TOk Try.prog 18 ⟨.struct [(0, 17)], 1, 8, [.val (.pointer none)]⟩ := ⟨⟨_, Try.underlying18, ⟨_, rfl, rfl⟩⟩, TOk.ofInfo (by kernel_rfl) (by kernel_rfl) (by kernel_rfl) (by kernel_rfl)⟩
theorem tok19 : TOk Try.prog 19 ⟨.struct [(0, 17)], 1, 8, [.val (.pointer none)]⟩ := ⟨⟨_, Try.underlying19, ⟨_, rfl, rfl⟩⟩, TOk.ofInfo (by kernel_rfl) (by kernel_rfl) (by kernel_rfl) (by kernel_rfl)⟩
theorem tok21 : TOk Try.prog 21 ⟨.int .i32, 1, 4, [.val (.int .i32 0)]⟩ := ⟨⟨_, Try.underlying21, rfl⟩, TOk.ofInfo (by kernel_rfl) (by kernel_rfl) (by kernel_rfl) (by kernel_rfl)⟩
theorem tok22 : TOk Try.prog 22 ⟨.slice 26, 1, 24, [.nil]⟩ := ⟨⟨_, Try.underlying22, rfl⟩, TOk.ofInfo (by kernel_rfl) (by kernel_rfl) (by kernel_rfl) (by kernel_rfl)⟩
theorem tok23 : TOk Try.prog 23 ⟨.int .i64, 1, 8, [.int 0]⟩ := ⟨⟨_, Try.underlying23, rfl⟩, TOk.ofInfo (by kernel_rfl) (by kernel_rfl) (by kernel_rfl) (by kernel_rfl)⟩
theorem tok26 : TOk Try.prog 26 ⟨.slice 3, 1, 24, [.nil]⟩ := ⟨⟨_, Try.underlying26, rfl⟩, TOk.ofInfo (by kernel_rfl) (by kernel_rfl) (by kernel_rfl) (by kernel_rfl)⟩
theorem tok34 : TOk Try.prog 34 ⟨.struct [(0, 3), (1, 3)], 2, 16, [.int 0, .int 0]⟩ := ⟨⟨_, Try.underlying34, ⟨_, rfl, rfl⟩⟩, TOk.ofInfo (by kernel_rfl) (by kernel_rfl) (by kernel_rfl) (by kernel_rfl)⟩
theorem tok35 : TOk Try.prog 35 ⟨.struct [(0, 3), (1, 3)], 2, 16, [.int 0, .int 0]⟩ := ⟨⟨_, Try.underlying35, ⟨_, rfl, rfl⟩⟩, TOk.ofInfo (by kernel_rfl) (by kernel_rfl) (by kernel_rfl) (by kernel_rfl)⟩
theorem tok41 : TOk Try.prog 41 ⟨.slice 84, 1, 24, [.nil]⟩ := ⟨⟨_, Try.underlying41, rfl⟩, TOk.ofInfo (by kernel_rfl) (by kernel_rfl) (by kernel_rfl) (by kernel_rfl)⟩
theorem tok84 : TOk Try.prog 84 ⟨.arr 2 3, 2, 16, [.int 0, .int 0]⟩ := ⟨⟨_, Try.underlying84, rfl⟩, TOk.ofInfo (by kernel_rfl) (by kernel_rfl) (by kernel_rfl) (by kernel_rfl)⟩
theorem tok88 : TOk Try.prog 88 ⟨.slice 90, 1, 24, [.nil]⟩ := ⟨⟨_, Try.underlying88, rfl⟩, TOk.ofInfo (by kernel_rfl) (by kernel_rfl) (by kernel_rfl) (by kernel_rfl)⟩
theorem tok89 : TOk Try.prog 89 ⟨.struct [(0, 3), (1, 3), (2, 3)], 3, 24, [.int 0, .int 0, .int 0]⟩ := ⟨⟨_, Try.underlying89, ⟨_, rfl, rfl⟩⟩, TOk.ofInfo (by kernel_rfl) (by kernel_rfl) (by kernel_rfl) (by kernel_rfl)⟩
theorem tok90 : TOk Try.prog 90 ⟨.struct [(0, 3), (1, 3), (2, 3)], 3, 24, [.int 0, .int 0, .int 0]⟩ := ⟨⟨_, Try.underlying90, ⟨_, rfl, rfl⟩⟩, TOk.ofInfo (by kernel_rfl) (by kernel_rfl) (by kernel_rfl) (by kernel_rfl)⟩
theorem tok99 : TOk Try.prog 99 ⟨.slice 23, 1, 24, [.nil]⟩ := ⟨⟨_, Try.underlying99, rfl⟩, TOk.ofInfo (by kernel_rfl) (by kernel_rfl) (by kernel_rfl) (by kernel_rfl)⟩
theorem tok102 : TOk Try.prog 102 ⟨.slice 35, 1, 24, [.nil]⟩ := ⟨⟨_, Try.underlying102, rfl⟩, TOk.ofInfo (by kernel_rfl) (by kernel_rfl) (by kernel_rfl) (by kernel_rfl)⟩
theorem tok109 : TOk Try.prog 109 ⟨.plain, 1, 8, [.val (.map none)]⟩ := ⟨⟨_, Try.underlying109, trivial⟩, TOk.ofInfo (by kernel_rfl) (by kernel_rfl) (by kernel_rfl) (by kernel_rfl)⟩
theorem tok111 : TOk Try.prog 111 ⟨.int .u64, 1, 8, [.val (.int .u64 0)]⟩ := ⟨⟨_, Try.underlying111, rfl⟩, TOk.ofInfo (by kernel_rfl) (by kernel_rfl) (by kernel_rfl) (by kernel_rfl)⟩
theorem tok119 : TOk Try.prog 119 ⟨.arr 6 4, 6, 6, [.bool false, .bool false, .bool false, .bool false, .bool false, .bool false]⟩ := ⟨⟨_, Try.underlying119, rfl⟩, TOk.ofInfo (by kernel_rfl) (by kernel_rfl) (by kernel_rfl) (by kernel_rfl)⟩
theorem tok120 : TOk Try.prog 120 ⟨.arr 6 3, 6, 48, [.int 0, .int 0, .int 0, .int 0, .int 0, .int 0]⟩ := ⟨⟨_, Try.underlying120, rfl⟩, TOk.ofInfo (by kernel_rfl) (by kernel_rfl) (by kernel_rfl) (by kernel_rfl)⟩
theorem tok126 : TOk Try.prog 126 ⟨.int .u32, 1, 4, [.val (.int .u32 0)]⟩ := ⟨⟨_, Try.underlying126, rfl⟩, TOk.ofInfo (by kernel_rfl) (by kernel_rfl) (by kernel_rfl) (by kernel_rfl)⟩
theorem tok129 : TOk Try.prog 129 ⟨.int .u64, 1, 8, [.val (.int .u64 0)]⟩ := ⟨⟨_, Try.underlying129, rfl⟩, TOk.ofInfo (by kernel_rfl) (by kernel_rfl) (by kernel_rfl) (by kernel_rfl)⟩
theorem tok136 : TOk Try.prog 136 ⟨.int .i64, 1, 8, [.int 0]⟩ := ⟨⟨_, Try.underlying136, rfl⟩, TOk.ofInfo (by kernel_rfl) (by kernel_rfl) (by kernel_rfl) (by kernel_rfl)⟩
theorem tok153 : TOk Try.prog 153 ⟨.int .u64, 1, 8, [.val (.int .u64 0)]⟩ := ⟨⟨_, Try.underlying153, rfl⟩, TOk.ofInfo (by kernel_rfl) (by kernel_rfl) (by kernel_rfl) (by kernel_rfl)⟩
theorem tok157 : TOk Try.prog 157 ⟨.plain, 1, 8, [.val (.pointer none)]⟩ := ⟨⟨_, Try.underlying157, trivial⟩, TOk.ofInfo (by kernel_rfl) (by kernel_rfl) (by kernel_rfl) (by kernel_rfl)⟩
theorem tok161 : TOk Try.prog 161 ⟨.plain, 1, 8, [.val (.pointer none)]⟩ := ⟨⟨_, Try.underlying161, trivial⟩, TOk.ofInfo (by kernel_rfl) (by kernel_rfl) (by kernel_rfl) (by kernel_rfl)⟩
theorem tok166 : TOk Try.prog 166 ⟨.struct [(0, 17), (1, 17), (2, 17), (3, 9)], 4, 40, [.val (.pointer none), .val (.pointer none), .val (.pointer none), .str []]⟩ := ⟨⟨_, Try.underlying166, ⟨_, rfl, rfl⟩⟩, TOk.ofInfo (by kernel_rfl) (by kernel_rfl) (by kernel_rfl) (by kernel_rfl)⟩
theorem tok167 : TOk Try.prog 167 ⟨.struct [(0, 17), (1, 17), (2, 17), (3, 9)], 4, 40, [.val (.pointer none), .val (.pointer none), .val (.pointer none), .str []]⟩ := ⟨⟨_, Try.underlying167, ⟨_, rfl, rfl⟩⟩, TOk.ofInfo (by kernel_rfl) (by kernel_rfl) (by kernel_rfl) (by kernel_rfl)⟩
theorem tok172 : TOk Try.prog 172 ⟨.int .u8, 1, 1, [.val (.int .u8 0)]⟩ := ⟨⟨_, Try.underlying172, rfl⟩, TOk.ofInfo (by kernel_rfl) (by kernel_rfl) (by kernel_rfl) (by kernel_rfl)⟩
theorem tok173 : TOk Try.prog 173 ⟨.int .u8, 1, 1, [.val (.int .u8 0)]⟩ := ⟨⟨_, Try.underlying173, rfl⟩, TOk.ofInfo (by kernel_rfl) (by kernel_rfl) (by kernel_rfl) (by kernel_rfl)⟩
theorem tok175 : TOk Try.prog 175 ⟨.plain, 1, 8, [.val (.pointer none)]⟩ := ⟨⟨_, Try.underlying175, trivial⟩, TOk.ofInfo (by kernel_rfl) (by kernel_rfl) (by kernel_rfl) (by kernel_rfl)⟩
theorem tok176 : TOk Try.prog 176 ⟨.int .i32, 1, 4, [.val (.int .i32 0)]⟩ := ⟨⟨_, Try.underlying176, rfl⟩, TOk.ofInfo (by kernel_rfl) (by kernel_rfl) (by kernel_rfl) (by kernel_rfl)⟩
theorem tok177 : TOk Try.prog 177 ⟨.int .i32, 1, 4, [.val (.int .i32 0)]⟩ := ⟨⟨_, Try.underlying177, rfl⟩, TOk.ofInfo (by kernel_rfl) (by kernel_rfl) (by kernel_rfl) (by kernel_rfl)⟩
theorem tok178 : TOk Try.prog 178 ⟨.struct [(0, 12), (1, 12), (2, 126), (3, 172), (4, 5), (5, 5), (6, 173), (7, 174), (8, 175), (9, 176), (10, 177)], 11, 48, [.val (.int .u64 0), .val (.int .u64 0), .val (.int .u32 0), .val (.int .u8 0), .val (.int .u8 0), .val (.int .u8 0), .val (.int .u8 0), .val .nilFunc, .val (.pointer none), .val (.int .i32 0), .val (.int .i32 0)]⟩ := ⟨⟨_, Try.underlying178, ⟨_, rfl, rfl⟩⟩, TOk.ofInfo (by kernel_rfl) (by kernel_rfl) (by kernel_rfl) (by kernel_rfl)⟩
theorem tok179 : TOk Try.prog 179 ⟨.struct [(0, 12), (1, 12), (2, 126), (3, 172), (4, 5), (5, 5), (6, 173), (7, 174), (8, 175), (9, 176), (10, 177)], 11, 48, [.val (.int .u64 0), .val (.int .u64 0), .val (.int .u32 0), .val (.int .u8 0), .val (.int .u8 0), .val (.int .u8 0), .val (.int .u8 0), .val .nilFunc, .val (.pointer none), .val (.int .i32 0), .val (.int .i32 0)]⟩ := ⟨⟨_, Try.underlying179, ⟨_, rfl, rfl⟩⟩, TOk.ofInfo (by kernel_rfl) (by kernel_rfl) (by kernel_rfl) (by kernel_rfl)⟩
theorem tab_ok : TabOk Try.prog tab := ⟨tok2, tok3, tok4, tok5, tok6, tok7, tok8, tok9, tok10, tok11, tok12, tok13, tok14, tok15, tok16, tok17, tok18, tok19, tok21, tok22, tok23, tok26, tok34, tok35, tok41, tok84, tok88, tok89, tok90, tok99, tok102, tok109, tok111, tok119, tok120, tok126, tok129, tok136, tok153, tok157, tok161, tok166, tok167, tok172, tok173, tok175, tok176, tok177, tok178, tok179, trivial⟩
/-- The program and its table. -/
noncomputable def Sy : FM.Sys := ⟨Try.prog, FM.look tab, fun t i h => FM.look_ok tab_ok h, by kernel_rfl, fun _ => false, fun _ => undef⟩
end Go.Proofs.Ytohgcgedbhlnfaa
