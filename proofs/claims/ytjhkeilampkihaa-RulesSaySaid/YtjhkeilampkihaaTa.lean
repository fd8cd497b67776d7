/- The seat's table of types, each row held against the loaded program. Written by a program of the prover's (tab.py). -/
import Derived.Test.YtjhkeilampkihaaChecked
import Derived.Test.YtjhkeilampkihaaFf
namespace Go.Proofs.Ytjhkeilampkihaa
open Go FM

def tab : List (Nat × TI) := [
  (2, ⟨.int .i64, 1, 8, [.int 0]⟩),
  (3, ⟨.int .i64, 1, 8, [.int 0]⟩),
  (4, ⟨.plain, 1, 1, [.bool false]⟩),
  (5, ⟨.int .u8, 1, 1, [.val (.int .u8 0)]⟩),
  (6, ⟨.int .u8, 1, 1, [.val (.int .u8 0)]⟩),
  (7, ⟨.struct [(0, 2), (1, 3), (2, 4), (3, 6)], 4, 24, [.int 0, .int 0, .bool false, .val (.int .u8 0)]⟩),
  (8, ⟨.struct [(0, 2), (1, 3), (2, 4), (3, 6)], 4, 24, [.int 0, .int 0, .bool false, .val (.int .u8 0)]⟩),
  (9, ⟨.str, 1, 16, [.str []]⟩),
  (10, ⟨.str, 1, 16, [.str []]⟩),
  (11, ⟨.str, 1, 16, [.str []]⟩),
  (12, ⟨.int .u64, 1, 8, [.val (.int .u64 0)]⟩),
  (13, ⟨.struct [(0, 9), (1, 12)], 2, 24, [.str [], .val (.int .u64 0)]⟩),
  (14, ⟨.struct [(0, 9), (1, 12)], 2, 24, [.str [], .val (.int .u64 0)]⟩),
  (15, ⟨.plain, 1, 8, [.val (.pointer none)]⟩),
  (16, ⟨.plain, 1, 8, [.val (.pointer none)]⟩),
  (17, ⟨.plain, 1, 8, [.val (.pointer none)]⟩),
  (18, ⟨.struct [(0, 17)], 1, 8, [.val (.pointer none)]⟩),
  (19, ⟨.struct [(0, 17)], 1, 8, [.val (.pointer none)]⟩),
  (21, ⟨.int .i32, 1, 4, [.val (.int .i32 0)]⟩),
  (22, ⟨.slice 35, 1, 24, [.nil]⟩),
  (23, ⟨.int .i64, 1, 8, [.int 0]⟩),
  (26, ⟨.slice 37, 1, 24, [.nil]⟩),
  (35, ⟨.slice 3, 1, 24, [.nil]⟩),
  (37, ⟨.arr 2 3, 2, 16, [.int 0, .int 0]⟩),
  (41, ⟨.struct [(0, 3), (1, 3)], 2, 16, [.int 0, .int 0]⟩),
  (42, ⟨.struct [(0, 3), (1, 3)], 2, 16, [.int 0, .int 0]⟩),
  (117, ⟨.arr 6 4, 6, 6, [.bool false, .bool false, .bool false, .bool false, .bool false, .bool false]⟩),
  (120, ⟨.slice 42, 1, 24, [.nil]⟩),
  (124, ⟨.slice 126, 1, 24, [.nil]⟩),
  (125, ⟨.struct [(0, 3), (1, 3), (2, 3)], 3, 24, [.int 0, .int 0, .int 0]⟩),
  (126, ⟨.struct [(0, 3), (1, 3), (2, 3)], 3, 24, [.int 0, .int 0, .int 0]⟩),
  (131, ⟨.slice 23, 1, 24, [.nil]⟩),
  (142, ⟨.int .u64, 1, 8, [.val (.int .u64 0)]⟩),
  (144, ⟨.arr 6 3, 6, 48, [.int 0, .int 0, .int 0, .int 0, .int 0, .int 0]⟩),
  (150, ⟨.int .i64, 1, 8, [.int 0]⟩),
  (158, ⟨.int .u32, 1, 4, [.val (.int .u32 0)]⟩),
  (160, ⟨.int .u64, 1, 8, [.val (.int .u64 0)]⟩),
  (169, ⟨.int .u64, 1, 8, [.val (.int .u64 0)]⟩),
  (173, ⟨.plain, 1, 8, [.val (.pointer none)]⟩),
  (177, ⟨.plain, 1, 8, [.val (.pointer none)]⟩),
  (181, ⟨.struct [(0, 17), (1, 17), (2, 17), (3, 9)], 4, 40, [.val (.pointer none), .val (.pointer none), .val (.pointer none), .str []]⟩),
  (182, ⟨.struct [(0, 17), (1, 17), (2, 17), (3, 9)], 4, 40, [.val (.pointer none), .val (.pointer none), .val (.pointer none), .str []]⟩),
  (187, ⟨.int .u8, 1, 1, [.val (.int .u8 0)]⟩),
  (188, ⟨.int .u8, 1, 1, [.val (.int .u8 0)]⟩),
  (190, ⟨.plain, 1, 8, [.val (.pointer none)]⟩),
  (191, ⟨.int .i32, 1, 4, [.val (.int .i32 0)]⟩),
  (192, ⟨.int .i32, 1, 4, [.val (.int .i32 0)]⟩),
  (193, ⟨.struct [(0, 12), (1, 12), (2, 158), (3, 187), (4, 5), (5, 5), (6, 188), (7, 189), (8, 190), (9, 191), (10, 192)], 11, 48, [.val (.int .u64 0), .val (.int .u64 0), .val (.int .u32 0), .val (.int .u8 0), .val (.int .u8 0), .val (.int .u8 0), .val (.int .u8 0), .val .nilFunc, .val (.pointer none), .val (.int .i32 0), .val (.int .i32 0)]⟩),
  (194, ⟨.struct [(0, 12), (1, 12), (2, 158), (3, 187), (4, 5), (5, 5), (6, 188), (7, 189), (8, 190), (9, 191), (10, 192)], 11, 48, [.val (.int .u64 0), .val (.int .u64 0), .val (.int .u32 0), .val (.int .u8 0), .val (.int .u8 0), .val (.int .u8 0), .val (.int .u8 0), .val .nilFunc, .val (.pointer none), .val (.int .i32 0), .val (.int .i32 0)]⟩)]
theorem tok2 : TOk Try.prog 2 ⟨.int .i64, 1, 8, [.int 0]⟩ := ⟨⟨_, Try.underlying2, rfl⟩, TOk.ofInfo (by kernel_rfl) (by kernel_rfl) (by kernel_rfl) (by kernel_rfl)⟩
theorem tok3 : TOk Try.prog 3 ⟨.int .i64, 1, 8, [.int 0]⟩ := ⟨⟨_, Try.underlying3, rfl⟩, TOk.ofInfo (by kernel_rfl) (by kernel_rfl) (by kernel_rfl) (by kernel_rfl)⟩
theorem tok4 : TOk Try.prog 4 ⟨.plain, 1, 1, [.bool false]⟩ := ⟨⟨_, Try.underlying4, trivial⟩, TOk.ofInfo (by kernel_rfl) (by kernel_rfl) (by kernel_rfl) (by kernel_rfl)⟩
theorem tok5 : TOk Try.prog 5 ⟨.int .u8, 1, 1, [.val (.int .u8 0)]⟩ := ⟨⟨_, Try.underlying5, rfl⟩, TOk.ofInfo (by kernel_rfl) (by kernel_rfl) (by kernel_rfl) (by kernel_rfl)⟩
theorem tok6 : TOk Try.prog 6 ⟨.int .u8, 1, 1, [.val (.int .u8 0)]⟩ := ⟨⟨_, Try.underlying6, rfl⟩, TOk.ofInfo (by kernel_rfl) (by kernel_rfl) (by kernel_rfl) (by kernel_rfl)⟩
theorem tok7 : TOk Try.prog 7 ⟨.struct [(0, 2), (1, 3), (2, 4), (3, 6)], 4, 24, [.int 0, .int 0, .bool false, .val (.int .u8 0)]⟩ := ⟨⟨_, Try.underlying7, ⟨_, rfl, rfl⟩⟩, TOk.ofInfo (by kernel_rfl) (by kernel_rfl) (by kernel_rfl) (by kernel_rfl)⟩
theorem tok8 : TOk Try.prog 8 ⟨.struct [(0, 2), (1, 3), (2, 4), (3, 6)], 4, 24, [.int 0, .int 0, .bool false, .val (.int .u8 0)]⟩ := ⟨⟨_, Try.underlying8, ⟨_, rfl, rfl⟩⟩, TOk.ofInfo (by kernel_rfl) (by kernel_rfl) (by kernel_rfl) (by kernel_rfl)⟩
theorem tok9 : TOk Try.prog 9 ⟨.str, 1, 16, [.str []]⟩ := ⟨⟨_, Try.underlying9, rfl⟩, TOk.ofInfo (by kernel_rfl) (by kernel_rfl) (by kernel_rfl) (by kernel_rfl)⟩
theorem tok10 : TOk Try.prog 10 ⟨.str, 1, 16, [.str []]⟩ := ⟨⟨_, Try.underlying10, rfl⟩, TOk.ofInfo (by kernel_rfl) (by kernel_rfl) (by kernel_rfl) (by kernel_rfl)⟩
theorem tok11 : TOk Try.prog 11 ⟨.str, 1, 16, [.str []]⟩ := ⟨⟨_, Try.underlying11, rfl⟩, TOk.ofInfo (by kernel_rfl) (by kernel_rfl) (by kernel_rfl) (by kernel_rfl)⟩
theorem tok12 : TOk Try.prog 12 ⟨.int .u64, 1, 8, [.val (.int .u64 0)]⟩ := ⟨⟨_, Try.underlying12, rfl⟩, TOk.ofInfo (by kernel_rfl) (by kernel_rfl) (by kernel_rfl) (by kernel_rfl)⟩
theorem tok13 : TOk Try.prog 13 ⟨.struct [(0, 9), (1, 12)], 2, 24, [.str [], .val (.int .u64 0)]⟩ := ⟨⟨_, Try.underlying13, ⟨_, rfl, rfl⟩⟩, TOk.ofInfo (by kernel_rfl) (by kernel_rfl) (by kernel_rfl) (by kernel_rfl)⟩
theorem tok14 : TOk Try.prog 14 ⟨.struct [(0, 9), (1, 12)], 2, 24, [.str [], .val (.int .u64 0)]⟩ := ⟨⟨_, Try.underlying14, ⟨_, rfl, rfl⟩⟩, TOk.ofInfo (by kernel_rfl) (by kernel_rfl) (by kernel_rfl) (by kernel_rfl)⟩
theorem tok15 : TOk Try.prog 15 ⟨.plain, 1, 8, [.val (.pointer none)]⟩ := ⟨⟨_, Try.underlying15, trivial⟩, TOk.ofInfo (by kernel_rfl) (by kernel_rfl) (by kernel_rfl) (by kernel_rfl)⟩
theorem tok16 : TOk Try.prog 16 ⟨.plain, 1, 8, [.val (.pointer none)]⟩ := ⟨⟨_, Try.underlying16, trivial⟩, TOk.ofInfo (by kernel_rfl) (by kernel_rfl) (by kernel_rfl) (by kernel_rfl)⟩
theorem tok17 : TOk Try.prog 17 ⟨.plain, 1, 8, [.val (.pointer none)]⟩ := ⟨⟨_, Try.underlying17, trivial⟩, TOk.ofInfo (by kernel_rfl) (by kernel_rfl) (by kernel_rfl) (by kernel_rfl)⟩
theorem tok18 : TOk Try.prog 18 ⟨.struct [(0, 17)], 1, 8, [.val (.pointer none)]⟩ := ⟨⟨_, Try.underlying18, ⟨_, rfl, rfl⟩⟩, TOk.ofInfo (by kernel_rfl) (by kernel_rfl) (by kernel_rfl) (by kernel_rfl)⟩
theorem tok19 : TOk Try.prog 19 ⟨.struct [(0, 17)], 1, 8, [.val (.pointer none)]⟩ := ⟨⟨_, Try.underlying19, ⟨_, rfl, rfl⟩⟩, TOk.ofInfo (by kernel_rfl) (by kernel_rfl) (by kernel_rfl) (by kernel_rfl)⟩
theorem tok21 : TOk Try.prog 21 ⟨.int .i32, 1, 4, [.val (.int .i32 0)]⟩ := ⟨⟨_, Try.underlying21, rfl⟩, TOk.ofInfo (by kernel_rfl) (by kernel_rfl) (by kernel_rfl) (by kernel_rfl)⟩
theorem tok22 : TOk Try.prog 22 ⟨.slice 35, 1, 24, [.nil]⟩ := ⟨⟨_, Try.underlying22, rfl⟩, TOk.ofInfo (by kernel_rfl) (by kernel_rfl) (by kernel_rfl) (by kernel_rfl)⟩
theorem tok23 : TOk Try.prog 23 ⟨.int .i64, 1, 8, [.int 0]⟩ := ⟨⟨_, Try.underlying23, rfl⟩, TOk.ofInfo (by kernel_rfl) (by kernel_rfl) (by kernel_rfl) (by kernel_rfl)⟩
theorem tok26 : TOk Try.prog 26 ⟨.slice 37, 1, 24, [.nil]⟩ := ⟨⟨_, Try.underlying26, rfl⟩, TOk.ofInfo (by kernel_rfl) (by kernel_rfl) (by kernel_rfl) (by kernel_rfl)⟩
theorem tok35 : TOk Try.prog 35 ⟨.slice 3, 1, 24, [.nil]⟩ := ⟨⟨_, Try.underlying35, rfl⟩, TOk.ofInfo (by kernel_rfl) (by kernel_rfl) (by kernel_rfl) (by kernel_rfl)⟩
theorem tok37 : TOk Try.prog 37 ⟨.arr 2 3, 2, 16, [.int 0, .int 0]⟩ := ⟨⟨_, Try.underlying37, rfl⟩, TOk.ofInfo (by kernel_rfl) (by kernel_rfl) (by kernel_rfl) (by kernel_rfl)⟩
theorem tok41 : TOk Try.prog 41 ⟨.struct [(0, 3), (1, 3)], 2, 16, [.int 0, .int 0]⟩ := ⟨⟨_, Try.underlying41, ⟨_, rfl, rfl⟩⟩, TOk.ofInfo (by kernel_rfl) (by kernel_rfl) (by kernel_rfl) (by kernel_rfl)⟩
theorem tok42 : TOk Try.prog 42 ⟨.struct [(0, 3), (1, 3)], 2, 16, [.int 0, .int 0]⟩ := ⟨⟨_, Try.underlying42, ⟨_, rfl, rfl⟩⟩, TOk.ofInfo (by kernel_rfl) (by kernel_rfl) (by kernel_rfl) (by kernel_rfl)⟩
theorem tok117 : TOk Try.prog 117 ⟨.arr 6 4, 6, 6, [.bool false, .bool false, .bool false, .bool false, .bool false, .bool false]⟩ := ⟨⟨_, Try.underlying117, rfl⟩, TOk.ofInfo (by kernel_rfl) (by kernel_rfl) (by kernel_rfl) (by kernel_rfl)⟩
theorem tok120 : TOk Try.prog 120 ⟨.slice 42, 1, 24, [.nil]⟩ := ⟨⟨_, Try.underlying120, rfl⟩, TOk.ofInfo (by kernel_rfl) (by kernel_rfl) (by kernel_rfl) (by kernel_rfl)⟩
theorem tok124 : TOk Try.prog 124 ⟨.slice 126, 1, 24, [.nil]⟩ := ⟨⟨_, Try.underlying124, rfl⟩, TOk.ofInfo (by kernel_rfl) (by kernel_rfl) (by kernel_rfl) (by kernel_rfl)⟩
theorem tok125 : TOk Try.prog 125 ⟨.struct [(0, 3), (1, 3), (2, 3)], 3, 24, [.int 0, .int 0, .int 0]⟩ := ⟨⟨_, Try.underlying125, ⟨_, rfl, rfl⟩⟩, TOk.ofInfo (by kernel_rfl) (by kernel_rfl) (by kernel_rfl) (by kernel_rfl)⟩
theorem tok126 : TOk Try.prog 126 ⟨.struct [(0, 3), (1, 3), (2, 3)], 3, 24, [.int 0, .int 0, .int 0]⟩ := ⟨⟨_, Try.underlying126, ⟨_, rfl, rfl⟩⟩, TOk.ofInfo (by kernel_rfl) (by kernel_rfl) (by kernel_rfl) (by kernel_rfl)⟩
theorem tok131 : TOk Try.prog 131 ⟨.slice 23, 1, 24, [.nil]⟩ := ⟨⟨_, Try.underlying131, rfl⟩, TOk.ofInfo (by kernel_rfl) (by kernel_rfl) (by kernel_rfl) (by kernel_rfl)⟩
theorem tok142 : TOk Try.prog 142 ⟨.int .u64, 1, 8, [.val (.int .u64 0)]⟩ := ⟨⟨_, Try.underlying142, rfl⟩, TOk.ofInfo (by kernel_rfl) (by kernel_rfl) (by kernel_rfl) (by kernel_rfl)⟩
theorem tok144 : TOk Try.prog 144 ⟨.arr 6 3, 6, 48, [.int 0, .int 0, .int 0, .int 0, .int 0, .int 0]⟩ := ⟨⟨_, Try.underlying144, rfl⟩, TOk.ofInfo (by kernel_rfl) (by kernel_rfl) (by kernel_rfl) (by kernel_rfl)⟩
theorem tok150 : TOk Try.prog 150 ⟨.int .i64, 1, 8, [.int 0]⟩ := ⟨⟨_, Try.underlying150, rfl⟩, TOk.ofInfo (by kernel_rfl) (by kernel_rfl) (by kernel_rfl) (by kernel_rfl)⟩
theorem tok158 : TOk Try.prog 158 ⟨.int .u32, 1, 4, [.val (.int .u32 0)]⟩ := ⟨⟨_, Try.underlying158, rfl⟩, TOk.ofInfo (by kernel_rfl) (by kernel_rfl) (by kernel_rfl) (by kernel_rfl)⟩
theorem tok160 : TOk Try.prog 160 ⟨.int .u64, 1, 8, [.val (.int .u64 0)]⟩ := ⟨⟨_, Try.underlying160, rfl⟩, TOk.ofInfo (by kernel_rfl) (by kernel_rfl) (by kernel_rfl) (by kernel_rfl)⟩
theorem tok169 : TOk Try.prog 169 ⟨.int .u64, 1, 8, [.val (.int .u64 0)]⟩ := ⟨⟨_, Try.underlying169, rfl⟩, TOk.ofInfo (by kernel_rfl) (by kernel_rfl) (by kernel_rfl) (by kernel_rfl)⟩
theorem tok173 : TOk Try.prog 173 ⟨.plain, 1, 8, [.val (.pointer none)]⟩ := ⟨⟨_, Try.underlying173, trivial⟩, TOk.ofInfo (by kernel_rfl) (by kernel_rfl) (by kernel_rfl) (by kernel_rfl)⟩
theorem tok177 : TOk Try.prog 177 ⟨.plain, 1, 8, [.val (.pointer none)]⟩ := ⟨⟨_, Try.underlying177, trivial⟩, TOk.ofInfo (by kernel_rfl) (by kernel_rfl) (by kernel_rfl) (by kernel_rfl)⟩
theorem tok181 : TOk Try.prog 181 ⟨.struct [(0, 17), (1, 17), (2, 17), (3, 9)], 4, 40, [.val (.pointer none), .val (.pointer none), .val (.pointer none), .str []]⟩ := ⟨⟨_, Try.underlying181, ⟨_, rfl, rfl⟩⟩, TOk.ofInfo (by kernel_rfl) (by kernel_rfl) (by kernel_rfl) (by kernel_rfl)⟩
theorem tok182 : TOk Try.prog 182 ⟨.struct [(0, 17), (1, 17), (2, 17), (3, 9)], 4, 40, [.val (.pointer none), .val (.pointer none), .val (.pointer none), .str []]⟩ := ⟨⟨_, Try.underlying182, ⟨_, rfl, rfl⟩⟩, TOk.ofInfo (by kernel_rfl) (by kernel_rfl) (by kernel_rfl) (by kernel_rfl)⟩
theorem tok187 : TOk Try.prog 187 ⟨.int .u8, 1, 1, [.val (.int .u8 0)]⟩ := ⟨⟨_, Try.underlying187, rfl⟩, TOk.ofInfo (by kernel_rfl) (by kernel_rfl) (by kernel_rfl) (by kernel_rfl)⟩
theorem tok188 : TOk Try.prog 188 ⟨.int .u8, 1, 1, [.val (.int .u8 0)]⟩ := ⟨⟨_, Try.underlying188, rfl⟩, TOk.ofInfo (by kernel_rfl) (by kernel_rfl) (by kernel_rfl) (by kernel_rfl)⟩
theorem tok190 : TOk Try.prog 190 ⟨.plain, 1, 8, [.val (.pointer none)]⟩ := ⟨⟨_, Try.underlying190, trivial⟩, TOk.ofInfo (by kernel_rfl) (by kernel_rfl) (by kernel_rfl) (by kernel_rfl)⟩
theorem tok191 : TOk Try.prog 191 ⟨.int .i32, 1, 4, [.val (.int .i32 0)]⟩ := ⟨⟨_, Try.underlying191, rfl⟩, TOk.ofInfo (by kernel_rfl) (by kernel_rfl) (by kernel_rfl) (by kernel_rfl)⟩
theorem tok192 : TOk Try.prog 192 ⟨.int .i32, 1, 4, [.val (.int .i32 0)]⟩ := ⟨⟨_, Try.underlying192, rfl⟩, TOk.ofInfo (by kernel_rfl) (by kernel_rfl) (by kernel_rfl) (by kernel_rfl)⟩
theorem tok193 : TOk Try.prog 193 ⟨.struct [(0, 12), (1, 12), (2, 158), (3, 187), (4, 5), (5, 5), (6, 188), (7, 189), (8, 190), (9, 191), (10, 192)], 11, 48, [.val (.int .u64 0), .val (.int .u64 0), .val (.int .u32 0), .val (.int .u8 0), .val (.int .u8 0), .val (.int .u8 0), .val (.int .u8 0), .val .nilFunc, .val (.pointer none), .val (.int .i32 0), .val (.int .i32 0)]⟩ := ⟨⟨_, Try.underlying193, ⟨_, rfl, rfl⟩⟩, TOk.ofInfo (by kernel_rfl) (by kernel_rfl) (by kernel_rfl) (by kernel_rfl)⟩
theorem tok194 : TOk Try.prog 194 ⟨.struct [(0, 12), (1, 12), (2, 158), (3, 187), (4, 5), (5, 5), (6, 188), (7, 189), (8, 190), (9, 191), (10, 192)], 11, 48, [.val (.int .u64 0), .val (.int .u64 0), .val (.int .u32 0), .val (.int .u8 0), .val (.int .u8 0), .val (.int .u8 0), .val (.int .u8 0), .val .nilFunc, .val (.pointer none), .val (.int .i32 0), .val (.int .i32 0)]⟩ := ⟨⟨_, Try.underlying194, ⟨_, rfl, rfl⟩⟩, TOk.ofInfo (by kernel_rfl) (by kernel_rfl) (by kernel_rfl) (by kernel_rfl)⟩
theorem tab_ok : TabOk Try.prog tab := ⟨tok2, tok3, tok4, tok5, tok6, tok7, tok8, tok9, tok10, tok11, tok12, tok13, tok14, tok15, tok16, tok17, tok18, tok19, tok21, tok22, tok23, tok26, tok35, tok37, tok41, tok42, tok117, tok120, tok124, tok125, tok126, tok131, tok142, tok144, tok150, tok158, tok160, tok169, tok173, tok177, tok181, tok182, tok187, tok188, tok190, tok191, tok192, tok193, tok194, trivial⟩
/-- The program and its table. -/
noncomputable def Sy : FM.Sys := ⟨Try.prog, FM.look tab, fun t i h => FM.look_ok tab_ok h, by kernel_rfl, fun _ => false, fun _ => undef⟩
end Go.Proofs.Ytjhkeilampkihaa
