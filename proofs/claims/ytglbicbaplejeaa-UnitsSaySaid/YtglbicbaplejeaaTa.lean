/- The seat's table of types, each row held against the loaded program. Written by a program of the prover's (tab.py). -/
import Derived.Test.YtglbicbaplejeaaChecked
import Derived.Test.YtglbicbaplejeaaFf
namespace Go.Proofs.Ytglbicbaplejeaa
open Go FM

def tab : List (Nat × TI) := [
  (2, ⟨.int .i64, 1, 8, [.int 0]⟩),
  (3, ⟨.int .i64, 1, 8, [.int 0]⟩),
  (4, ⟨.plain, 1, 1, [.bool false]⟩),
  (5, ⟨.int .u8, 1, 1, [.val (.int .u8 0)]⟩),
  (6, ⟨.int .u8, 1, 1, [.val (.int .u8 0)]⟩),
  (7, ⟨.struct [(0, 2), (1, 3), (2, 4), (3, 6)], 4, 24, [.int 0, .int 0, .bool false, .val (.int .u8 0)]⟩),
  (8, ⟨.struct [(0, 2), (1, 3), (2, 4), (3, 6)], 4, 24, [.int 0, .int 0, .bool false, .val (.int .u8 0)]⟩),
  (9, ⟨.str, 1, 16, [.str []]⟩),
  (10, ⟨.str, 1, 16, [.str []]⟩),
  (11, ⟨.str, 1, 16, [.str []]⟩),
  (12, ⟨.int .u64, 1, 8, [.val (.int .u64 0)]⟩),
  (13, ⟨.struct [(0, 9), (1, 12)], 2, 24, [.str [], .val (.int .u64 0)]⟩),
  (14, ⟨.struct [(0, 9), (1, 12)], 2, 24, [.str [], .val (.int .u64 0)]⟩),
  (15, ⟨.plain, 1, 8, [.val (.pointer none)]⟩),
  (16, ⟨.plain, 1, 8, [.val (.pointer none)]⟩),
  (17, ⟨.plain, 1, 8, [.val (.pointer none)]⟩),
  (18, ⟨.struct [(0, 17)], 1, 8, [.val (.pointer none)]⟩),
  (19, ⟨.struct [(0, 17)], 1, 8, [.val (.pointer none)]⟩),
  (21, ⟨.int .i32, 1, 4, [.val (.int .i32 0)]⟩),
  (22, ⟨.slice 69, 1, 24, [.nil]⟩),
  (23, ⟨.slice 3, 1, 24, [.nil]⟩),
  (24, ⟨.int .i64, 1, 8, [.int 0]⟩),
  (41, ⟨.slice 23, 1, 24, [.nil]⟩),
  (68, ⟨.struct [(0, 3), (1, 3)], 2, 16, [.int 0, .int 0]⟩),
  (69, ⟨.struct [(0, 3), (1, 3)], 2, 16, [.int 0, .int 0]⟩),
  (79, ⟨.plain, 1, 8, [.val (.map none)]⟩),
  (86, ⟨.int .u64, 1, 8, [.val (.int .u64 0)]⟩),
  (95, ⟨.slice 24, 1, 24, [.nil]⟩),
  (99, ⟨.arr 6 4, 6, 6, [.bool false, .bool false, .bool false, .bool false, .bool false, .bool false]⟩),
  (104, ⟨.int .i64, 1, 8, [.int 0]⟩),
  (112, ⟨.int .u32, 1, 4, [.val (.int .u32 0)]⟩),
  (114, ⟨.int .u64, 1, 8, [.val (.int .u64 0)]⟩),
  (125, ⟨.int .u64, 1, 8, [.val (.int .u64 0)]⟩),
  (129, ⟨.plain, 1, 8, [.val (.pointer none)]⟩),
  (133, ⟨.plain, 1, 8, [.val (.pointer none)]⟩),
  (137, ⟨.struct [(0, 17), (1, 17), (2, 17), (3, 9)], 4, 40, [.val (.pointer none), .val (.pointer none), .val (.pointer none), .str []]⟩),
  (138, ⟨.struct [(0, 17), (1, 17), (2, 17), (3, 9)], 4, 40, [.val (.pointer none), .val (.pointer none), .val (.pointer none), .str []]⟩),
  (143, ⟨.int .u8, 1, 1, [.val (.int .u8 0)]⟩),
  (144, ⟨.int .u8, 1, 1, [.val (.int .u8 0)]⟩),
  (146, ⟨.plain, 1, 8, [.val (.pointer none)]⟩),
  (147, ⟨.int .i32, 1, 4, [.val (.int .i32 0)]⟩),
  (148, ⟨.int .i32, 1, 4, [.val (.int .i32 0)]⟩),
  (149, ⟨.struct [(0, 12), (1, 12), (2, 112), (3, 143), (4, 5), (5, 5), (6, 144), (7, 145), (8, 146), (9, 147), (10, 148)], 11, 48, [.val (.int .u64 0), .val (.int .u64 0), .val (.int .u32 0), .val (.int .u8 0), .val (.int .u8 0), .val (.int .u8 0), .val (.int .u8 0), .val .nilFunc, .val (.pointer none), .val (.int .i32 0), .val (.int .i32 0)]⟩),
  (150, ⟨.struct [(0, 12), (1, 12), (2, 112), (3, 143), (4, 5), (5, 5), (6, 144), (7, 145), (8, 146), (9, 147), (10, 148)], 11, 48, [.val (.int .u64 0), .val (.int .u64 0), .val (.int .u32 0), .val (.int .u8 0), .val (.int .u8 0), .val (.int .u8 0), .val (.int .u8 0), .val .nilFunc, .val (.pointer none), .val (.int .i32 0), .val (.int .i32 0)]⟩)]
theorem tok2 : TOk Try.prog 2 ⟨.int .i64, 1, 8, [.int 0]⟩ := ⟨⟨_, Try.underlying2, rfl⟩, TOk.ofInfo (by kernel_rfl) (by kernel_rfl) (by kernel_rfl) (by kernel_rfl)⟩
theorem tok3 : TOk Try.prog 3 ⟨.int .i64, 1, 8, [.int 0]⟩ := ⟨⟨_, Try.underlying3, rfl⟩, TOk.ofInfo (by kernel_rfl) (by kernel_rfl) (by kernel_rfl) (by kernel_rfl)⟩
theorem tok4 : TOk Try.prog 4 ⟨.plain, 1, 1, [.bool false]⟩ := ⟨⟨_, Try.underlying4, trivial⟩, TOk.ofInfo (by kernel_rfl) (by kernel_rfl) (by kernel_rfl) (by kernel_rfl)⟩
theorem tok5 : TOk Try.prog 5 ⟨.int .u8, 1, 1, [.val (.int .u8 0)]⟩ := ⟨⟨_, Try.underlying5, rfl⟩, TOk.ofInfo (by kernel_rfl) (by kernel_rfl) (by kernel_rfl) (by kernel_rfl)⟩
theorem tok6 : TOk Try.prog 6 ⟨.int .u8, 1, 1, [.val (.int .u8 0)]⟩ := ⟨⟨_, Try.underlying6, rfl⟩, TOk.ofInfo (by kernel_rfl) (by kernel_rfl) (by kernel_rfl) (by kernel_rfl)⟩
theorem tok7 : TOk Try.prog 7 ⟨.struct [(0, 2), (1, 3), (2, 4), (3, 6)], 4, 24, [.int 0, .int 0, .bool false, .val (.int .u8 0)]⟩ := ⟨⟨_, Try.underlying7, ⟨_, rfl, rfl⟩⟩, TOk.ofInfo (by kernel_rfl) (by kernel_rfl) (by kernel_rfl) (by kernel_rfl)⟩
theorem tok8 : TOk Try.prog 8 ⟨.struct [(0, 2), (1, 3), (2, 4), (3, 6)], 4, 24, [.int 0, .int 0, .bool false, .val (.int .u8 0)]⟩ := ⟨⟨_, Try.underlying8, ⟨_, rfl, rfl⟩⟩, TOk.ofInfo (by kernel_rfl) (by kernel_rfl) (by kernel_rfl) (by kernel_rfl)⟩
theorem tok9 : TOk Try.prog 9 ⟨.str, 1, 16, [.str []]⟩ := ⟨⟨_, Try.underlying9, rfl⟩, TOk.ofInfo (by kernel_rfl) (by kernel_rfl) (by kernel_rfl) (by kernel_rfl)⟩
theorem tok10 : TOk Try.prog 10 ⟨.str, 1, 16, [.str []]⟩ := ⟨⟨_, Try.underlying10, rfl⟩, TOk.ofInfo (by kernel_rfl) (by kernel_rfl) (by kernel_rfl) (by kernel_rfl)⟩
theorem tok11 : TOk Try.prog 11 ⟨.str, 1, 16, [.str []]⟩ := ⟨⟨_, Try.underlying11, rfl⟩, TOk.ofInfo (by kernel_rfl) (by kernel_rfl) (by kernel_rfl) (by kernel_rfl)⟩
theorem tok12 : TOk Try.prog 12 ⟨.int .u64, 1, 8, [.val (.int .u64 0)]⟩ := ⟨⟨_, Try.underlying12, rfl⟩, TOk.ofInfo (by kernel_rfl) (by kernel_rfl) (by kernel_rfl) (by kernel_rfl)⟩
theorem tok13 : TOk Try.prog 13 ⟨.struct [(0, 9), (1, 12)], 2, 24, [.str [], .val (.int .u64 0)]⟩ := ⟨⟨_, Try.underlying13, ⟨_, rfl, rfl⟩⟩, TOk.ofInfo (by kernel_rfl) (by kernel_rfl) (by kernel_rfl) (by kernel_rfl)⟩
theorem tok14 : TOk Try.prog 14 ⟨.struct [(0, 9), (1, 12)], 2, 24, [.str [], .val (.int .u64 0)]⟩ := ⟨⟨_, Try.underlying14, ⟨_, rfl, rfl⟩⟩, TOk.ofInfo (by kernel_rfl) (by kernel_rfl) (by kernel_rfl) (by kernel_rfl)⟩
theorem tok15 : TOk Try.prog 15 ⟨.plain, 1, 8, [.val (.pointer none)]⟩ := ⟨⟨_, Try.underlying15, trivial⟩, TOk.ofInfo (by kernel_rfl) (by kernel_rfl) (by kernel_rfl) (by kernel_rfl)⟩
theorem tok16 : TOk Try.prog 16 ⟨.plain, 1, 8, [.val (.pointer none)]⟩ := ⟨⟨_, Try.underlying16, trivial⟩, TOk.ofInfo (by kernel_rfl) (by kernel_rfl) (by kernel_rfl) (by kernel_rfl)⟩
theorem tok17 : TOk Try.prog 17 ⟨.plain, 1, 8, [.val (.pointer none)]⟩ := ⟨⟨_, Try.underlying17, trivial⟩, TOk.ofInfo (by kernel_rfl) (by kernel_rfl) (by kernel_rfl) (by kernel_rfl)⟩
theorem tok18 : TOk Try.prog 18 ⟨.struct [(0, 17)], 1, 8, [.val (.pointer none)]⟩ := ⟨⟨_, Try.underlying18, ⟨_, rfl, rfl⟩⟩, TOk.ofInfo (by kernel_rfl) (by kernel_rfl) (by kernel_rfl) (by kernel_rfl)⟩
theorem tok19 : TOk Try.prog 19 ⟨.struct [(0, 17)], 1, 8, [.val (.pointer none)]⟩ := ⟨⟨_, Try.underlying19, ⟨_, rfl, rfl⟩⟩, TOk.ofInfo (by kernel_rfl) (by kernel_rfl) (by kernel_rfl) (by kernel_rfl)⟩
theorem tok21 : TOk Try.prog 21 ⟨.int .i32, 1, 4, [.val (.int .i32 0)]⟩ := ⟨⟨_, Try.underlying21, rfl⟩, TOk.ofInfo (by kernel_rfl) (by kernel_rfl) (by kernel_rfl) (by kernel_rfl)⟩
theorem tok22 : TOk Try.prog 22 ⟨.slice 69, 1, 24, [.nil]⟩ := ⟨⟨_, Try.underlying22, rfl⟩, TOk.ofInfo (by kernel_rfl) (by kernel_rfl) (by kernel_rfl) (by kernel_rfl)⟩
theorem tok23 : TOk Try.prog 23 ⟨.slice 3, 1, 24, [.nil]⟩ := ⟨⟨_, Try.underlying23, rfl⟩, TOk.ofInfo (by kernel_rfl) (by kernel_rfl) (by kernel_rfl) (by kernel_rfl)⟩
theorem tok24 : TOk Try.prog 24 ⟨.int .i64, 1, 8, [.int 0]⟩ := ⟨⟨_, Try.underlying24, rfl⟩, TOk.ofInfo (by kernel_rfl) (by kernel_rfl) (by kernel_rfl) (by kernel_rfl)⟩
theorem tok41 : TOk Try.prog 41 ⟨.slice 23, 1, 24, [.nil]⟩ := ⟨⟨_, Try.underlying41, rfl⟩, TOk.ofInfo (by kernel_rfl) (by kernel_rfl) (by kernel_rfl) (by kernel_rfl)⟩
theorem tok68 : TOk Try.prog 68 ⟨.struct [(0, 3), (1, 3)], 2, 16, [.int 0, .int 0]⟩ := ⟨⟨_, Try.underlying68, ⟨_, rfl, rfl⟩⟩, TOk.ofInfo (by kernel_rfl) (by kernel_rfl) (by kernel_rfl) (by kernel_rfl)⟩
theorem tok69 : TOk Try.prog 69 ⟨.struct [(0, 3), (1, 3)], 2, 16, [.int 0, .int 0]⟩ := ⟨⟨_, Try.underlying69, ⟨_, rfl, rfl⟩⟩, TOk.ofInfo (by kernel_rfl) (by kernel_rfl) (by kernel_rfl) (by kernel_rfl)⟩
theorem tok79 : TOk Try.prog 79 ⟨.plain, 1, 8, [.val (.map none)]⟩ := ⟨⟨_, Try.underlying79, trivial⟩, TOk.ofInfo (by kernel_rfl) (by kernel_rfl) (by kernel_rfl) (by kernel_rfl)⟩
theorem tok86 : TOk Try.prog 86 ⟨.int .u64, 1, 8, [.val (.int .u64 0)]⟩ := ⟨⟨_, Try.underlying86, rfl⟩, TOk.ofInfo (by kernel_rfl) (by kernel_rfl) (by kernel_rfl) (by kernel_rfl)⟩
theorem tok95 : TOk Try.prog 95 ⟨.slice 24, 1, 24, [.nil]⟩ := ⟨⟨_, Try.underlying95, rfl⟩, TOk.ofInfo (by kernel_rfl) (by kernel_rfl) (by kernel_rfl) (by kernel_rfl)⟩
theorem tok99 : TOk Try.prog 99 ⟨.arr 6 4, 6, 6, [.bool false, .bool false, .bool false, .bool false, .bool false, .bool false]⟩ := ⟨⟨_, Try.underlying99, rfl⟩, TOk.ofInfo (by kernel_rfl) (by kernel_rfl) (by kernel_rfl) (by kernel_rfl)⟩
theorem tok104 : TOk Try.prog 104 ⟨.int .i64, 1, 8, [.int 0]⟩ := ⟨⟨_, Try.underlying104, rfl⟩, TOk.ofInfo (by kernel_rfl) (by kernel_rfl) (by kernel_rfl) (by kernel_rfl)⟩
theorem tok112 : TOk Try.prog 112 ⟨.int .u32, 1, 4, [.val (.int .u32 0)]⟩ := ⟨⟨_, Try.underlying112, rfl⟩, TOk.ofInfo (by kernel_rfl) (by kernel_rfl) (by kernel_rfl) (by kernel_rfl)⟩
theorem tok114 : TOk Try.prog 114 ⟨.int .u64, 1, 8, [.val (.int .u64 0)]⟩ := ⟨⟨_, Try.underlying114, rfl⟩, TOk.ofInfo (by kernel_rfl) (by kernel_rfl) (by kernel_rfl) (by kernel_rfl)⟩
theorem tok125 : TOk Try.prog 125 ⟨.int .u64, 1, 8, [.val (.int .u64 0)]⟩ := ⟨⟨_, Try.underlying125, rfl⟩, TOk.ofInfo (by kernel_rfl) (by kernel_rfl) (by kernel_rfl) (by kernel_rfl)⟩
theorem tok129 : TOk Try.prog 129 ⟨.plain, 1, 8, [.val (.pointer none)]⟩ := ⟨⟨_, Try.underlying129, trivial⟩, TOk.ofInfo (by kernel_rfl) (by kernel_rfl) (by kernel_rfl) (by kernel_rfl)⟩
theorem tok133 : TOk Try.prog 133 ⟨.plain, 1, 8, [.val (.pointer none)]⟩ := ⟨⟨_, Try.underlying133, trivial⟩, TOk.ofInfo (by kernel_rfl) (by kernel_rfl) (by kernel_rfl) (by kernel_rfl)⟩
theorem tok137 : TOk Try.prog 137 ⟨.struct [(0, 17), (1, 17), (2, 17), (3, 9)], 4, 40, [.val (.pointer none), .val (.pointer none), .val (.pointer none), .str []]⟩ := ⟨⟨_, Try.underlying137, ⟨_, rfl, rfl⟩⟩, TOk.ofInfo (by kernel_rfl) (by kernel_rfl) (by kernel_rfl) (by kernel_rfl)⟩
theorem tok138 : TOk Try.prog 138 ⟨.struct [(0, 17), (1, 17), (2, 17), (3, 9)], 4, 40, [.val (.pointer none), .val (.pointer none), .val (.pointer none), .str []]⟩ := ⟨⟨_, Try.underlying138, ⟨_, rfl, rfl⟩⟩, TOk.ofInfo (by kernel_rfl) (by kernel_rfl) (by kernel_rfl) (by kernel_rfl)⟩
theorem tok143 : TOk Try.prog 143 ⟨.int .u8, 1, 1, [.val (.int .u8 0)]⟩ := ⟨⟨_, Try.underlying143, rfl⟩, TOk.ofInfo (by kernel_rfl) (by kernel_rfl) (by kernel_rfl) (by kernel_rfl)⟩
theorem tok144 : TOk Try.prog 144 ⟨.int .u8, 1, 1, [.val (.int .u8 0)]⟩ := ⟨⟨_, Try.underlying144, rfl⟩, TOk.ofInfo (by kernel_rfl) (by kernel_rfl) (by kernel_rfl) (by kernel_rfl)⟩
theorem tok146 : TOk Try.prog 146 ⟨.plain, 1, 8, [.val (.pointer none)]⟩ := ⟨⟨_, Try.underlying146, trivial⟩, TOk.ofInfo (by kernel_rfl) (by kernel_rfl) (by kernel_rfl) (by kernel_rfl)⟩
theorem tok147 : TOk Try.prog 147 ⟨.int .i32, 1, 4, [.val (.int .i32 0)]⟩ := ⟨⟨_, Try.underlying147, rfl⟩, TOk.ofInfo (by kernel_rfl) (by kernel_rfl) (by kernel_rfl) (by kernel_rfl)⟩
theorem tok148 : TOk Try.prog 148 ⟨.int .i32, 1, 4, [.val (.int .i32 0)]⟩ := ⟨⟨_, Try.underlying148, rfl⟩, TOk.ofInfo (by kernel_rfl) (by kernel_rfl) (by kernel_rfl) (by kernel_rfl)⟩
theorem tok149 : TOk Try.prog 149 ⟨.struct [(0, 12), (1, 12), (2, 112), (3, 143), (4, 5), (5, 5), (6, 144), (7, 145), (8, 146), (9, 147), (10, 148)], 11, 48, [.val (.int .u64 0), .val (.int .u64 0), .val (.int .u32 0), .val (.int .u8 0), .val (.int .u8 0), .val (.int .u8 0), .val (.int .u8 0), .val .nilFunc, .val (.pointer none), .val (.int .i32 0), .val (.int .i32 0)]⟩ := ⟨⟨_, Try.underlying149, ⟨_, rfl, rfl⟩⟩, TOk.ofInfo (by kernel_rfl) (by kernel_rfl) (by kernel_rfl) (by kernel_rfl)⟩
theorem tok150 : TOk Try.prog 150 ⟨.struct [(0, 12), (1, 12), (2, 112), (3, 143), (4, 5), (5, 5), (6, 144), (7, 145), (8, 146), (9, 147), (10, 148)], 11, 48, [.val (.int .u64 0), .val (.int .u64 0), .val (.int .u32 0), .val (.int .u8 0), .val (.int .u8 0), .val (.int .u8 0), .val (.int .u8 0), .val .nilFunc, .val (.pointer none), .val (.int .i32 0), .val (.int .i32 0)]⟩ := ⟨⟨_, Try.underlying150, ⟨_, rfl, rfl⟩⟩, TOk.ofInfo (by kernel_rfl) (by kernel_rfl) (by kernel_rfl) (by kernel_rfl)⟩
theorem tab_ok : TabOk Try.prog tab := ⟨tok2, tok3, tok4, tok5, tok6, tok7, tok8, tok9, tok10, tok11, tok12, tok13, tok14, tok15, tok16, tok17, tok18, tok19, tok21, tok22, tok23, tok24, tok41, tok68, tok69, tok79, tok86, tok95, tok99, tok104, tok112, tok114, tok125, tok129, tok133, tok137, tok138, tok143, tok144, tok146, tok147, tok148, tok149, tok150, trivial⟩
/-- The program and its table. -/
noncomputable def Sy : FM.Sys := ⟨Try.prog, FM.look tab, fun t i h => FM.look_ok tab_ok h, by kernel_rfl, fun _ => false, fun _ => undef⟩
end Go.Proofs.Ytglbicbaplejeaa
