/- The seat's table of types, each row held against the loaded program. Written by a program of the prover's (tab.py). -/
import Derived.Test.YtioodlkigdklhaaChecked
import Derived.Test.YtioodlkigdklhaaFf
namespace Go.Proofs.Ytioodlkigdklhaa
open Go FM

def tab : List (Nat × TI) := [
  (2, ⟨.int .i64, 1, 8, [.int 0]⟩),
  (3, ⟨.int .i64, 1, 8, [.int 0]⟩),
  (4, ⟨.plain, 1, 1, [.bool false]⟩),
  (5, ⟨.int .u8, 1, 1, [.val (.int .u8 0)]⟩),
  (6, ⟨.int .u8, 1, 1, [.val (.int .u8 0)]⟩),
  (7, ⟨.struct [(0, 2), (1, 3), (2, 4), (3, 6)], 4, 24, [.int 0, .int 0, .bool false, .val (.int .u8 0)]⟩),
  (8, ⟨.struct [(0, 2), (1, 3), (2, 4), (3, 6)], 4, 24, [.int 0, .int 0, .bool false, .val (.int .u8 0)]⟩),
  (9, ⟨.str, 1, 16, [.str []]⟩),
  (10, ⟨.str, 1, 16, [.str []]⟩),
  (11, ⟨.str, 1, 16, [.str []]⟩),
  (12, ⟨.int .u64, 1, 8, [.val (.int .u64 0)]⟩),
  (13, ⟨.struct [(0, 9), (1, 12)], 2, 24, [.str [], .val (.int .u64 0)]⟩),
  (14, ⟨.struct [(0, 9), (1, 12)], 2, 24, [.str [], .val (.int .u64 0)]⟩),
  (15, ⟨.plain, 1, 8, [.val (.pointer none)]⟩),
  (16, ⟨.plain, 1, 8, [.val (.pointer none)]⟩),
  (17, ⟨.plain, 1, 8, [.val (.pointer none)]⟩),
  (18, ⟨.struct [(0, 17)], 1, 8, [.val (.pointer none)]⟩),
  (19, ⟨.struct [(0, 17)], 1, 8, [.val (.pointer none)]⟩),
  (21, ⟨.int .i32, 1, 4, [.val (.int .i32 0)]⟩),
  (22, ⟨.slice 3, 1, 24, [.nil]⟩),
  (25, ⟨.int .i64, 1, 8, [.int 0]⟩),
  (28, ⟨.slice 9, 1, 24, [.nil]⟩),
  (31, ⟨.int .u16, 1, 2, [.val (.int .u16 0)]⟩),
  (36, ⟨.slice 42, 1, 24, [.nil]⟩),
  (37, ⟨.plain, 1, 8, [.val (.pointer none)]⟩),
  (39, ⟨.struct [(0, 9), (1, 3)], 2, 24, [.str [], .int 0]⟩),
  (40, ⟨.struct [(0, 9), (1, 3)], 2, 24, [.str [], .int 0]⟩),
  (41, ⟨.struct [(0, 3), (1, 3), (2, 9)], 3, 32, [.int 0, .int 0, .str []]⟩),
  (42, ⟨.struct [(0, 3), (1, 3), (2, 9)], 3, 32, [.int 0, .int 0, .str []]⟩),
  (62, ⟨.slice 22, 1, 24, [.nil]⟩),
  (70, ⟨.slice 78, 1, 24, [.nil]⟩),
  (77, ⟨.struct [(0, 3), (1, 22), (2, 22)], 3, 56, [.int 0, .nil, .nil]⟩),
  (78, ⟨.struct [(0, 3), (1, 22), (2, 22)], 3, 56, [.int 0, .nil, .nil]⟩),
  (107, ⟨.slice 142, 1, 24, [.nil]⟩),
  (118, ⟨.slice 5, 1, 24, [.nil]⟩),
  (119, ⟨.int .u64, 1, 8, [.val (.int .u64 0)]⟩),
  (120, ⟨.struct [(0, 9), (1, 3)], 2, 24, [.str [], .int 0]⟩),
  (121, ⟨.struct [(0, 9), (1, 3)], 2, 24, [.str [], .int 0]⟩),
  (130, ⟨.arr 7 4, 7, 7, [.bool false, .bool false, .bool false, .bool false, .bool false, .bool false, .bool false]⟩),
  (137, ⟨.slice 25, 1, 24, [.nil]⟩),
  (141, ⟨.struct [(0, 22)], 1, 24, [.nil]⟩),
  (142, ⟨.struct [(0, 22)], 1, 24, [.nil]⟩),
  (144, ⟨.arr 6 4, 6, 6, [.bool false, .bool false, .bool false, .bool false, .bool false, .bool false]⟩),
  (146, ⟨.struct [(0, 17), (1, 17), (2, 17), (3, 9)], 4, 40, [.val (.pointer none), .val (.pointer none), .val (.pointer none), .str []]⟩),
  (147, ⟨.struct [(0, 17), (1, 17), (2, 17), (3, 9)], 4, 40, [.val (.pointer none), .val (.pointer none), .val (.pointer none), .str []]⟩),
  (152, ⟨.int .u32, 1, 4, [.val (.int .u32 0)]⟩),
  (153, ⟨.int .u8, 1, 1, [.val (.int .u8 0)]⟩),
  (154, ⟨.int .u8, 1, 1, [.val (.int .u8 0)]⟩),
  (156, ⟨.plain, 1, 8, [.val (.pointer none)]⟩),
  (157, ⟨.int .i32, 1, 4, [.val (.int .i32 0)]⟩),
  (158, ⟨.int .i32, 1, 4, [.val (.int .i32 0)]⟩),
  (159, ⟨.struct [(0, 12), (1, 12), (2, 152), (3, 153), (4, 5), (5, 5), (6, 154), (7, 155), (8, 156), (9, 157), (10, 158)], 11, 48, [.val (.int .u64 0), .val (.int .u64 0), .val (.int .u32 0), .val (.int .u8 0), .val (.int .u8 0), .val (.int .u8 0), .val (.int .u8 0), .val .nilFunc, .val (.pointer none), .val (.int .i32 0), .val (.int .i32 0)]⟩),
  (160, ⟨.struct [(0, 12), (1, 12), (2, 152), (3, 153), (4, 5), (5, 5), (6, 154), (7, 155), (8, 156), (9, 157), (10, 158)], 11, 48, [.val (.int .u64 0), .val (.int .u64 0), .val (.int .u32 0), .val (.int .u8 0), .val (.int .u8 0), .val (.int .u8 0), .val (.int .u8 0), .val .nilFunc, .val (.pointer none), .val (.int .i32 0), .val (.int .i32 0)]⟩)]
theorem tok2 : TOk Try.prog 2 ⟨.int .i64, 1, 8, [.int 0]⟩ := ⟨⟨_, Try.underlying2, rfl⟩, TOk.ofInfo (by kernel_rfl) (by kernel_rfl) (by kernel_rfl) (by kernel_rfl)⟩
theorem tok3 : TOk Try.prog 3 ⟨.int .i64, 1, 8, [.int 0]⟩ := ⟨⟨_, Try.underlying3, rfl⟩, TOk.ofInfo (by kernel_rfl) (by kernel_rfl) (by kernel_rfl) (by kernel_rfl)⟩
theorem tok4 : TOk Try.prog 4 ⟨.plain, 1, 1, [.bool false]⟩ := ⟨⟨_, Try.underlying4, trivial⟩, TOk.ofInfo (by kernel_rfl) (by kernel_rfl) (by kernel_rfl) (by kernel_rfl)⟩
theorem tok5 : TOk Try.prog 5 ⟨.int .u8, 1, 1, [.val (.int .u8 0)]⟩ := ⟨⟨_, Try.underlying5, rfl⟩, TOk.ofInfo (by kernel_rfl) (by kernel_rfl) (by kernel_rfl) (by kernel_rfl)⟩
theorem tok6 : TOk Try.prog 6 ⟨.int .u8, 1, 1, [.val (.int .u8 0)]⟩ := ⟨⟨_, Try.underlying6, rfl⟩, TOk.ofInfo (by kernel_rfl) (by kernel_rfl) (by kernel_rfl) (by kernel_rfl)⟩
theorem tok7 : TOk Try.prog 7 ⟨.struct [(0, 2), (1, 3), (2, 4), (3, 6)], 4, 24, [.int 0, .int 0, .bool false, .val (.int .u8 0)]⟩ := ⟨⟨_, Try.underlying7, ⟨_, rfl, rfl⟩⟩, TOk.ofInfo (by kernel_rfl) (by kernel_rfl) (by kernel_rfl) (by kernel_rfl)⟩
theorem tok8 : TOk Try.prog 8 ⟨.struct [(0, 2), (1, 3), (2, 4), (3, 6)], 4, 24, [.int 0, .int 0, .bool false, .val (.int .u8 0)]⟩ := ⟨⟨_, Try.underlying8, ⟨_, rfl, rfl⟩⟩, TOk.ofInfo (by kernel_rfl) (by kernel_rfl) (by kernel_rfl) (by kernel_rfl)⟩
theorem tok9 : TOk Try.prog 9 ⟨.str, 1, 16, [.str []]⟩ := ⟨⟨_, Try.underlying9, rfl⟩, TOk.ofInfo (by kernel_rfl) (by kernel_rfl) (by kernel_rfl) (by kernel_rfl)⟩
theorem tok10 : TOk Try.prog 10 ⟨.str, 1, 16, [.str []]⟩ := ⟨⟨_, Try.underlying10, rfl⟩, TOk.ofInfo (by kernel_rfl) (by kernel_rfl) (by kernel_rfl) (by kernel_rfl)⟩
theorem tok11 : TOk Try.prog 11 ⟨.str, 1, 16, [.str []]⟩ := ⟨⟨_, Try.underlying11, rfl⟩, TOk.ofInfo (by kernel_rfl) (by kernel_rfl) (by kernel_rfl) (by kernel_rfl)⟩
theorem tok12 : TOk Try.prog 12 ⟨.int .u64, 1, 8, [.val (.int .u64 0)]⟩ := ⟨⟨_, Try.underlying12, rfl⟩, TOk.ofInfo (by kernel_rfl) (by kernel_rfl) (by kernel_rfl) (by kernel_rfl)⟩
theorem tok13 : TOk Try.prog 13 ⟨.struct [(0, 9), (1, 12)], 2, 24, [.str [], .val (.int .u64 0)]⟩ := ⟨⟨_, Try.underlying13, ⟨_, rfl, rfl⟩⟩, TOk.ofInfo (by kernel_rfl) (by kernel_rfl) (by kernel_rfl) (by kernel_rfl)⟩
theorem tok14 : TOk Try.prog 14 ⟨.struct [(0, 9), (1, 12)], 2, 24, [.str [], .val (.int .u64 0)]⟩ := ⟨⟨_, Try.underlying14, ⟨_, rfl, rfl⟩⟩, TOk.ofInfo (by kernel_rfl) (by kernel_rfl) (by kernel_rfl) (by kernel_rfl)⟩
theorem tok15 : TOk Try.prog 15 ⟨.plain, 1, 8, [.val (.pointer none)]⟩ := ⟨⟨_, Try.underlying15, trivial⟩, TOk.ofInfo (by kernel_rfl) (by kernel_rfl) (by kernel_rfl) (by kernel_rfl)⟩
theorem tok16 : TOk Try.prog 16 ⟨.plain, 1, 8, [.val (.pointer none)]⟩ := ⟨⟨_, Try.underlying16, trivial⟩, TOk.ofInfo (by kernel_rfl) (by kernel_rfl) (by kernel_rfl) (by kernel_rfl)⟩
theorem tok17 : TOk Try.prog 17 ⟨.plain, 1, 8, [.val (.pointer none)]⟩ := ⟨⟨_, Try.underlying17, trivial⟩, TOk.ofInfo (by kernel_rfl) (by kernel_rfl) (by kernel_rfl) (by kernel_rfl)⟩
theorem tok18 : TOk Try.prog 18 ⟨.struct [(0, 17)], 1, 8, [.val (.pointer none)]⟩ := ⟨⟨_, Try.underlying18, ⟨_, rfl, rfl⟩⟩, TOk.ofInfo (by kernel_rfl) (by kernel_rfl) (by kernel_rfl) (by kernel_rfl)⟩
theorem tok19 : TOk Try.prog 19 ⟨.struct [(0, 17)], 1, 8, [.val (.pointer none)]⟩ := ⟨⟨_, Try.underlying19, ⟨_, rfl, rfl⟩⟩, TOk.ofInfo (by kernel_rfl) (by kernel_rfl) (by kernel_rfl) (by kernel_rfl)⟩
theorem tok21 : TOk Try.prog 21 ⟨.int .i32, 1, 4, [.val (.int .i32 0)]⟩ := ⟨⟨_, Try.underlying21, rfl⟩, TOk.ofInfo (by kernel_rfl) (by kernel_rfl) (by kernel_rfl) (by kernel_rfl)⟩
theorem tok22 : TOk Try.prog 22 ⟨.slice 3, 1, 24, [.nil]⟩ := ⟨⟨_, Try.underlying22, rfl⟩, TOk.ofInfo (by kernel_rfl) (by kernel_rfl) (by kernel_rfl) (by kernel_rfl)⟩
theorem tok25 : TOk Try.prog 25 ⟨.int .i64, 1, 8, [.int 0]⟩ := ⟨⟨_, Try.underlying25, rfl⟩, TOk.ofInfo (by kernel_rfl) (by kernel_rfl) (by kernel_rfl) (by kernel_rfl)⟩
theorem tok28 : TOk Try.prog 28 ⟨.slice 9, 1, 24, [.nil]⟩ := ⟨⟨_, Try.underlying28, rfl⟩, TOk.ofInfo (by kernel_rfl) (by kernel_rfl) (by kernel_rfl) (by kernel_rfl)⟩
theorem tok31 : TOk Try.prog 31 ⟨.int .u16, 1, 2, [.val (.int .u16 0)]⟩ := ⟨⟨_, Try.underlying31, rfl⟩, TOk.ofInfo (by kernel_rfl) (by kernel_rfl) (by kernel_rfl) (by kernel_rfl)⟩
theorem tok36 : TOk Try.prog 36 ⟨.slice 42, 1, 24, [.nil]⟩ := ⟨⟨_, Try.underlying36, rfl⟩, TOk.ofInfo (by kernel_rfl) (by kernel_rfl) (by kernel_rfl) (by kernel_rfl)⟩
theorem tok37 : TOk Try.prog 37 ⟨.plain, 1, 8, [.val (.pointer none)]⟩ := ⟨⟨_, Try.underlying37, trivial⟩, TOk.ofInfo (by kernel_rfl) (by kernel_rfl) (by kernel_rfl) (by kernel_rfl)⟩
theorem tok39 : TOk Try.prog 39 ⟨.struct [(0, 9), (1, 3)], 2, 24, [.str [], .int 0]⟩ := ⟨⟨_, Try.underlying39, ⟨_, rfl, rfl⟩⟩, TOk.ofInfo (by kernel_rfl) (by kernel_rfl) (by kernel_rfl) (by kernel_rfl)⟩
theorem tok40 : TOk Try.prog 40 ⟨.struct [(0, 9), (1, 3)], 2, 24, [.str [], .int 0]⟩ := ⟨⟨_, Try.underlying40, ⟨_, rfl, rfl⟩⟩, TOk.ofInfo (by kernel_rfl) (by kernel_rfl) (by kernel_rfl) (by kernel_rfl)⟩
theorem tok41 : TOk Try.prog 41 ⟨.struct [(0, 3), (1, 3), (2, 9)], 3, 32, [.int 0, .int 0, .str []]⟩ := ⟨⟨_, Try.underlying41, ⟨_, rfl, rfl⟩⟩, TOk.ofInfo (by kernel_rfl) (by kernel_rfl) (by kernel_rfl) (by kernel_rfl)⟩
theorem tok42 : TOk Try.prog 42 ⟨.struct [(0, 3), (1, 3), (2, 9)], 3, 32, [.int 0, .int 0, .str []]⟩ := ⟨⟨_, Try.underlying42, ⟨_, rfl, rfl⟩⟩, TOk.ofInfo (by kernel_rfl) (by kernel_rfl) (by kernel_rfl) (by kernel_rfl)⟩
theorem tok62 : TOk Try.prog 62 ⟨.slice 22, 1, 24, [.nil]⟩ := ⟨⟨_, Try.underlying62, rfl⟩, TOk.ofInfo (by kernel_rfl) (by kernel_rfl) (by kernel_rfl) (by kernel_rfl)⟩
theorem tok70 : TOk Try.prog 70 ⟨.slice 78, 1, 24, [.nil]⟩ := ⟨⟨_, Try.underlying70, rfl⟩, TOk.ofInfo (by kernel_rfl) (by kernel_rfl) (by kernel_rfl) (by kernel_rfl)⟩
theorem tok77 : TOk Try.prog 77 ⟨.struct [(0, 3), (1, 22), (2, 22)], 3, 56, [.int 0, .nil, .nil]⟩ := ⟨⟨_, Try.underlying77, ⟨_, rfl, rfl⟩⟩, TOk.ofInfo (by kernel_rfl) (by kernel_rfl) (by kernel_rfl) (by kernel_rfl)⟩
theorem tok78 : TOk Try.prog 78 ⟨.struct [(0, 3), (1, 22), (2, 22)], 3, 56, [.int 0, .nil, .nil]⟩ := ⟨⟨_, Try.underlying78, ⟨_, rfl, rfl⟩⟩, TOk.ofInfo (by kernel_rfl) (by kernel_rfl) (by kernel_rfl) (by kernel_rfl)⟩
theorem tok107 : TOk Try.prog 107 ⟨.slice 142, 1, 24, [.nil]⟩ := ⟨⟨_, Try.underlying107, rfl⟩, TOk.ofInfo (by kernel_rfl) (by kernel_rfl) (by kernel_rfl) (by kernel_rfl)⟩
theorem tok118 : TOk Try.prog 118 ⟨.slice 5, 1, 24, [.nil]⟩ := ⟨⟨_, Try.underlying118, rfl⟩, TOk.ofInfo (by kernel_rfl) (by kernel_rfl) (by kernel_rfl) (by kernel_rfl)⟩
theorem tok119 : TOk Try.prog 119 ⟨.int .u64, 1, 8, [.val (.int .u64 0)]⟩ := ⟨⟨_, Try.underlying119, rfl⟩, TOk.ofInfo (by kernel_rfl) (by kernel_rfl) (by kernel_rfl) (by kernel_rfl)⟩
theorem tok120 : TOk Try.prog 120 ⟨.struct [(0, 9), (1, 3)], 2, 24, [.str [], .int 0]⟩ := ⟨⟨_, Try.underlying120, ⟨_, rfl, rfl⟩⟩, TOk.ofInfo (by kernel_rfl) (by kernel_rfl) (by kernel_rfl) (by kernel_rfl)⟩
theorem tok121 : TOk Try.prog 121 ⟨.struct [(0, 9), (1, 3)], 2, 24, [.str [], .int 0]⟩ := ⟨⟨_, Try.underlying121, ⟨_, rfl, rfl⟩⟩, TOk.ofInfo (by kernel_rfl) (by kernel_rfl) (by kernel_rfl) (by kernel_rfl)⟩
theorem tok130 : TOk Try.prog 130 ⟨.arr 7 4, 7, 7, [.bool false, .bool false, .bool false, .bool false, .bool false, .bool false, .bool false]⟩ := ⟨⟨_, Try.underlying130, rfl⟩, TOk.ofInfo (by kernel_rfl) (by kernel_rfl) (by kernel_rfl) (by kernel_rfl)⟩
theorem tok137 : TOk Try.prog 137 ⟨.slice 25, 1, 24, [.nil]⟩ := ⟨⟨_, Try.underlying137, rfl⟩, TOk.ofInfo (by kernel_rfl) (by kernel_rfl) (by kernel_rfl) (by kernel_rfl)⟩
theorem tok141 : TOk Try.prog 141 ⟨.struct [(0, 22)], 1, 24, [.nil]⟩ := ⟨⟨_, Try.underlying141, ⟨_, rfl, rfl⟩⟩, TOk.ofInfo (by kernel_rfl) (by kernel_rfl) (by kernel_rfl) (by kernel_rfl)⟩
theorem tok142 : TOk Try.prog 142 ⟨.struct [(0, 22)], 1, 24, [.nil]⟩ := ⟨⟨_, Try.underlying142, ⟨_, rfl, rfl⟩⟩, TOk.ofInfo (by kernel_rfl) (by kernel_rfl) (by kernel_rfl) (by kernel_rfl)⟩
theorem tok144 : TOk Try.prog 144 ⟨.arr 6 4, 6, 6, [.bool false, .bool false, .bool false, .bool false, .bool false, .bool false]⟩ := ⟨⟨_, Try.underlying144, rfl⟩, TOk.ofInfo (by kernel_rfl) (by kernel_rfl) (by kernel_rfl) (by kernel_rfl)⟩
theorem tok146 : TOk Try.prog 146 ⟨.struct [(0, 17), (1, 17), (2, 17), (3, 9)], 4, 40, [.val (.pointer none), .val (.pointer none), .val (.pointer none), .str []]⟩ := ⟨⟨_, Try.underlying146, ⟨_, rfl, rfl⟩⟩, TOk.ofInfo (by kernel_rfl) (by kernel_rfl) (by kernel_rfl) (by kernel_rfl)⟩
theorem tok147 : TOk Try.prog 147 ⟨.struct [(0, 17), (1, 17), (2, 17), (3, 9)], 4, 40, [.val (.pointer none), .val (.pointer none), .val (.pointer none), .str []]⟩ := ⟨⟨_, Try.underlying147, ⟨_, rfl, rfl⟩⟩, TOk.ofInfo (by kernel_rfl) (by kernel_rfl) (by kernel_rfl) (by kernel_rfl)⟩
theorem tok152 : TOk Try.prog 152 ⟨.int .u32, 1, 4, [.val (.int .u32 0)]⟩ := ⟨⟨_, Try.underlying152, rfl⟩, TOk.ofInfo (by kernel_rfl) (by kernel_rfl) (by kernel_rfl) (by kernel_rfl)⟩
theorem tok153 : TOk Try.prog 153 ⟨.int .u8, 1, 1, [.val (.int .u8 0)]⟩ := ⟨⟨_, Try.underlying153, rfl⟩, TOk.ofInfo (by kernel_rfl) (by kernel_rfl) (by kernel_rfl) (by kernel_rfl)⟩
theorem tok154 : TOk Try.prog 154 ⟨.int .u8, 1, 1, [.val (.int .u8 0)]⟩ := ⟨⟨_, Try.underlying154, rfl⟩, TOk.ofInfo (by kernel_rfl) (by kernel_rfl) (by kernel_rfl) (by kernel_rfl)⟩
theorem tok156 : TOk Try.prog 156 ⟨.plain, 1, 8, [.val (.pointer none)]⟩ := ⟨⟨_, Try.underlying156, trivial⟩, TOk.ofInfo (by kernel_rfl) (by kernel_rfl) (by kernel_rfl) (by kernel_rfl)⟩
theorem tok157 : TOk Try.prog 157 ⟨.int .i32, 1, 4, [.val (.int .i32 0)]⟩ := ⟨⟨_, Try.underlying157, rfl⟩, TOk.ofInfo (by kernel_rfl) (by kernel_rfl) (by kernel_rfl) (by kernel_rfl)⟩
theorem tok158 : TOk Try.prog 158 ⟨.int .i32, 1, 4, [.val (.int .i32 0)]⟩ := ⟨⟨_, Try.underlying158, rfl⟩, TOk.ofInfo (by kernel_rfl) (by kernel_rfl) (by kernel_rfl) (by kernel_rfl)⟩
theorem tok159 : TOk Try.prog 159 ⟨.struct [(0, 12), (1, 12), (2, 152), (3, 153), (4, 5), (5, 5), (6, 154), (7, 155), (8, 156), (9, 157), (10, 158)], 11, 48, [.val (.int .u64 0), .val (.int .u64 0), .val (.int .u32 0), .val (.int .u8 0), .val (.int .u8 0), .val (.int .u8 0), .val (.int .u8 0), .val .nilFunc, .val (.pointer none), .val (.int .i32 0), .val (.int .i32 0)]⟩ := ⟨⟨_, Try.underlying159, ⟨_, rfl, rfl⟩⟩, TOk.ofInfo (by kernel_rfl) (by kernel_rfl) (by kernel_rfl) (by kernel_rfl)⟩
theorem tok160 : TOk Try.prog 160 ⟨.struct [(0, 12), (1, 12), (2, 152), (3, 153), (4, 5), (5, 5), (6, 154), (7, 155), (8, 156), (9, 157), (10, 158)], 11, 48, [.val (.int .u64 0), .val (.int .u64 0), .val (.int .u32 0), .val (.int .u8 0), .val (.int .u8 0), .val (.int .u8 0), .val (.int .u8 0), .val .nilFunc, .val (.pointer none), .val (.int .i32 0), .val (.int .i32 0)]⟩ := ⟨⟨_, Try.underlying160, ⟨_, rfl, rfl⟩⟩, TOk.ofInfo (by kernel_rfl) (by kernel_rfl) (by kernel_rfl) (by kernel_rfl)⟩
theorem tab_ok : TabOk Try.prog tab := ⟨tok2, tok3, tok4, tok5, tok6, tok7, tok8, tok9, tok10, tok11, tok12, tok13, tok14, tok15, tok16, tok17, tok18, tok19, tok21, tok22, tok25, tok28, tok31, tok36, tok37, tok39, tok40, tok41, tok42, tok62, tok70, tok77, tok78, tok107, tok118, tok119, tok120, tok121, tok130, tok137, tok141, tok142, tok144, tok146, tok147, tok152, tok153, tok154, tok156, tok157, tok158, tok159, tok160, trivial⟩
/-- The program and its table. -/
noncomputable def Sy : FM.Sys := ⟨Try.prog, FM.look tab, fun t i h => FM.look_ok tab_ok h, by kernel_rfl, fun _ => false, fun _ => undef⟩
end Go.Proofs.Ytioodlkigdklhaa
