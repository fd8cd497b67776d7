/- Part of the proof. -/
import Derived.Test.YtmbbagbhmjaedaaGreatDoorCbc
set_option linter.all false
set_option maxRecDepth 10000
set_option maxHeartbeats 3200000
namespace Go.Proofs.YtmbbagbhmjaedaaGreatDoor
open Go FM Tryz
def tab:List (Nat×TI):=[
 (2,⟨.int .i64,1,8,[.int 0]⟩),
 (3,⟨.int .i64,1,8,[.int 0]⟩),
 (4,⟨.plain,1,1,[.bool false]⟩),
 (5,⟨.int .u8,1,1,[.val (.int .u8 0)]⟩),
 (6,⟨.int .u8,1,1,[.val (.int .u8 0)]⟩),
 (7,⟨.struct [(0,2),(1,3),(2,4),(3,6)],4,24,[.int 0,.int 0,.bool false,.val (.int .u8 0)]⟩),
 (8,⟨.struct [(0,2),(1,3),(2,4),(3,6)],4,24,[.int 0,.int 0,.bool false,.val (.int .u8 0)]⟩),
 (9,⟨.str,1,16,[.str []]⟩),
 (10,⟨.str,1,16,[.str []]⟩),
 (11,⟨.str,1,16,[.str []]⟩),
 (12,⟨.int .u64,1,8,[.val (.int .u64 0)]⟩),
 (13,⟨.struct [(0,9),(1,12)],2,24,[.str [],.val (.int .u64 0)]⟩),
 (14,⟨.struct [(0,9),(1,12)],2,24,[.str [],.val (.int .u64 0)]⟩),
 (15,⟨.plain,1,8,[.val (.pointer none)]⟩),
 (16,⟨.plain,1,8,[.val (.pointer none)]⟩),
 (17,⟨.plain,1,8,[.val (.pointer none)]⟩),
 (18,⟨.struct [(0,17)],1,8,[.val (.pointer none)]⟩),
 (19,⟨.struct [(0,17)],1,8,[.val (.pointer none)]⟩),
 (21,⟨.int .i32,1,4,[.val (.int .i32 0)]⟩),
 (22,⟨.slice 27,1,24,[.nil]⟩),
 (23,⟨.slice 46,1,24,[.nil]⟩),
 (24,⟨.int .i64,1,8,[.int 0]⟩),
 (27,⟨.slice 39,1,24,[.nil]⟩),
 (28,⟨.slice 82,1,24,[.nil]⟩),
 (29,⟨.slice 37,1,24,[.nil]⟩),
 (30,⟨.struct [(0,9),(1,3)],2,24,[.str [],.int 0]⟩),
 (31,⟨.struct [(0,9),(1,3)],2,24,[.str [],.int 0]⟩),
 (32,⟨.struct [(0,28),(1,29),(2,31)],4,72,[.nil,.nil,.str [],.int 0]⟩),
 (33,⟨.struct [(0,28),(1,29),(2,31)],4,72,[.nil,.nil,.str [],.int 0]⟩),
 (34,⟨.slice 41,1,24,[.nil]⟩),
 (35,⟨.slice 24,1,24,[.nil]⟩),
 (36,⟨.struct [(0,9),(1,9),(2,3),(3,3),(4,3),(5,3)],6,64,[.str [],.str [],.int 0,.int 0,.int 0,.int 0]⟩),
 (37,⟨.struct [(0,9),(1,9),(2,3),(3,3),(4,3),(5,3)],6,64,[.str [],.str [],.int 0,.int 0,.int 0,.int 0]⟩),
 (38,⟨.struct [(0,3),(1,3),(2,9),(3,37)],9,96,[.int 0,.int 0,.str [],.str [],.str [],.int 0,.int 0,.int 0,.int 0]⟩),
 (39,⟨.struct [(0,3),(1,3),(2,9),(3,37)],9,96,[.int 0,.int 0,.str [],.str [],.str [],.int 0,.int 0,.int 0,.int 0]⟩),
 (40,⟨.struct [(0,3),(1,3)],2,16,[.int 0,.int 0]⟩),
 (41,⟨.struct [(0,3),(1,3)],2,16,[.int 0,.int 0]⟩),
 (45,⟨.struct [(0,34),(1,35)],2,48,[.nil,.nil]⟩),
 (46,⟨.struct [(0,34),(1,35)],2,48,[.nil,.nil]⟩),
 (54,⟨.int .u64,1,8,[.val (.int .u64 0)]⟩),
 (55,⟨.struct [(0,52),(0,53),(0,54)],1,8,[.val (.int .u64 0)]⟩),
 (56,⟨.struct [(0,52),(0,53),(0,54)],1,8,[.val (.int .u64 0)]⟩),
 (57,⟨.int .u32,1,4,[.val (.int .u32 0)]⟩),
 (58,⟨.struct [(0,51),(0,56),(1,57)],2,16,[.val (.int .u64 0),.val (.int .u32 0)]⟩),
 (59,⟨.struct [(0,51),(0,56),(1,57)],2,16,[.val (.int .u64 0),.val (.int .u32 0)]⟩),
 (71,⟨.slice 3,1,24,[.nil]⟩),
 (77,⟨.slice 9,1,24,[.nil]⟩),
 (81,⟨.struct [(0,9),(1,3),(2,3)],3,32,[.str [],.int 0,.int 0]⟩),
 (82,⟨.struct [(0,9),(1,3),(2,3)],3,32,[.str [],.int 0,.int 0]⟩),
 (84,⟨.plain,1,8,[.val (.pointer none)]⟩),
 (88,⟨.int .i64,1,8,[.int 0]⟩),
 (92,⟨.int .u64,1,8,[.val (.int .u64 0)]⟩),
 (93,⟨.plain,1,8,[.val (.pointer none)]⟩),
 (98,⟨.plain,1,8,[.val (.pointer none)]⟩),
 (126,⟨.plain,1,8,[.val (.pointer none)]⟩),
 (128,⟨.plain,1,8,[.val (.pointer none)]⟩),
 (131,⟨.plain,1,8,[.val (.pointer none)]⟩),
 (133,⟨.struct [(0,28),(1,29),(2,131)],3,56,[.nil,.nil,.val (.pointer none)]⟩),
 (134,⟨.struct [(0,28),(1,29),(2,131)],3,56,[.nil,.nil,.val (.pointer none)]⟩),
 (144,⟨.slice 5,1,24,[.nil]⟩),
 (145,⟨.int .u16,1,2,[.val (.int .u16 0)]⟩),
 (147,⟨.plain,1,8,[.val (.pointer none)]⟩),
 (148,⟨.struct [(0,147),(1,144)],2,32,[.val (.pointer none),.nil]⟩),
 (149,⟨.struct [(0,147),(1,144)],2,32,[.val (.pointer none),.nil]⟩),
 (154,⟨.arr 256 5,256,256,List.replicate 256 (.val (.int .u8 0))⟩),
 (158,⟨.struct [(0,9),(1,3)],2,24,[.str [],.int 0]⟩),
 (159,⟨.struct [(0,9),(1,3)],2,24,[.str [],.int 0]⟩),
 (166,⟨.arr 4 3,4,32,[.int 0,.int 0,.int 0,.int 0]⟩),
 (169,⟨.arr 256 4,256,256,List.replicate 256 (.bool false)⟩),
 (170,⟨.arr 256 4,256,256,List.replicate 256 (.bool false)⟩),
 (174,⟨.plain,1,8,[.val (.pointer none)]⟩),
 (176,⟨.plain,1,8,[.val (.pointer none)]⟩),
 (177,⟨.arr 24 5,24,24,List.replicate 24 (.val (.int .u8 0))⟩),
 (182,⟨.slice 184,1,24,[.nil]⟩),
 (183,⟨.struct [(0,3),(1,3)],2,16,[.int 0,.int 0]⟩),
 (184,⟨.struct [(0,3),(1,3)],2,16,[.int 0,.int 0]⟩),
 (186,⟨.plain,1,8,[.val (.pointer none)]⟩),
 (187,⟨.int .i64,1,8,[.int 0]⟩),
 (190,⟨.plain,1,8,[.val (.pointer none)]⟩),
 (209,⟨.arr 20 54,20,160,List.replicate 20 (.val (.int .u64 0))⟩),
 (210,⟨.arr 65 5,65,65,List.replicate 65 (.val (.int .u8 0))⟩),
 (212,⟨.slice 217,1,24,[.nil]⟩),
 (213,⟨.slice 220,1,24,[.nil]⟩),
 (214,⟨.struct [(0,212),(1,213),(2,3)],3,56,[.nil,.nil,.int 0]⟩),
 (215,⟨.struct [(0,212),(1,213),(2,3)],3,56,[.nil,.nil,.int 0]⟩),
 (216,⟨.struct [(0,145),(1,145),(2,145)],3,6,[.val (.int .u16 0),.val (.int .u16 0),.val (.int .u16 0)]⟩),
 (217,⟨.struct [(0,145),(1,145),(2,145)],3,6,[.val (.int .u16 0),.val (.int .u16 0),.val (.int .u16 0)]⟩),
 (219,⟨.struct [(0,57),(1,57),(2,57)],3,12,[.val (.int .u32 0),.val (.int .u32 0),.val (.int .u32 0)]⟩),
 (220,⟨.struct [(0,57),(1,57),(2,57)],3,12,[.val (.int .u32 0),.val (.int .u32 0),.val (.int .u32 0)]⟩),
 (224,⟨.struct [(0,9),(1,9),(2,123)],3,48,[.str [],.str [],.val .nilIface]⟩),
 (225,⟨.struct [(0,9),(1,9),(2,123)],3,48,[.str [],.str [],.val .nilIface]⟩),
 (232,⟨.plain,1,8,[.val (.pointer none)]⟩),
 (233,⟨.plain,1,8,[.val (.pointer none)]⟩),
 (235,⟨.plain,1,8,[.val (.pointer none)]⟩),
 (236,⟨.struct [(0,9)],1,16,[.str []]⟩),
 (237,⟨.struct [(0,9)],1,16,[.str []]⟩),
 (239,⟨.int .i64,1,8,[.int 0]⟩),
 (247,⟨.struct [(0,5),(1,5)],2,2,[.val (.int .u8 0),.val (.int .u8 0)]⟩),
 (248,⟨.struct [(0,5),(1,5)],2,2,[.val (.int .u8 0),.val (.int .u8 0)]⟩),
 (249,⟨.arr 16 248,32,32,List.replicate 32 (.val (.int .u8 0))⟩),
 (250,⟨.arr 32 5,32,32,List.replicate 32 (.val (.int .u8 0))⟩),
 (251,⟨.arr 64 5,64,64,List.replicate 64 (.val (.int .u8 0))⟩),
 (252,⟨.int .u64,1,8,[.val (.int .u64 0)]⟩),
 (255,⟨.plain,1,8,[.val (.pointer none)]⟩),
 (257,⟨.plain,1,8,[.val (.pointer none)]⟩),
 (261,⟨.struct [(0,17),(1,17),(2,17),(3,9)],4,40,[.val (.pointer none),.val (.pointer none),.val (.pointer none),.str []]⟩),
 (262,⟨.struct [(0,17),(1,17),(2,17),(3,9)],4,40,[.val (.pointer none),.val (.pointer none),.val (.pointer none),.str []]⟩),
 (267,⟨.int .u8,1,1,[.val (.int .u8 0)]⟩),
 (268,⟨.int .u8,1,1,[.val (.int .u8 0)]⟩),
 (270,⟨.int .i32,1,4,[.val (.int .i32 0)]⟩),
 (271,⟨.int .i32,1,4,[.val (.int .i32 0)]⟩),
 (272,⟨.struct [(0,12),(1,12),(2,57),(3,267),(4,5),(5,5),(6,268),(7,269),(8,176),(9,270),(10,271)],11,48,[.val (.int .u64 0),.val (.int .u64 0),.val (.int .u32 0),.val (.int .u8 0),.val (.int .u8 0),.val (.int .u8 0),.val (.int .u8 0),.val .nilFunc,.val (.pointer none),.val (.int .i32 0),.val (.int .i32 0)]⟩),
 (273,⟨.struct [(0,12),(1,12),(2,57),(3,267),(4,5),(5,5),(6,268),(7,269),(8,176),(9,270),(10,271)],11,48,[.val (.int .u64 0),.val (.int .u64 0),.val (.int .u32 0),.val (.int .u8 0),.val (.int .u8 0),.val (.int .u8 0),.val (.int .u8 0),.val .nilFunc,.val (.pointer none),.val (.int .i32 0),.val (.int .i32 0)]⟩)]
theorem b5{P:Program}{t size bytes:Nat}{zero:List AV}(h:(P.info? t).map (fun i=>(i.size,i.bytes))=some (size,bytes):=by kernel_rfl)(hz:(P.info? t).bind (fun i=>i.zero.map (·.cells.toList))=some (zero.map AV.toV):=by kernel_rfl)(hf:zero.all AV.aR=true:=by kernel_rfl)(hl:zero.length=size:=by kernel_rfl):
  ∃ f z,P.info? t=some f/\f.size=size/\f.bytes=bytes/\f.zero=some z/\z.cells.toList=zero.map AV.toV/\zero.all AV.aR=true/\z.cells.size=size:=tT.PC h hz hf hl
theorem Qy:Hw Tryz.prog tab:=⟨⟨⟨_,underlying2,rfl⟩,b5⟩,
 ⟨⟨_,underlying3,rfl⟩,b5⟩,
 ⟨⟨_,underlying4,trivial⟩,b5⟩,
 ⟨⟨_,underlying5,rfl⟩,b5⟩,
 ⟨⟨_,underlying6,rfl⟩,b5⟩,
 ⟨⟨_,underlying7,⟨_,rfl,rfl⟩⟩,b5⟩,
 ⟨⟨_,underlying8,⟨_,rfl,rfl⟩⟩,b5⟩,
 ⟨⟨_,underlying9,rfl⟩,b5⟩,
 ⟨⟨_,underlying10,rfl⟩,b5⟩,
 ⟨⟨_,underlying11,rfl⟩,b5⟩,
 ⟨⟨_,underlying12,rfl⟩,b5⟩,
 ⟨⟨_,underlying13,⟨_,rfl,rfl⟩⟩,b5⟩,
 ⟨⟨_,underlying14,⟨_,rfl,rfl⟩⟩,b5⟩,
 ⟨⟨_,underlying15,trivial⟩,b5⟩,
 ⟨⟨_,underlying16,trivial⟩,b5⟩,
 ⟨⟨_,underlying17,trivial⟩,b5⟩,
 ⟨⟨_,underlying18,⟨_,rfl,rfl⟩⟩,b5⟩,
 ⟨⟨_,underlying19,⟨_,rfl,rfl⟩⟩,b5⟩,
 ⟨⟨_,underlying21,rfl⟩,b5⟩,
 ⟨⟨_,underlying22,rfl⟩,b5⟩,
 ⟨⟨_,underlying23,rfl⟩,b5⟩,
 ⟨⟨_,underlying24,rfl⟩,b5⟩,
 ⟨⟨_,underlying27,rfl⟩,b5⟩,
 ⟨⟨_,underlying28,rfl⟩,b5⟩,
 ⟨⟨_,underlying29,rfl⟩,b5⟩,
 ⟨⟨_,underlying30,⟨_,rfl,rfl⟩⟩,b5⟩,
 ⟨⟨_,underlying31,⟨_,rfl,rfl⟩⟩,b5⟩,
 ⟨⟨_,underlying32,⟨_,rfl,rfl⟩⟩,b5⟩,
 ⟨⟨_,underlying33,⟨_,rfl,rfl⟩⟩,b5⟩,
 ⟨⟨_,underlying34,rfl⟩,b5⟩,
 ⟨⟨_,underlying35,rfl⟩,b5⟩,
 ⟨⟨_,underlying36,⟨_,rfl,rfl⟩⟩,b5⟩,
 ⟨⟨_,underlying37,⟨_,rfl,rfl⟩⟩,b5⟩,
 ⟨⟨_,underlying38,⟨_,rfl,rfl⟩⟩,b5⟩,
 ⟨⟨_,underlying39,⟨_,rfl,rfl⟩⟩,b5⟩,
 ⟨⟨_,underlying40,⟨_,rfl,rfl⟩⟩,b5⟩,
 ⟨⟨_,underlying41,⟨_,rfl,rfl⟩⟩,b5⟩,
 ⟨⟨_,underlying45,⟨_,rfl,rfl⟩⟩,b5⟩,
 ⟨⟨_,underlying46,⟨_,rfl,rfl⟩⟩,b5⟩,
 ⟨⟨_,underlying54,rfl⟩,b5⟩,
 ⟨⟨_,underlying55,⟨_,rfl,rfl⟩⟩,b5⟩,
 ⟨⟨_,underlying56,⟨_,rfl,rfl⟩⟩,b5⟩,
 ⟨⟨_,underlying57,rfl⟩,b5⟩,
 ⟨⟨_,underlying58,⟨_,rfl,rfl⟩⟩,b5⟩,
 ⟨⟨_,underlying59,⟨_,rfl,rfl⟩⟩,b5⟩,
 ⟨⟨_,underlying71,rfl⟩,b5⟩,
 ⟨⟨_,underlying77,rfl⟩,b5⟩,
 ⟨⟨_,underlying81,⟨_,rfl,rfl⟩⟩,b5⟩,
 ⟨⟨_,underlying82,⟨_,rfl,rfl⟩⟩,b5⟩,
 ⟨⟨_,underlying84,trivial⟩,b5⟩,
 ⟨⟨_,underlying88,rfl⟩,b5⟩,
 ⟨⟨_,underlying92,rfl⟩,b5⟩,
 ⟨⟨_,underlying93,trivial⟩,b5⟩,
 ⟨⟨_,underlying98,trivial⟩,b5⟩,
 ⟨⟨_,underlying126,trivial⟩,b5⟩,
 ⟨⟨_,underlying128,trivial⟩,b5⟩,
 ⟨⟨_,underlying131,trivial⟩,b5⟩,
 ⟨⟨_,underlying133,⟨_,rfl,rfl⟩⟩,b5⟩,
 ⟨⟨_,underlying134,⟨_,rfl,rfl⟩⟩,b5⟩,
 ⟨⟨_,underlying144,rfl⟩,b5⟩,
 ⟨⟨_,underlying145,rfl⟩,b5⟩,
 ⟨⟨_,underlying147,trivial⟩,b5⟩,
 ⟨⟨_,underlying148,⟨_,rfl,rfl⟩⟩,b5⟩,
 ⟨⟨_,underlying149,⟨_,rfl,rfl⟩⟩,b5⟩,
 ⟨⟨_,underlying154,rfl⟩,b5⟩,
 ⟨⟨_,underlying158,⟨_,rfl,rfl⟩⟩,b5⟩,
 ⟨⟨_,underlying159,⟨_,rfl,rfl⟩⟩,b5⟩,
 ⟨⟨_,underlying166,rfl⟩,b5⟩,
 ⟨⟨_,underlying169,rfl⟩,b5⟩,
 ⟨⟨_,underlying170,rfl⟩,b5⟩,
 ⟨⟨_,underlying174,trivial⟩,b5⟩,
 ⟨⟨_,underlying176,trivial⟩,b5⟩,
 ⟨⟨_,underlying177,rfl⟩,b5⟩,
 ⟨⟨_,underlying182,rfl⟩,b5⟩,
 ⟨⟨_,underlying183,⟨_,rfl,rfl⟩⟩,b5⟩,
 ⟨⟨_,underlying184,⟨_,rfl,rfl⟩⟩,b5⟩,
 ⟨⟨_,underlying186,trivial⟩,b5⟩,
 ⟨⟨_,underlying187,rfl⟩,b5⟩,
 ⟨⟨_,underlying190,trivial⟩,b5⟩,
 ⟨⟨_,underlying209,rfl⟩,b5⟩,
 ⟨⟨_,underlying210,rfl⟩,b5⟩,
 ⟨⟨_,underlying212,rfl⟩,b5⟩,
 ⟨⟨_,underlying213,rfl⟩,b5⟩,
 ⟨⟨_,underlying214,⟨_,rfl,rfl⟩⟩,b5⟩,
 ⟨⟨_,underlying215,⟨_,rfl,rfl⟩⟩,b5⟩,
 ⟨⟨_,underlying216,⟨_,rfl,rfl⟩⟩,b5⟩,
 ⟨⟨_,underlying217,⟨_,rfl,rfl⟩⟩,b5⟩,
 ⟨⟨_,underlying219,⟨_,rfl,rfl⟩⟩,b5⟩,
 ⟨⟨_,underlying220,⟨_,rfl,rfl⟩⟩,b5⟩,
 ⟨⟨_,underlying224,⟨_,rfl,rfl⟩⟩,b5⟩,
 ⟨⟨_,underlying225,⟨_,rfl,rfl⟩⟩,b5⟩,
 ⟨⟨_,underlying232,trivial⟩,b5⟩,
 ⟨⟨_,underlying233,trivial⟩,b5⟩,
 ⟨⟨_,underlying235,trivial⟩,b5⟩,
 ⟨⟨_,underlying236,⟨_,rfl,rfl⟩⟩,b5⟩,
 ⟨⟨_,underlying237,⟨_,rfl,rfl⟩⟩,b5⟩,
 ⟨⟨_,underlying239,rfl⟩,b5⟩,
 ⟨⟨_,underlying247,⟨_,rfl,rfl⟩⟩,b5⟩,
 ⟨⟨_,underlying248,⟨_,rfl,rfl⟩⟩,b5⟩,
 ⟨⟨_,underlying249,rfl⟩,b5⟩,
 ⟨⟨_,underlying250,rfl⟩,b5⟩,
 ⟨⟨_,underlying251,rfl⟩,b5⟩,
 ⟨⟨_,underlying252,rfl⟩,b5⟩,
 ⟨⟨_,underlying255,trivial⟩,b5⟩,
 ⟨⟨_,underlying257,trivial⟩,b5⟩,
 ⟨⟨_,underlying261,⟨_,rfl,rfl⟩⟩,b5⟩,
 ⟨⟨_,underlying262,⟨_,rfl,rfl⟩⟩,b5⟩,
 ⟨⟨_,underlying267,rfl⟩,b5⟩,
 ⟨⟨_,underlying268,rfl⟩,b5⟩,
 ⟨⟨_,underlying270,rfl⟩,b5⟩,
 ⟨⟨_,underlying271,rfl⟩,b5⟩,
 ⟨⟨_,underlying272,⟨_,rfl,rfl⟩⟩,b5⟩,
 ⟨⟨_,underlying273,⟨_,rfl,rfl⟩⟩,b5⟩,trivial⟩
noncomputable def Sy:FM.Sys:=⟨Tryz.prog,FM.look tab,fun t i h=>FM.look_ok Qy h,ah,fun _=>false,fun _=>undef,[],fun _ _=>False⟩
theorem bQ{N:Nat}{f:Nat}{fn:Func}{c:Code}{eR:List ResultVar}{xs9 xs9':List AV}{r:AV}(hf:Sy.P.funcs[f]?=some fn)(hN:fn.ntmps=N)(h:∀ v0,CW (Sy.fixed 0 v0) N c (Ret (Sy.fixed 0 v0) eR xs9 xs9' r) (jc (qY 0 xs9)))(hb:fn.body=some c:=by rfl)(j3:(fn.name == "runtime.NumGoroutine")=false:=by rfl)(hr:fn.results=eR.toArray:=by rfl)(hlen:Nat.ble xs9.length N=true:=by rfl)(Hv:uM (eR.map ResultVar.slot)=true:=by rfl)(hge:(eR.map ResultVar.slot).all (fun t=>Nat.ble xs9.length t)=true:=by rfl):FnSpec Sy.P f xs9 xs9' r :=
 FnSpec.enter (S:=Sy) 0 hf hb j3 hr hN hlen Hv hge rfl h
def cp{α:Type}(p:α->Bool):List α->Nat->Int
 | [],_=>-1
 | x::r,k=>bif p x then(k:Int) else cp p r (k+1)
theorem oL{α:Type}{p:α->Bool}{l:List α}{k:Nat}(h:k<l.length):cp p (l.drop k) k=bif p l[k] then(k:Int) else cp p (l.drop (k+1)) (k+1):=by
 rw [List.drop_eq_getElem_cons h];rfl
theorem rL{α:Type}{p:α->Bool}{l:List α}:cp p (l.drop l.length) l.length=-1:=by rw [List.drop_length];rfl
theorem pC{α:Type}{p:α->Bool}:∀ {l:List α} {k:Nat},0<=cp p l k↔l.any p=true
 | [],k=>by simp [cp]
 | x::r,k=>by
  have ih:=pC (p:=p) (l:=r) (k:=k+1);unfold cp;rw [List.any_cons];by_cases h:p x=true
  ·rw [h];simp
  ·rw [Bool.eq_false_iff.2 h,cond_false,Bool.false_or];exact ih
theorem H9{α:Type}{p:α->Bool}{l:List α}{k:Nat}:decide (0<=cp p l k)=l.any p:=by
 rw [aiG,decide_eq_true_iff];exact pC
theorem jM{α:Type}{p:α->Bool}:∀ {l:List α} {k:Nat},-1<=cp p l k/\cp p l k<(k+l.length:Nat)
 | [],k=>by simp [cp];omega
 | x::r,k=>by
  simp only [cp,ahI];have:=jM (p:=p) (l:=r) (k:=k+1);cases p x<;>simp<;>omega
theorem yV(l:List Int)(D:Int->Prop)(p:Int->Bool)(hl:l.length<=9223372036854775807)(hD:∀ x∈l,D x):FnSpec Sy.P 116 [.sl false 1 ((l).map .int),P2 Sy.P D p] [.sl false 1 ((l).map .int),P2 Sy.P D p] (.int (cp p l 0)):=by
 refine bQ func116 ntmps116 fun v0=>?_;repeat' first|refine aG ?_|(refine aK ?_ ?_<;>intro _<;>try exact aE)|(refine l7 ?_ ?_<;>intro _<;>try exact l6)|fail
 refine CW.loop (fun k:Nat=>[(0,.av (.sl false 1 ((l).map .int))),(1,.av (P2 Sy.P D p)),(7,.av (.int (l.length))),(8,.av (.int (k)))]) (fun k=>k<=l.length/\cp p l 0=cp p (l.drop k) k) (fun k=>l.length-k) (0) ?_ (ck) ?_
 ·exact⟨ahQ _,rfl⟩
 intro k ⟨hk,hp⟩;by_cases aA:k<l.length
 ·have hx:l[k]?=some l[k]:=ahn aA;have hd:D l[k]:=hD _ (ahB aA);rw [oL aA] at hp
  cases hb:p l[k] with
  | true =>
   rw [hb,cond_true] at hp;rw [hp];repeat' first|refine aG ?_|(refine J.pB [.int l[k]] rfl rfl rfl ⟨_,rfl,hd⟩ (by exact fX) (by first|assumption|rfl|simp) rfl ?_)|(refine J.mF [.int l[k]] rfl rfl rfl ⟨_,rfl,hd⟩ (by exact fX) (by first|assumption|rfl|simp) rfl ?_)|(refine aK ?_ ?_<;>intro _<;>try exact aE)|(refine l7 ?_ ?_<;>intro _<;>try exact l6)|fail
   all_goals first|(rw [hb] at *;contradiction)|exact .mk rfl rfl rfl
  | false =>
   rw [hb,cond_false] at hp;repeat' first|refine aG ?_|(refine J.pB [.int l[k]] rfl rfl rfl ⟨_,rfl,hd⟩ (by exact fX) (by first|assumption|rfl|simp) rfl ?_)|(refine J.mF [.int l[k]] rfl rfl rfl ⟨_,rfl,hd⟩ (by exact fX) (by first|assumption|rfl|simp) rfl ?_)|(refine aK ?_ ?_<;>intro _<;>try exact aE)|(refine l7 ?_ ?_<;>intro _<;>try exact l6)|fail
   all_goals first|(rw [hb] at *;contradiction)|skip
   refine⟨k+1,?_,fM,ck⟩;exact⟨ae,hp⟩
 ·obtain rfl:k=l.length:=ae;rw [rL] at hp;rw [hp];repeat' first|refine aG ?_|(refine aK ?_ ?_<;>intro _<;>try exact aE)|(refine l7 ?_ ?_<;>intro _<;>try exact l6)|fail
  exact .mk rfl rfl rfl
theorem rM(l:List Int)(D:Int->Prop)(p:Int->Bool)(hl:l.length<=9223372036854775807)(hD:∀ x∈l,D x):FnSpec Sy.P 79 [.sl false 1 ((l).map .int),P2 Sy.P D p] [.sl false 1 ((l).map .int),P2 Sy.P D p] (.bool (l.any p)):=by
 refine bQ func79 ntmps79 fun v0=>?_;have h:=yV l D p hl hD;repeat' first|refine aG ?_|refine aF (h) ?_|fail
 exact .mk rfl (congrArg AV.bool H9.symm) rfl
end Go.Proofs.YtmbbagbhmjaedaaGreatDoor
namespace FM
open Go Go.RowKit
theorem FnSpec.LX{P:Program}{f:Nat}{bs:List AV}{r:AV}(hf:jd P f)(hr:r.aR=true)
  (h:∀ (w:World) (L:Nat->aO) (vs:List Value),vs.length=bs.length->(∀ i x v,bs[i]?=some x->vs[i]?=some v->Rep L w (some [i]) x v)->kg L w->Calls P f vs.toArray w fun e w'=>e=.returned r.toV/\Below w.heap.size w w'):FnSpec P f bs bs r where
 ok:=hf
 calls:=fun w L vs hl b7 bE=>(h w L vs hl bE b7.glob).mono fun e w' ⟨he,hb⟩=>by
  have hL:∀ b p,(if b<w.heap.size then L b else .sh)=.my p->b<w.heap.size/\L b=.my p:=fun b p h=>by
   by_cases hb:b<w.heap.size
   ·rw [if_pos hb] at h;exact⟨hb,h⟩
   ·rw [if_neg hb] at h;cases h
  refine⟨r.toV,fun b=>if b<w.heap.size then L b else .sh,he,⟨hb.os,hb.tape,hb.output,hb.size,fun b aA _=>hb.block b aA⟩,
   ⟨fun b p h=>ahv (hL b p h).1 hb.size,fun b b' p h h'=>b7.inj b b' p (hL b p h).2 (hL b' p h').2,fun b p h e=>?_,fun b p _ h=>⟨p,(hL b p h).2⟩,fun b aA=>?_,fun b hge h=>?_⟩,fun b p h=>?_,fun i x u hx hu=>?_,toV_rep hr⟩
  ·obtain⟨i,q,e',_⟩:=b7.head b p (hL b p h).2;rw [e] at e';cases e'
  ·show(if b<w.heap.size then L b else .sh)=.fo↔_;rw [if_pos aA]
  ·have h:(if b<w.heap.size then L b else .sh)=.fo:=h;rw [if_neg ae] at h;cases h
  ·obtain⟨i,q,e',h2⟩:=b7.head b p (hL b p h).2;exact⟨i,q,e',ae⟩
  ·refine(bE i x u hx hu).frame hb.size hb.os hb.tape hb.output (fun b h1 h2=>⟨?_,hb.block b h2⟩) _ fun p hp=>⟨p,hp,fun b q h1=>⟨?_,?_⟩⟩
   ·show(if b<w.heap.size then L b else .sh)=.sh;rw [if_pos h2];exact h1
   ·show(if b<w.heap.size then L b else .sh)=_;rw [if_pos (b7.lt b _ h1)];exact h1
   ·exact hb.block b (b7.lt b _ h1)
end FM
namespace Go.Proofs.YtmbbagbhmjaedaaGreatDoor
open Go FM Go.Proofs Tryz
abbrev bd:=List UInt8
def Qz:bd:=[97,98,99,100,101,102,103,104,105,106,107,108,109,110,111,112,113,114,115,116,117,118,119,120,121,122]
theorem FG(s c:bd)(hs:s.length<=9223372036854775807)(hc:c.length<=1000)(ha:∀ (j:Nat) b,c[j]?=some b->b.toNat<128):FnSpec Sy.P 78 [.str s,.str c] [.str s,.str c] (.str (Lib.trimS s c)):=by
 refine FnSpec.LX ⟨_,func78,rfl,rfl⟩ rfl fun w L vs hl bE _=>?_
 match vs,hl,bE with
 | [u,v],_,bE =>
  have h1:=bE 0 _ _ rfl rfl;have h2:=bE 1 _ _ rfl rfl;cases h1;cases h2;have:=Any.strings_Trim_ascii Up (fun w=>zeroValue170 w) ah ⟨s.toArray⟩ ⟨c.toArray⟩ w (by rw [cK];exact hs) (by rw [cK];omega) (by simpa using ha);exact this
def yW(c:UInt8):Bool:=decide (97<=c.toNat/\c.toNat<=122)
def gV(s:bd):Bool:=decide (0<s.length/\s.length<=8)&&s.all yW
theorem LY(c:UInt8):Qz.contains c=yW c:=by
 have h:∀ n,n<256->Qz.contains (UInt8.ofNat n)=yW (UInt8.ofNat n):=by decide +kernel
 have:=h c.toNat c.toNat_lt
 rwa [UInt8.ofNat_toNat] at this
theorem oM{p:UInt8->Bool}{c:UInt8}(hc:p c=false):∀ {l:bd},c∈l->c∈l.dropWhile p
 | [],h=>by cases h
 | a::l,h=>by
  rw [List.dropWhile_cons]
  cases ha:p a with
  | true =>
   rw [if_pos rfl];rcases ah1.1 h with rfl|h
   ·rw [ha] at hc;cases hc
   ·exact oM hc h
  | false=>rw [if_neg ag];exact h
theorem uT{p:UInt8->Bool}:∀ {l:bd},l.all p=true->l.dropWhile p=[]
 | [],_=>rfl
 | a::l,h=>by
  rw [List.all_cons,aht] at h;rw [List.dropWhile_cons,h.1,if_pos rfl];exact uT h.2
theorem LZ(s:bd):(Lib.trimS s Qz=[])↔s.all yW=true:=by
 have hp:(fun c=>Qz.contains c)=yW:=funext LY;unfold Lib.trimS Lib.trimLeftS Lib.trimRightS;rw [hp];constructor
 ·intro h;rw [ahM];intro c hc;refine Classical.byContradiction fun hn=>?_;have hn:yW c=false:=by simpa using hn
  have h1:=oM (p:=yW) hn (List.mem_reverse.2 hc);have h2:=oM (p:=yW) hn (List.mem_reverse.2 h1);rw [h] at h2;cases h2
 ·intro h;have:s.reverse.all yW=true:=by rw [List.all_reverse];exact h
  rw [uT this];rfl
theorem jN(s:bd)(hs:s.length<=9223372036854775807):FnSpec Sy.P 131 [.str s] [.str s] (.bool (gV s)):=by
 refine bQ func131 ntmps131 fun v0=>?_;repeat' first|refine aG ?_|(refine aK ?_ ?_<;>intro _<;>try exact aE)|fail
 refine CW.loop (fun k:Nat=>[(0,.av (.str s)),(6,.av (.sl false 1 (s.map b8))),(7,.av (.int (s.length))),(8,.av (.int (k)))]) (fun k=>k<=s.length/\(s.take k).all yW=true) (fun k=>s.length-k) (0) ?_ (ck) ?_
 ·exact⟨ahQ _,rfl⟩
 intro k ⟨hk,ha⟩;by_cases gW:k<s.length
 ·have hx:s[k]?=some s[k]:=ahn gW;have hm:s[k]∈s:=ahB gW;have rN:(s.take (k+1)).all yW=yW s[k]:=by rw [aid gW,List.all_append,ha];simp
  generalize s[k]=c at *;by_cases hc:97<=c.toNat/\c.toNat<=122
  ·rw [show yW c=true from decide_eq_true hc] at rN;repeat' first|refine aG ?_|(refine aK ?_ ?_<;>intro _<;>try exact aE)|fail
   all_goals try exact aE
   refine⟨k+1,?_,fM,ck⟩;exact⟨ae,rN⟩
  ·have dJ:gV s=false:=by
    unfold gV;rw [List.all_eq_false.2 ⟨c,hm,by rw [show yW c=false from decide_eq_false hc];simp⟩,Bool.and_false]
   rw [dJ];repeat' first|refine aG ?_|(refine aK ?_ ?_<;>intro _<;>try exact aE)|fail
   all_goals exact bw
 ·obtain rfl:s.length=k:=ae;rw [ah7] at ha;have hn:gV s=decide (0<s.length/\s.length<=8):=by unfold gV;rw [ha,Bool.and_true]
  rw [hn];repeat' first|refine aG ?_|(refine aK ?_ ?_<;>intro _<;>try exact aE)|fail
  all_goals first|(exfalso;omega)|exact .mk rfl (congrArg AV.bool (by first|exact decide_eq_true ae|exact decide_eq_false ae|(rw [decide_eq_decide];omega))) rfl
theorem iA(s:bd)(hs:s.length<=9223372036854775807):FnSpec Sy.P 47 [.str s] [.str s] (.bool (gV s)):=by
 have hT:=FG s Qz hs af (fun j b h=>by
  have:∀ b∈Qz,b.toNat<128:=af
  exact this b (ahH h))
 have hta:=LZ s;by_cases h0:s=[]
 ·subst h0;refine bQ func47 ntmps47 fun v0=>?_;repeat' first|refine aG ?_|refine aF (hT) ?_|(refine aK ?_ ?_<;>intro _<;>try exact aE)|fail
  all_goals first|exact .mk rfl rfl rfl|(exfalso;contradiction)|skip
 ·have nf:0<s.length:=List.length_pos_iff.2 h0;by_cases h8:s.length<=8
  ·have hn:gV s=s.all yW:=by unfold gV;rw [decide_eq_true ⟨nf,h8⟩,Bool.true_and]
   by_cases ht:Lib.trimS s Qz=[]
   ·rw [hn,hta.1 ht];refine bQ func47 ntmps47 fun v0=>?_;repeat' first|refine aG ?_|refine aF (hT) ?_|(refine aK ?_ ?_<;>intro _<;>try exact aE)|fail
    all_goals first|(exfalso;omega)|(exfalso;contradiction)|exact .mk rfl (congrArg AV.bool (by simp [ht])) rfl
   ·rw [hn,show s.all yW=false by simpa using (fun h=>ht (hta.2 h))];refine bQ func47 ntmps47 fun v0=>?_;repeat' first|refine aG ?_|refine aF (hT) ?_|(refine aK ?_ ?_<;>intro _<;>try exact aE)|fail
    all_goals first|(exfalso;omega)|(exfalso;contradiction)|exact .mk rfl (congrArg AV.bool (by simp [ht])) rfl
  ·rw [show gV s=false by unfold gV;rw [decide_eq_false (fun h=>h8 h.2),aiL]];refine bQ func47 ntmps47 fun v0=>?_;repeat' first|refine aG ?_|(refine aK ?_ ?_<;>intro _<;>try exact aE)|fail
   all_goals first|(exfalso;omega)|(exfalso;contradiction)|exact .mk rfl (congrArg AV.bool ag) rfl
abbrev Ac:=bd×Int×Int×Unit
abbrev bz(a:Ac):AV:=.agg [.str a.1,.int a.2.1,.int a.2.2.1]
abbrev Dl:=bd×bd×Int×Int×Int×Int×Unit
abbrev bL(d:Dl):AV:=.agg [.str d.1,.str d.2.1,.int d.2.2.1,.int d.2.2.2.1,.int d.2.2.2.2.1,.int d.2.2.2.2.2.1]
def jo(x:Int):Bool:=decide (0<=x/\x<=1000000)
def QA(x:Int):Bool:=decide (x<0∨1000000<x)
theorem L8(x:Int):QA x=!(jo x):=by
 unfold QA jo;rw [aiG];simp only [decide_eq_true_eq,Bool.not_eq_true',decide_eq_false_iff_not];omega
theorem nD(x:Int):FnSpec Sy.P 80 [.int x] [.int x] (.bool (QA x)):=by
 unfold QA;refine bQ func80 ntmps80 fun v0=>?_;by_cases c:x<0∨1000000<x
 ·rw [decide_eq_true c];repeat' first|refine aG ?_|(refine aK ?_ ?_<;>intro _<;>try exact aE)|fail
  all_goals first|exact .mk rfl rfl rfl|exact .mk rfl (congrArg AV.bool (by simp;omega)) rfl
 ·rw [decide_eq_false c];repeat' first|refine aG ?_|(refine aK ?_ ?_<;>intro _<;>try exact aE)|fail
  all_goals first|exact .mk rfl rfl rfl|exact .mk rfl (congrArg AV.bool (by simp;omega)) rfl
theorem yX{m:Nat}{v:Nat->Value}{N:Nat}{σ:St}:aX (Sy.fixed m v) N σ (.func 80) true (P2 Sy.P (fun _=>True) QA) :=
 .X0 (nD 0).ok fun x _=>nD x
theorem L9(l:List Int):(!(l.any QA))=l.all jo:=by
 rw [List.not_any_eq_all_not];exact congrArg l.all (funext fun x=>by rw [L8,Bool.not_not])
theorem kQ(l:List Int)(hl:l.length<=9223372036854775807):FnSpec Sy.P 48 [.sl false 1 ((l).map .int)] [.sl false 1 ((l).map .int)] (.bool (l.all jo)):=by
 have hA:=rM l (fun _=>True) QA hl (fun _ _=>trivial);rw [<- L9];refine bQ func48 ntmps48 fun v0=>?_;repeat' first|refine aG ?_|((with_reducible first|apply J.bq (hA)|apply J.dE (hA));rfl;rfl;(repeat' (first|exact aV.nil|exact yX|apply aV.cons|exact aX.pl rfl rfl|exact aX.br rfl AV.noConfusion (by first|rfl|exact dr|exact c7|exact cD|exact dL|exact bG (fun _=>rfl))));(first|rfl|exact Be|exact Bf))
 exact .mk rfl rfl rfl
def lT(d:Dl):Int:=if gV d.1=false∨gV d.2.1=false∨d.1=d.2.1 then 3 else if (jo d.2.2.1&&(jo d.2.2.2.1&&(jo d.2.2.2.2.1&&true)))=false∨d.2.2.2.2.2.1<1∨100<d.2.2.2.2.2.1 then 1 else 0
theorem lH{x:Int}:jo x=true↔0<=x/\x<=1000000:=by unfold jo;rw [decide_eq_true_eq]
theorem wL{x:Int}:jo x=false↔x<0∨1000000<x:=by unfold jo;rw [decide_eq_false_iff_not];omega
theorem mG(d:Dl)(h1:d.1.length<=9223372036854775807)(h2:d.2.1.length<=9223372036854775807):FnSpec Sy.P 97 [bL d] [bL d] (.int (lT d)):=by
 have ye:=jN d.1 h1;have uU:=jN d.2.1 h2;unfold lT;obtain⟨fr,tw,num,much,fee,size,u⟩:=d;dsimp only [bL] at ye uU ⊢;refine bQ func97 ntmps97 fun v0=>?_
 cases b1:gV fr with
 | false =>
  rw [b1] at ye;rw [if_pos (.inl rfl)];repeat' first|refine aG ?_|refine aF (ye) ?_|refine aF (uU) ?_|(refine aK ?_ ?_<;>intro _<;>try exact aE)|fail
  all_goals exact bw
 | true =>
 rw [b1] at ye
 cases b2:gV tw with
 | false =>
  rw [b2] at uU;rw [if_pos (.inr (.inl rfl))];repeat' first|refine aG ?_|refine aF (ye) ?_|refine aF (uU) ?_|(refine aK ?_ ?_<;>intro _<;>try exact aE)|fail
  all_goals exact bw
 | true =>
 rw [b2] at uU;by_cases b3:fr=tw
 ·rw [if_pos (.inr (.inr b3))];repeat' first|refine aG ?_|refine aF (ye) ?_|refine aF (uU) ?_|(refine aK ?_ ?_<;>intro _<;>try exact aE)|fail
  all_goals exact bw
 rw [if_neg (by rintro(h|h|h)<;>first|exact b3 h|cases h)];have fin:∀ (P:Prop) [Decidable P] (n:Int),(P↔(num<0∨1000000<num∨much<0∨1000000<much∨fee<0∨1000000<fee∨size<1∨100<size))->(if P then(1:Int) else 0)=if (num<0∨1000000<num∨much<0∨1000000<much∨fee<0∨1000000<fee∨size<1∨100<size) then 1 else 0:=fun P _ n h=>by
  by_cases hP:P
  ·rw [if_pos hP,if_pos (h.1 hP)]
  ·rw [if_neg hP,if_neg (fun hh=>hP (h.2 hh))]
 rw [fin _ 0 (by
  simp only [Bool.and_true,Bool.and_eq_false_iff,wL]
  constructor
  ·rintro((h|h|h)|h|h)<;>omega
  ·intro h;omega)]
 by_cases c:num<0∨1000000<num∨much<0∨1000000<much∨fee<0∨1000000<fee∨size<1∨100<size
 ·rw [if_pos c];repeat' first|refine aG ?_|refine aF (ye) ?_|refine aF (uU) ?_|(refine aK ?_ ?_<;>intro _<;>try exact aE)|fail
  all_goals exact bw
 ·rw [if_neg c];repeat' first|refine aG ?_|refine aF (ye) ?_|refine aF (uU) ?_|(refine aK ?_ ?_<;>intro _<;>try exact aE)|fail
  all_goals exact bw
theorem jO(d:Dl)(h1:d.1.length<=9223372036854775807)(h2:d.2.1.length<=9223372036854775807):FnSpec Sy.P 55 [bL d] [bL d] (.int (lT d)):=by
 have ye:=iA d.1 h1;have uU:=iA d.2.1 h2;have hW:=kQ [d.2.2.1,d.2.2.2.1,d.2.2.2.2.1] ag;unfold lT;obtain⟨fr,tw,num,much,fee,size,u⟩:=d;simp only [List.all_cons,List.all_nil] at hW;dsimp only [bL] at ye uU hW ⊢;generalize (jo num&&(jo much&&(jo fee&&true)))=wb at *;refine bQ func55 ntmps55 fun v0=>?_
 cases b1:gV fr with
 | false =>
  rw [b1] at ye;rw [if_pos (.inl rfl)];repeat' first|refine aG ?_|refine aF (ye) ?_|refine aF (uU) ?_|refine aF (hW) ?_|(refine aK ?_ ?_<;>intro _<;>try exact aE)|(refine l7 ?_ ?_<;>intro _<;>try exact l6)|fail
  all_goals exact bw
 | true =>
 rw [b1] at ye
 cases b2:gV tw with
 | false =>
  rw [b2] at uU;rw [if_pos (.inr (.inl rfl))];repeat' first|refine aG ?_|refine aF (ye) ?_|refine aF (uU) ?_|refine aF (hW) ?_|(refine aK ?_ ?_<;>intro _<;>try exact aE)|(refine l7 ?_ ?_<;>intro _<;>try exact l6)|fail
  all_goals exact bw
 | true =>
 rw [b2] at uU;by_cases b3:fr=tw
 ·rw [if_pos (.inr (.inr b3))];repeat' first|refine aG ?_|refine aF (ye) ?_|refine aF (uU) ?_|refine aF (hW) ?_|(refine aK ?_ ?_<;>intro _<;>try exact aE)|(refine l7 ?_ ?_<;>intro _<;>try exact l6)|fail
  all_goals exact bw
 rw [if_neg (by rintro(h|h|h)<;>first|exact b3 h|cases h)]
 cases wb with
 | false =>
  rw [if_pos (.inl rfl)];repeat' first|refine aG ?_|refine aF (ye) ?_|refine aF (uU) ?_|refine aF (hW) ?_|(refine aK ?_ ?_<;>intro _<;>try exact aE)|(refine l7 ?_ ?_<;>intro _<;>try exact l6)|fail
  all_goals exact bw
 | true =>
  by_cases c:size<1∨100<size
  ·rw [if_pos (.inr c)];repeat' first|refine aG ?_|refine aF (ye) ?_|refine aF (uU) ?_|refine aF (hW) ?_|(refine aK ?_ ?_<;>intro _<;>try exact aE)|(refine l7 ?_ ?_<;>intro _<;>try exact l6)|fail
   all_goals exact bw
  ·rw [if_neg (by rintro(h|h);cases h;exact c h)];repeat' first|refine aG ?_|refine aF (ye) ?_|refine aF (uU) ?_|refine aF (hW) ?_|(refine aK ?_ ?_<;>intro _<;>try exact aE)|(refine l7 ?_ ?_<;>intro _<;>try exact l6)|fail
   all_goals exact bw
end Go.Proofs.YtmbbagbhmjaedaaGreatDoor
