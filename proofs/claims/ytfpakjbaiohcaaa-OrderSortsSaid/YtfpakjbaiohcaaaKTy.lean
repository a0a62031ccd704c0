/- The types of this seat's program, as far as walks ask for them: printed by gen_ty.py. -/
import Derived.Test.YtfpakjbaiohcaaaKa
namespace Go.Proofs.Ytfpakjbaiohcaaa
namespace K

def ty : List (Nat × TyD) := [(2, .int .i64), (3, .int .i64), (4, .bool), (5, .int .u8), (6, .int .u8), (7, .struct 4 [(2, 0, 1), (3, 1, 1), (4, 2, 1), (6, 3, 1)]), (8, .struct 4 [(2, 0, 1), (3, 1, 1), (4, 2, 1), (6, 3, 1)]), (9, .str), (10, .str), (11, .str), (12, .int .u64), (13, .struct 2 [(9, 0, 1), (12, 1, 1)]), (14, .struct 2 [(9, 0, 1), (12, 1, 1)]), (15, .ptr 111), (16, .ptr 114), (17, .ptr 123), (18, .struct 1 [(17, 0, 1)]), (19, .struct 1 [(17, 0, 1)]), (21, .int .i32), (22, .slice 37 6), (24, .int .i64), (35, .slice 9 1), (36, .struct 6 [(3, 0, 1), (3, 1, 1), (3, 2, 1), (9, 3, 1), (35, 4, 1), (22, 5, 1)]), (37, .struct 6 [(3, 0, 1), (3, 1, 1), (3, 2, 1), (9, 3, 1), (35, 4, 1), (22, 5, 1)]), (45, .ptr 3), (47, .slice 5 1), (54, .ptr 56), (55, .struct 2 [(9, 0, 1), (4, 1, 1)]), (56, .struct 2 [(9, 0, 1), (4, 1, 1)]), (59, .ptr 61), (60, .struct 2 [(9, 0, 1), (4, 1, 1)]), (61, .struct 2 [(9, 0, 1), (4, 1, 1)]), (66, .int .u64), (73, .int .u64), (80, .int .i8), (82, .int .u32), (94, .struct 3 [(66, 0, 1), (66, 1, 1), (4, 2, 1)]), (95, .struct 3 [(66, 0, 1), (66, 1, 1), (4, 2, 1)]), (99, .struct 3 [(66, 0, 1), (66, 1, 1), (4, 2, 1)]), (100, .struct 3 [(66, 0, 1), (66, 1, 1), (4, 2, 1)]), (109, .ptr 126), (110, .struct 4 [(17, 0, 1), (17, 1, 1), (17, 2, 1), (9, 3, 1)]), (111, .struct 4 [(17, 0, 1), (17, 1, 1), (17, 2, 1), (9, 3, 1)]), (113, .struct 0 [(112, 0, 0)]), (114, .struct 0 [(112, 0, 0)]), (116, .int .u8), (117, .int .u8), (119, .ptr 5), (120, .int .i32), (121, .int .i32), (122, .struct 11 [(12, 0, 1), (12, 1, 1), (82, 2, 1), (116, 3, 1), (5, 4, 1), (5, 5, 1), (117, 6, 1), (118, 7, 1), (119, 8, 1), (120, 9, 1), (121, 10, 1)]), (123, .struct 11 [(12, 0, 1), (12, 1, 1), (82, 2, 1), (116, 3, 1), (5, 4, 1), (5, 5, 1), (117, 6, 1), (118, 7, 1), (119, 8, 1), (120, 9, 1), (121, 10, 1)]), (125, .struct 1 [(9, 0, 1)]), (126, .struct 1 [(9, 0, 1)])]
theorem tyOk2 : (.int .i64 : TyD).ok Try.prog 2 := Try.underlying2
theorem tyOk3 : (.int .i64 : TyD).ok Try.prog 3 := Try.underlying3
theorem tyOk4 : (.bool : TyD).ok Try.prog 4 := Try.underlying4
theorem tyOk5 : (.int .u8 : TyD).ok Try.prog 5 := Try.underlying5
theorem tyOk6 : (.int .u8 : TyD).ok Try.prog 6 := Try.underlying6
theorem tyOk7 : (.struct 4 [(2, 0, 1), (3, 1, 1), (4, 2, 1), (6, 3, 1)] : TyD).ok Try.prog 7 := ⟨⟨_, Try.underlying7⟩, by kernel_rfl, by kernel_rfl⟩
theorem tyOk8 : (.struct 4 [(2, 0, 1), (3, 1, 1), (4, 2, 1), (6, 3, 1)] : TyD).ok Try.prog 8 := ⟨⟨_, Try.underlying8⟩, by kernel_rfl, by kernel_rfl⟩
theorem tyOk9 : (.str : TyD).ok Try.prog 9 := Try.underlying9
theorem tyOk10 : (.str : TyD).ok Try.prog 10 := Try.underlying10
theorem tyOk11 : (.str : TyD).ok Try.prog 11 := Try.underlying11
theorem tyOk12 : (.int .u64 : TyD).ok Try.prog 12 := Try.underlying12
theorem tyOk13 : (.struct 2 [(9, 0, 1), (12, 1, 1)] : TyD).ok Try.prog 13 := ⟨⟨_, Try.underlying13⟩, by kernel_rfl, by kernel_rfl⟩
theorem tyOk14 : (.struct 2 [(9, 0, 1), (12, 1, 1)] : TyD).ok Try.prog 14 := ⟨⟨_, Try.underlying14⟩, by kernel_rfl, by kernel_rfl⟩
theorem tyOk15 : (.ptr 111 : TyD).ok Try.prog 15 := Try.underlying15
theorem tyOk16 : (.ptr 114 : TyD).ok Try.prog 16 := Try.underlying16
theorem tyOk17 : (.ptr 123 : TyD).ok Try.prog 17 := Try.underlying17
theorem tyOk18 : (.struct 1 [(17, 0, 1)] : TyD).ok Try.prog 18 := ⟨⟨_, Try.underlying18⟩, by kernel_rfl, by kernel_rfl⟩
theorem tyOk19 : (.struct 1 [(17, 0, 1)] : TyD).ok Try.prog 19 := ⟨⟨_, Try.underlying19⟩, by kernel_rfl, by kernel_rfl⟩
theorem tyOk21 : (.int .i32 : TyD).ok Try.prog 21 := Try.underlying21
theorem tyOk22 : (.slice 37 6 : TyD).ok Try.prog 22 := ⟨Try.underlying22, by kernel_rfl⟩
theorem tyOk24 : (.int .i64 : TyD).ok Try.prog 24 := Try.underlying24
theorem tyOk35 : (.slice 9 1 : TyD).ok Try.prog 35 := ⟨Try.underlying35, by kernel_rfl⟩
theorem tyOk36 : (.struct 6 [(3, 0, 1), (3, 1, 1), (3, 2, 1), (9, 3, 1), (35, 4, 1), (22, 5, 1)] : TyD).ok Try.prog 36 := ⟨⟨_, Try.underlying36⟩, by kernel_rfl, by kernel_rfl⟩
theorem tyOk37 : (.struct 6 [(3, 0, 1), (3, 1, 1), (3, 2, 1), (9, 3, 1), (35, 4, 1), (22, 5, 1)] : TyD).ok Try.prog 37 := ⟨⟨_, Try.underlying37⟩, by kernel_rfl, by kernel_rfl⟩
theorem tyOk45 : (.ptr 3 : TyD).ok Try.prog 45 := Try.underlying45
theorem tyOk47 : (.slice 5 1 : TyD).ok Try.prog 47 := ⟨Try.underlying47, by kernel_rfl⟩
theorem tyOk54 : (.ptr 56 : TyD).ok Try.prog 54 := Try.underlying54
theorem tyOk55 : (.struct 2 [(9, 0, 1), (4, 1, 1)] : TyD).ok Try.prog 55 := ⟨⟨_, Try.underlying55⟩, by kernel_rfl, by kernel_rfl⟩
theorem tyOk56 : (.struct 2 [(9, 0, 1), (4, 1, 1)] : TyD).ok Try.prog 56 := ⟨⟨_, Try.underlying56⟩, by kernel_rfl, by kernel_rfl⟩
theorem tyOk59 : (.ptr 61 : TyD).ok Try.prog 59 := Try.underlying59
theorem tyOk60 : (.struct 2 [(9, 0, 1), (4, 1, 1)] : TyD).ok Try.prog 60 := ⟨⟨_, Try.underlying60⟩, by kernel_rfl, by kernel_rfl⟩
theorem tyOk61 : (.struct 2 [(9, 0, 1), (4, 1, 1)] : TyD).ok Try.prog 61 := ⟨⟨_, Try.underlying61⟩, by kernel_rfl, by kernel_rfl⟩
theorem tyOk66 : (.int .u64 : TyD).ok Try.prog 66 := Try.underlying66
theorem tyOk73 : (.int .u64 : TyD).ok Try.prog 73 := Try.underlying73
theorem tyOk80 : (.int .i8 : TyD).ok Try.prog 80 := Try.underlying80
theorem tyOk82 : (.int .u32 : TyD).ok Try.prog 82 := Try.underlying82
theorem tyOk94 : (.struct 3 [(66, 0, 1), (66, 1, 1), (4, 2, 1)] : TyD).ok Try.prog 94 := ⟨⟨_, Try.underlying94⟩, by kernel_rfl, by kernel_rfl⟩
theorem tyOk95 : (.struct 3 [(66, 0, 1), (66, 1, 1), (4, 2, 1)] : TyD).ok Try.prog 95 := ⟨⟨_, Try.underlying95⟩, by kernel_rfl, by kernel_rfl⟩
theorem tyOk99 : (.struct 3 [(66, 0, 1), (66, 1, 1), (4, 2, 1)] : TyD).ok Try.prog 99 := ⟨⟨_, Try.underlying99⟩, by kernel_rfl, by kernel_rfl⟩
theorem tyOk100 : (.struct 3 [(66, 0, 1), (66, 1, 1), (4, 2, 1)] : TyD).ok Try.prog 100 := ⟨⟨_, Try.underlying100⟩, by kernel_rfl, by kernel_rfl⟩
theorem tyOk109 : (.ptr 126 : TyD).ok Try.prog 109 := Try.underlying109
theorem tyOk110 : (.struct 4 [(17, 0, 1), (17, 1, 1), (17, 2, 1), (9, 3, 1)] : TyD).ok Try.prog 110 := ⟨⟨_, Try.underlying110⟩, by kernel_rfl, by kernel_rfl⟩
theorem tyOk111 : (.struct 4 [(17, 0, 1), (17, 1, 1), (17, 2, 1), (9, 3, 1)] : TyD).ok Try.prog 111 := ⟨⟨_, Try.underlying111⟩, by kernel_rfl, by kernel_rfl⟩
theorem tyOk113 : (.struct 0 [(112, 0, 0)] : TyD).ok Try.prog 113 := ⟨⟨_, Try.underlying113⟩, by kernel_rfl, by kernel_rfl⟩
theorem tyOk114 : (.struct 0 [(112, 0, 0)] : TyD).ok Try.prog 114 := ⟨⟨_, Try.underlying114⟩, by kernel_rfl, by kernel_rfl⟩
theorem tyOk116 : (.int .u8 : TyD).ok Try.prog 116 := Try.underlying116
theorem tyOk117 : (.int .u8 : TyD).ok Try.prog 117 := Try.underlying117
theorem tyOk119 : (.ptr 5 : TyD).ok Try.prog 119 := Try.underlying119
theorem tyOk120 : (.int .i32 : TyD).ok Try.prog 120 := Try.underlying120
theorem tyOk121 : (.int .i32 : TyD).ok Try.prog 121 := Try.underlying121
theorem tyOk122 : (.struct 11 [(12, 0, 1), (12, 1, 1), (82, 2, 1), (116, 3, 1), (5, 4, 1), (5, 5, 1), (117, 6, 1), (118, 7, 1), (119, 8, 1), (120, 9, 1), (121, 10, 1)] : TyD).ok Try.prog 122 := ⟨⟨_, Try.underlying122⟩, by kernel_rfl, by kernel_rfl⟩
theorem tyOk123 : (.struct 11 [(12, 0, 1), (12, 1, 1), (82, 2, 1), (116, 3, 1), (5, 4, 1), (5, 5, 1), (117, 6, 1), (118, 7, 1), (119, 8, 1), (120, 9, 1), (121, 10, 1)] : TyD).ok Try.prog 123 := ⟨⟨_, Try.underlying123⟩, by kernel_rfl, by kernel_rfl⟩
theorem tyOk125 : (.struct 1 [(9, 0, 1)] : TyD).ok Try.prog 125 := ⟨⟨_, Try.underlying125⟩, by kernel_rfl, by kernel_rfl⟩
theorem tyOk126 : (.struct 1 [(9, 0, 1)] : TyD).ok Try.prog 126 := ⟨⟨_, Try.underlying126⟩, by kernel_rfl, by kernel_rfl⟩
theorem tyOk : TyOk Try.prog ty := ⟨tyOk2, tyOk3, tyOk4, tyOk5, tyOk6, tyOk7, tyOk8, tyOk9, tyOk10, tyOk11, tyOk12, tyOk13, tyOk14, tyOk15, tyOk16, tyOk17, tyOk18, tyOk19, tyOk21, tyOk22, tyOk24, tyOk35, tyOk36, tyOk37, tyOk45, tyOk47, tyOk54, tyOk55, tyOk56, tyOk59, tyOk60, tyOk61, tyOk66, tyOk73, tyOk80, tyOk82, tyOk94, tyOk95, tyOk99, tyOk100, tyOk109, tyOk110, tyOk111, tyOk113, tyOk114, tyOk116, tyOk117, tyOk119, tyOk120, tyOk121, tyOk122, tyOk123, tyOk125, tyOk126, trivial⟩
end K
end Go.Proofs.Ytfpakjbaiohcaaa
