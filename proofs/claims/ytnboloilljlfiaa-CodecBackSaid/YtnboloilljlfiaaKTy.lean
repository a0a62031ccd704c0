/- The types of this seat's program, as far as walks ask for them: printed by gen_ty.py. -/
import Derived.Test.YtnboloilljlfiaaKa
namespace Go.Proofs.Ytnboloilljlfiaa
namespace K

def ty : List (Nat × TyD) := [(2, .int .i64), (3, .int .i64), (4, .bool), (5, .int .u8), (6, .int .u8), (7, .struct 4 [(2, 0, 1), (3, 1, 1), (4, 2, 1), (6, 3, 1)]), (8, .struct 4 [(2, 0, 1), (3, 1, 1), (4, 2, 1), (6, 3, 1)]), (9, .str), (10, .str), (11, .str), (12, .int .u64), (13, .struct 2 [(9, 0, 1), (12, 1, 1)]), (14, .struct 2 [(9, 0, 1), (12, 1, 1)]), (15, .ptr 90), (16, .ptr 93), (17, .ptr 101), (18, .struct 1 [(17, 0, 1)]), (19, .struct 1 [(17, 0, 1)]), (21, .int .i32), (22, .slice 9 1), (23, .slice 25 6), (24, .struct 6 [(3, 0, 1), (3, 1, 1), (3, 2, 1), (9, 3, 1), (22, 4, 1), (23, 5, 1)]), (25, .struct 6 [(3, 0, 1), (3, 1, 1), (3, 2, 1), (9, 3, 1), (22, 4, 1), (23, 5, 1)]), (27, .ptr 3), (28, .slice 5 1), (29, .int .i64), (57, .int .u64), (61, .ptr 63), (62, .struct 2 [(28, 0, 1), (29, 1, 1)]), (63, .struct 2 [(28, 0, 1), (29, 1, 1)]), (68, .int .u64), (74, .int .u32), (80, .ptr 77), (85, .ptr 76), (89, .struct 4 [(17, 0, 1), (17, 1, 1), (17, 2, 1), (9, 3, 1)]), (90, .struct 4 [(17, 0, 1), (17, 1, 1), (17, 2, 1), (9, 3, 1)]), (92, .struct 0 [(91, 0, 0)]), (93, .struct 0 [(91, 0, 0)]), (94, .int .u8), (95, .int .u8), (97, .ptr 5), (98, .int .i32), (99, .int .i32), (100, .struct 11 [(12, 0, 1), (12, 1, 1), (74, 2, 1), (94, 3, 1), (5, 4, 1), (5, 5, 1), (95, 6, 1), (96, 7, 1), (97, 8, 1), (98, 9, 1), (99, 10, 1)]), (101, .struct 11 [(12, 0, 1), (12, 1, 1), (74, 2, 1), (94, 3, 1), (5, 4, 1), (5, 5, 1), (95, 6, 1), (96, 7, 1), (97, 8, 1), (98, 9, 1), (99, 10, 1)])]
theorem tyOk2 : (.int .i64 : TyD).ok Try.prog 2 := Try.underlying2
theorem tyOk3 : (.int .i64 : TyD).ok Try.prog 3 := Try.underlying3
theorem tyOk4 : (.bool : TyD).ok Try.prog 4 := Try.underlying4
theorem tyOk5 : (.int .u8 : TyD).ok Try.prog 5 := Try.underlying5
theorem tyOk6 : (.int .u8 : TyD).ok Try.prog 6 := Try.underlying6
theorem tyOk7 : (.struct 4 [(2, 0, 1), (3, 1, 1), (4, 2, 1), (6, 3, 1)] : TyD).ok Try.prog 7 := ⟨⟨_, Try.underlying7⟩, by kernel_rfl, by kernel_rfl⟩
theorem tyOk8 : (.struct 4 [(2, 0, 1), (3, 1, 1), (4, 2, 1), (6, 3, 1)] : TyD).ok Try.prog 8 := ⟨⟨_, Try.underlying8⟩, by kernel_rfl, by kernel_rfl⟩
theorem tyOk9 : (.str : TyD).ok Try.prog 9 := Try.underlying9
theorem tyOk10 : (.str : TyD).ok Try.prog 10 := Try.underlying10
theorem tyOk11 : (.str : TyD).ok Try.prog 11 := Try.underlying11
theorem tyOk12 : (.int .u64 : TyD).ok Try.prog 12 := Try.underlying12
theorem tyOk13 : (.struct 2 [(9, 0, 1), (12, 1, 1)] : TyD).ok Try.prog 13 := ⟨⟨_, Try.underlying13⟩, by kernel_rfl, by kernel_rfl⟩
theorem tyOk14 : (.struct 2 [(9, 0, 1), (12, 1, 1)] : TyD).ok Try.prog 14 := ⟨⟨_, Try.underlying14⟩, by kernel_rfl, by kernel_rfl⟩
theorem tyOk15 : (.ptr 90 : TyD).ok Try.prog 15 := Try.underlying15
theorem tyOk16 : (.ptr 93 : TyD).ok Try.prog 16 := Try.underlying16
theorem tyOk17 : (.ptr 101 : TyD).ok Try.prog 17 := Try.underlying17
theorem tyOk18 : (.struct 1 [(17, 0, 1)] : TyD).ok Try.prog 18 := ⟨⟨_, Try.underlying18⟩, by kernel_rfl, by kernel_rfl⟩
theorem tyOk19 : (.struct 1 [(17, 0, 1)] : TyD).ok Try.prog 19 := ⟨⟨_, Try.underlying19⟩, by kernel_rfl, by kernel_rfl⟩
theorem tyOk21 : (.int .i32 : TyD).ok Try.prog 21 := Try.underlying21
theorem tyOk22 : (.slice 9 1 : TyD).ok Try.prog 22 := ⟨Try.underlying22, by kernel_rfl⟩
theorem tyOk23 : (.slice 25 6 : TyD).ok Try.prog 23 := ⟨Try.underlying23, by kernel_rfl⟩
theorem tyOk24 : (.struct 6 [(3, 0, 1), (3, 1, 1), (3, 2, 1), (9, 3, 1), (22, 4, 1), (23, 5, 1)] : TyD).ok Try.prog 24 := ⟨⟨_, Try.underlying24⟩, by kernel_rfl, by kernel_rfl⟩
theorem tyOk25 : (.struct 6 [(3, 0, 1), (3, 1, 1), (3, 2, 1), (9, 3, 1), (22, 4, 1), (23, 5, 1)] : TyD).ok Try.prog 25 := ⟨⟨_, Try.underlying25⟩, by kernel_rfl, by kernel_rfl⟩
theorem tyOk27 : (.ptr 3 : TyD).ok Try.prog 27 := Try.underlying27
theorem tyOk28 : (.slice 5 1 : TyD).ok Try.prog 28 := ⟨Try.underlying28, by kernel_rfl⟩
theorem tyOk29 : (.int .i64 : TyD).ok Try.prog 29 := Try.underlying29
theorem tyOk57 : (.int .u64 : TyD).ok Try.prog 57 := Try.underlying57
theorem tyOk61 : (.ptr 63 : TyD).ok Try.prog 61 := Try.underlying61
theorem tyOk62 : (.struct 2 [(28, 0, 1), (29, 1, 1)] : TyD).ok Try.prog 62 := ⟨⟨_, Try.underlying62⟩, by kernel_rfl, by kernel_rfl⟩
theorem tyOk63 : (.struct 2 [(28, 0, 1), (29, 1, 1)] : TyD).ok Try.prog 63 := ⟨⟨_, Try.underlying63⟩, by kernel_rfl, by kernel_rfl⟩
theorem tyOk68 : (.int .u64 : TyD).ok Try.prog 68 := Try.underlying68
theorem tyOk74 : (.int .u32 : TyD).ok Try.prog 74 := Try.underlying74
theorem tyOk80 : (.ptr 77 : TyD).ok Try.prog 80 := Try.underlying80
theorem tyOk85 : (.ptr 76 : TyD).ok Try.prog 85 := Try.underlying85
theorem tyOk89 : (.struct 4 [(17, 0, 1), (17, 1, 1), (17, 2, 1), (9, 3, 1)] : TyD).ok Try.prog 89 := ⟨⟨_, Try.underlying89⟩, by kernel_rfl, by kernel_rfl⟩
theorem tyOk90 : (.struct 4 [(17, 0, 1), (17, 1, 1), (17, 2, 1), (9, 3, 1)] : TyD).ok Try.prog 90 := ⟨⟨_, Try.underlying90⟩, by kernel_rfl, by kernel_rfl⟩
theorem tyOk92 : (.struct 0 [(91, 0, 0)] : TyD).ok Try.prog 92 := ⟨⟨_, Try.underlying92⟩, by kernel_rfl, by kernel_rfl⟩
theorem tyOk93 : (.struct 0 [(91, 0, 0)] : TyD).ok Try.prog 93 := ⟨⟨_, Try.underlying93⟩, by kernel_rfl, by kernel_rfl⟩
theorem tyOk94 : (.int .u8 : TyD).ok Try.prog 94 := Try.underlying94
theorem tyOk95 : (.int .u8 : TyD).ok Try.prog 95 := Try.underlying95
theorem tyOk97 : (.ptr 5 : TyD).ok Try.prog 97 := Try.underlying97
theorem tyOk98 : (.int .i32 : TyD).ok Try.prog 98 := Try.underlying98
theorem tyOk99 : (.int .i32 : TyD).ok Try.prog 99 := Try.underlying99
theorem tyOk100 : (.struct 11 [(12, 0, 1), (12, 1, 1), (74, 2, 1), (94, 3, 1), (5, 4, 1), (5, 5, 1), (95, 6, 1), (96, 7, 1), (97, 8, 1), (98, 9, 1), (99, 10, 1)] : TyD).ok Try.prog 100 := ⟨⟨_, Try.underlying100⟩, by kernel_rfl, by kernel_rfl⟩
theorem tyOk101 : (.struct 11 [(12, 0, 1), (12, 1, 1), (74, 2, 1), (94, 3, 1), (5, 4, 1), (5, 5, 1), (95, 6, 1), (96, 7, 1), (97, 8, 1), (98, 9, 1), (99, 10, 1)] : TyD).ok Try.prog 101 := ⟨⟨_, Try.underlying101⟩, by kernel_rfl, by kernel_rfl⟩
theorem tyOk : TyOk Try.prog ty := ⟨tyOk2, tyOk3, tyOk4, tyOk5, tyOk6, tyOk7, tyOk8, tyOk9, tyOk10, tyOk11, tyOk12, tyOk13, tyOk14, tyOk15, tyOk16, tyOk17, tyOk18, tyOk19, tyOk21, tyOk22, tyOk23, tyOk24, tyOk25, tyOk27, tyOk28, tyOk29, tyOk57, tyOk61, tyOk62, tyOk63, tyOk68, tyOk74, tyOk80, tyOk85, tyOk89, tyOk90, tyOk92, tyOk93, tyOk94, tyOk95, tyOk97, tyOk98, tyOk99, tyOk100, tyOk101, trivial⟩
end K
end Go.Proofs.Ytnboloilljlfiaa
