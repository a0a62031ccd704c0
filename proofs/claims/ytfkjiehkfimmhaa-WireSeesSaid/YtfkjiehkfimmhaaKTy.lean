/- The types of this seat's program, as far as walks ask for them: printed by gen_ty.py. -/
import Derived.Test.YtfkjiehkfimmhaaKa
namespace Go.Proofs.Ytfkjiehkfimmhaa
namespace K

def ty : List (Nat × TyD) := [(2, .int .i64), (3, .int .i64), (4, .bool), (5, .int .u8), (6, .int .u8), (7, .struct 4 [(2, 0, 1), (3, 1, 1), (4, 2, 1), (6, 3, 1)]), (8, .struct 4 [(2, 0, 1), (3, 1, 1), (4, 2, 1), (6, 3, 1)]), (9, .str), (10, .str), (11, .str), (12, .int .u64), (13, .struct 2 [(9, 0, 1), (12, 1, 1)]), (14, .struct 2 [(9, 0, 1), (12, 1, 1)]), (15, .ptr 92), (16, .ptr 95), (17, .ptr 103), (18, .struct 1 [(17, 0, 1)]), (19, .struct 1 [(17, 0, 1)]), (21, .int .i32), (22, .slice 5 1), (23, .int .i64), (26, .slice 3 1), (27, .slice 55 6), (28, .arr 32 5 1), (29, .arr 32 5 1), (30, .struct 37 [(3, 0, 1), (3, 1, 1), (26, 2, 1), (9, 3, 1), (27, 4, 1), (29, 5, 32)]), (31, .struct 37 [(3, 0, 1), (3, 1, 1), (26, 2, 1), (9, 3, 1), (27, 4, 1), (29, 5, 32)]), (40, .ptr 45), (44, .struct 2 [(22, 0, 1), (4, 1, 1)]), (45, .struct 2 [(22, 0, 1), (4, 1, 1)]), (51, .int .u64), (53, .slice 9 1), (54, .struct 6 [(3, 0, 1), (3, 1, 1), (3, 2, 1), (9, 3, 1), (53, 4, 1), (27, 5, 1)]), (55, .struct 6 [(3, 0, 1), (3, 1, 1), (3, 2, 1), (9, 3, 1), (53, 4, 1), (27, 5, 1)]), (58, .int .u32), (67, .int .u64), (70, .arr 16 58 1), (82, .ptr 84), (83, .struct 2 [(22, 0, 1), (23, 1, 1)]), (84, .struct 2 [(22, 0, 1), (23, 1, 1)]), (91, .struct 4 [(17, 0, 1), (17, 1, 1), (17, 2, 1), (9, 3, 1)]), (92, .struct 4 [(17, 0, 1), (17, 1, 1), (17, 2, 1), (9, 3, 1)]), (94, .struct 0 [(93, 0, 0)]), (95, .struct 0 [(93, 0, 0)]), (96, .int .u8), (97, .int .u8), (99, .ptr 5), (100, .int .i32), (101, .int .i32), (102, .struct 11 [(12, 0, 1), (12, 1, 1), (58, 2, 1), (96, 3, 1), (5, 4, 1), (5, 5, 1), (97, 6, 1), (98, 7, 1), (99, 8, 1), (100, 9, 1), (101, 10, 1)]), (103, .struct 11 [(12, 0, 1), (12, 1, 1), (58, 2, 1), (96, 3, 1), (5, 4, 1), (5, 5, 1), (97, 6, 1), (98, 7, 1), (99, 8, 1), (100, 9, 1), (101, 10, 1)])]
theorem tyOk2 : (.int .i64 : TyD).ok Try.prog 2 := Try.underlying2
theorem tyOk3 : (.int .i64 : TyD).ok Try.prog 3 := Try.underlying3
theorem tyOk4 : (.bool : TyD).ok Try.prog 4 := Try.underlying4
theorem tyOk5 : (.int .u8 : TyD).ok Try.prog 5 := Try.underlying5
theorem tyOk6 : (.int .u8 : TyD).ok Try.prog 6 := Try.underlying6
theorem tyOk7 : (.struct 4 [(2, 0, 1), (3, 1, 1), (4, 2, 1), (6, 3, 1)] : TyD).ok Try.prog 7 := ⟨⟨_, Try.underlying7⟩, by kernel_rfl, by kernel_rfl⟩
theorem tyOk8 : (.struct 4 [(2, 0, 1), (3, 1, 1), (4, 2, 1), (6, 3, 1)] : TyD).ok Try.prog 8 := ⟨⟨_, Try.underlying8⟩, by kernel_rfl, by kernel_rfl⟩
theorem tyOk9 : (.str : TyD).ok Try.prog 9 := Try.underlying9
theorem tyOk10 : (.str : TyD).ok Try.prog 10 := Try.underlying10
theorem tyOk11 : (.str : TyD).ok Try.prog 11 := Try.underlying11
theorem tyOk12 : (.int .u64 : TyD).ok Try.prog 12 := Try.underlying12
theorem tyOk13 : (.struct 2 [(9, 0, 1), (12, 1, 1)] : TyD).ok Try.prog 13 := ⟨⟨_, Try.underlying13⟩, by kernel_rfl, by kernel_rfl⟩
theorem tyOk14 : (.struct 2 [(9, 0, 1), (12, 1, 1)] : TyD).ok Try.prog 14 := ⟨⟨_, Try.underlying14⟩, by kernel_rfl, by kernel_rfl⟩
theorem tyOk15 : (.ptr 92 : TyD).ok Try.prog 15 := Try.underlying15
theorem tyOk16 : (.ptr 95 : TyD).ok Try.prog 16 := Try.underlying16
theorem tyOk17 : (.ptr 103 : TyD).ok Try.prog 17 := Try.underlying17
theorem tyOk18 : (.struct 1 [(17, 0, 1)] : TyD).ok Try.prog 18 := ⟨⟨_, Try.underlying18⟩, by kernel_rfl, by kernel_rfl⟩
theorem tyOk19 : (.struct 1 [(17, 0, 1)] : TyD).ok Try.prog 19 := ⟨⟨_, Try.underlying19⟩, by kernel_rfl, by kernel_rfl⟩
theorem tyOk21 : (.int .i32 : TyD).ok Try.prog 21 := Try.underlying21
theorem tyOk22 : (.slice 5 1 : TyD).ok Try.prog 22 := ⟨Try.underlying22, by kernel_rfl⟩
theorem tyOk23 : (.int .i64 : TyD).ok Try.prog 23 := Try.underlying23
theorem tyOk26 : (.slice 3 1 : TyD).ok Try.prog 26 := ⟨Try.underlying26, by kernel_rfl⟩
theorem tyOk27 : (.slice 55 6 : TyD).ok Try.prog 27 := ⟨Try.underlying27, by kernel_rfl⟩
theorem tyOk28 : (.arr 32 5 1 : TyD).ok Try.prog 28 := ⟨Try.underlying28, by kernel_rfl, by kernel_rfl⟩
theorem tyOk29 : (.arr 32 5 1 : TyD).ok Try.prog 29 := ⟨Try.underlying29, by kernel_rfl, by kernel_rfl⟩
theorem tyOk30 : (.struct 37 [(3, 0, 1), (3, 1, 1), (26, 2, 1), (9, 3, 1), (27, 4, 1), (29, 5, 32)] : TyD).ok Try.prog 30 := ⟨⟨_, Try.underlying30⟩, by kernel_rfl, by kernel_rfl⟩
theorem tyOk31 : (.struct 37 [(3, 0, 1), (3, 1, 1), (26, 2, 1), (9, 3, 1), (27, 4, 1), (29, 5, 32)] : TyD).ok Try.prog 31 := ⟨⟨_, Try.underlying31⟩, by kernel_rfl, by kernel_rfl⟩
theorem tyOk40 : (.ptr 45 : TyD).ok Try.prog 40 := Try.underlying40
theorem tyOk44 : (.struct 2 [(22, 0, 1), (4, 1, 1)] : TyD).ok Try.prog 44 := ⟨⟨_, Try.underlying44⟩, by kernel_rfl, by kernel_rfl⟩
theorem tyOk45 : (.struct 2 [(22, 0, 1), (4, 1, 1)] : TyD).ok Try.prog 45 := ⟨⟨_, Try.underlying45⟩, by kernel_rfl, by kernel_rfl⟩
theorem tyOk51 : (.int .u64 : TyD).ok Try.prog 51 := Try.underlying51
theorem tyOk53 : (.slice 9 1 : TyD).ok Try.prog 53 := ⟨Try.underlying53, by kernel_rfl⟩
theorem tyOk54 : (.struct 6 [(3, 0, 1), (3, 1, 1), (3, 2, 1), (9, 3, 1), (53, 4, 1), (27, 5, 1)] : TyD).ok Try.prog 54 := ⟨⟨_, Try.underlying54⟩, by kernel_rfl, by kernel_rfl⟩
theorem tyOk55 : (.struct 6 [(3, 0, 1), (3, 1, 1), (3, 2, 1), (9, 3, 1), (53, 4, 1), (27, 5, 1)] : TyD).ok Try.prog 55 := ⟨⟨_, Try.underlying55⟩, by kernel_rfl, by kernel_rfl⟩
theorem tyOk58 : (.int .u32 : TyD).ok Try.prog 58 := Try.underlying58
theorem tyOk67 : (.int .u64 : TyD).ok Try.prog 67 := Try.underlying67
theorem tyOk70 : (.arr 16 58 1 : TyD).ok Try.prog 70 := ⟨Try.underlying70, by kernel_rfl, by kernel_rfl⟩
theorem tyOk82 : (.ptr 84 : TyD).ok Try.prog 82 := Try.underlying82
theorem tyOk83 : (.struct 2 [(22, 0, 1), (23, 1, 1)] : TyD).ok Try.prog 83 := ⟨⟨_, Try.underlying83⟩, by kernel_rfl, by kernel_rfl⟩
theorem tyOk84 : (.struct 2 [(22, 0, 1), (23, 1, 1)] : TyD).ok Try.prog 84 := ⟨⟨_, Try.underlying84⟩, by kernel_rfl, by kernel_rfl⟩
theorem tyOk91 : (.struct 4 [(17, 0, 1), (17, 1, 1), (17, 2, 1), (9, 3, 1)] : TyD).ok Try.prog 91 := ⟨⟨_, Try.underlying91⟩, by kernel_rfl, by kernel_rfl⟩
theorem tyOk92 : (.struct 4 [(17, 0, 1), (17, 1, 1), (17, 2, 1), (9, 3, 1)] : TyD).ok Try.prog 92 := ⟨⟨_, Try.underlying92⟩, by kernel_rfl, by kernel_rfl⟩
theorem tyOk94 : (.struct 0 [(93, 0, 0)] : TyD).ok Try.prog 94 := ⟨⟨_, Try.underlying94⟩, by kernel_rfl, by kernel_rfl⟩
theorem tyOk95 : (.struct 0 [(93, 0, 0)] : TyD).ok Try.prog 95 := ⟨⟨_, Try.underlying95⟩, by kernel_rfl, by kernel_rfl⟩
theorem tyOk96 : (.int .u8 : TyD).ok Try.prog 96 := Try.underlying96
theorem tyOk97 : (.int .u8 : TyD).ok Try.prog 97 := Try.underlying97
theorem tyOk99 : (.ptr 5 : TyD).ok Try.prog 99 := Try.underlying99
theorem tyOk100 : (.int .i32 : TyD).ok Try.prog 100 := Try.underlying100
theorem tyOk101 : (.int .i32 : TyD).ok Try.prog 101 := Try.underlying101
theorem tyOk102 : (.struct 11 [(12, 0, 1), (12, 1, 1), (58, 2, 1), (96, 3, 1), (5, 4, 1), (5, 5, 1), (97, 6, 1), (98, 7, 1), (99, 8, 1), (100, 9, 1), (101, 10, 1)] : TyD).ok Try.prog 102 := ⟨⟨_, Try.underlying102⟩, by kernel_rfl, by kernel_rfl⟩
theorem tyOk103 : (.struct 11 [(12, 0, 1), (12, 1, 1), (58, 2, 1), (96, 3, 1), (5, 4, 1), (5, 5, 1), (97, 6, 1), (98, 7, 1), (99, 8, 1), (100, 9, 1), (101, 10, 1)] : TyD).ok Try.prog 103 := ⟨⟨_, Try.underlying103⟩, by kernel_rfl, by kernel_rfl⟩
theorem tyOk : TyOk Try.prog ty := ⟨tyOk2, tyOk3, tyOk4, tyOk5, tyOk6, tyOk7, tyOk8, tyOk9, tyOk10, tyOk11, tyOk12, tyOk13, tyOk14, tyOk15, tyOk16, tyOk17, tyOk18, tyOk19, tyOk21, tyOk22, tyOk23, tyOk26, tyOk27, tyOk28, tyOk29, tyOk30, tyOk31, tyOk40, tyOk44, tyOk45, tyOk51, tyOk53, tyOk54, tyOk55, tyOk58, tyOk67, tyOk70, tyOk82, tyOk83, tyOk84, tyOk91, tyOk92, tyOk94, tyOk95, tyOk96, tyOk97, tyOk99, tyOk100, tyOk101, tyOk102, tyOk103, trivial⟩
end K
end Go.Proofs.Ytfkjiehkfimmhaa
