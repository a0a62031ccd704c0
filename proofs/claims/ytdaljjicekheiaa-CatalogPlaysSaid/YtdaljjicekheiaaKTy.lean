/- The types of this seat's program, as far as walks ask for them: printed by gen_ty.py. -/
import Derived.Test.YtdaljjicekheiaaKa
namespace Go.Proofs.Ytdaljjicekheiaa
namespace K

def ty : List (Nat × TyD) := [(2, .int .i64), (3, .int .i64), (4, .bool), (5, .int .u8), (6, .int .u8), (7, .struct 4 [(2, 0, 1), (3, 1, 1), (4, 2, 1), (6, 3, 1)]), (8, .struct 4 [(2, 0, 1), (3, 1, 1), (4, 2, 1), (6, 3, 1)]), (9, .str), (10, .str), (11, .str), (12, .int .u64), (13, .struct 2 [(9, 0, 1), (12, 1, 1)]), (14, .struct 2 [(9, 0, 1), (12, 1, 1)]), (15, .ptr 84), (16, .ptr 87), (17, .ptr 97), (18, .struct 1 [(17, 0, 1)]), (19, .struct 1 [(17, 0, 1)]), (21, .int .i32), (23, .ptr 69), (25, .int .i64), (27, .slice 5 1), (28, .slice 9 1), (29, .slice 31 6), (30, .struct 6 [(3, 0, 1), (3, 1, 1), (3, 2, 1), (9, 3, 1), (28, 4, 1), (29, 5, 1)]), (31, .struct 6 [(3, 0, 1), (3, 1, 1), (3, 2, 1), (9, 3, 1), (28, 4, 1), (29, 5, 1)]), (32, .arr 32 5 1), (33, .arr 32 5 1), (34, .struct 2 [(3, 0, 1), (3, 1, 1)]), (35, .struct 2 [(3, 0, 1), (3, 1, 1)]), (36, .struct 46 [(3, 0, 1), (9, 1, 1), (3, 2, 1), (3, 3, 1), (3, 4, 1), (31, 5, 6), (33, 11, 32), (4, 43, 1), (35, 44, 2)]), (37, .struct 46 [(3, 0, 1), (9, 1, 1), (3, 2, 1), (3, 3, 1), (3, 4, 1), (31, 5, 6), (33, 11, 32), (4, 43, 1), (35, 44, 2)]), (39, .slice 37 46), (41, .slice 45 4), (43, .slice 62 1), (44, .struct 4 [(3, 0, 1), (9, 1, 1), (4, 2, 1), (43, 3, 1)]), (45, .struct 4 [(3, 0, 1), (9, 1, 1), (4, 2, 1), (43, 3, 1)]), (48, .ptr 51), (49, .slice 54 4), (50, .struct 1 [(49, 0, 1)]), (51, .struct 1 [(49, 0, 1)]), (53, .struct 4 [(3, 0, 1), (9, 1, 1), (4, 2, 1), (28, 3, 1)]), (54, .struct 4 [(3, 0, 1), (9, 1, 1), (4, 2, 1), (28, 3, 1)]), (61, .struct 1 [(9, 0, 1)]), (62, .struct 1 [(9, 0, 1)]), (66, .map 75 4), (67, .int .u64), (68, .struct 3 [(41, 0, 1), (67, 1, 1), (66, 2, 1)]), (69, .struct 3 [(41, 0, 1), (67, 1, 1), (66, 2, 1)]), (72, .int .u64), (73, .ptr 45), (74, .struct 2 [(3, 0, 1), (9, 1, 1)]), (75, .struct 2 [(3, 0, 1), (9, 1, 1)]), (77, .ptr 54), (83, .struct 4 [(17, 0, 1), (17, 1, 1), (17, 2, 1), (9, 3, 1)]), (84, .struct 4 [(17, 0, 1), (17, 1, 1), (17, 2, 1), (9, 3, 1)]), (86, .struct 0 [(85, 0, 0)]), (87, .struct 0 [(85, 0, 0)]), (89, .int .u32), (90, .int .u8), (91, .int .u8), (93, .ptr 5), (94, .int .i32), (95, .int .i32), (96, .struct 11 [(12, 0, 1), (12, 1, 1), (89, 2, 1), (90, 3, 1), (5, 4, 1), (5, 5, 1), (91, 6, 1), (92, 7, 1), (93, 8, 1), (94, 9, 1), (95, 10, 1)]), (97, .struct 11 [(12, 0, 1), (12, 1, 1), (89, 2, 1), (90, 3, 1), (5, 4, 1), (5, 5, 1), (91, 6, 1), (92, 7, 1), (93, 8, 1), (94, 9, 1), (95, 10, 1)])]
theorem tyOk2 : (.int .i64 : TyD).ok Try.prog 2 := Try.underlying2
theorem tyOk3 : (.int .i64 : TyD).ok Try.prog 3 := Try.underlying3
theorem tyOk4 : (.bool : TyD).ok Try.prog 4 := Try.underlying4
theorem tyOk5 : (.int .u8 : TyD).ok Try.prog 5 := Try.underlying5
theorem tyOk6 : (.int .u8 : TyD).ok Try.prog 6 := Try.underlying6
theorem tyOk7 : (.struct 4 [(2, 0, 1), (3, 1, 1), (4, 2, 1), (6, 3, 1)] : TyD).ok Try.prog 7 := ⟨⟨_, Try.underlying7⟩, by kernel_rfl, by kernel_rfl⟩
theorem tyOk8 : (.struct 4 [(2, 0, 1), (3, 1, 1), (4, 2, 1), (6, 3, 1)] : TyD).ok Try.prog 8 := ⟨⟨_, Try.underlying8⟩, by kernel_rfl, by kernel_rfl⟩
theorem tyOk9 : (.str : TyD).ok Try.prog 9 := Try.underlying9
theorem tyOk10 : (.str : TyD).ok Try.prog 10 := Try.underlying10
theorem tyOk11 : (.str : TyD).ok Try.prog 11 := Try.underlying11
theorem tyOk12 : (.int .u64 : TyD).ok Try.prog 12 := Try.underlying12
theorem tyOk13 : (.struct 2 [(9, 0, 1), (12, 1, 1)] : TyD).ok Try.prog 13 := ⟨⟨_, Try.underlying13⟩, by kernel_rfl, by kernel_rfl⟩
theorem tyOk14 : (.struct 2 [(9, 0, 1), (12, 1, 1)] : TyD).ok Try.prog 14 := ⟨⟨_, Try.underlying14⟩, by kernel_rfl, by kernel_rfl⟩
theorem tyOk15 : (.ptr 84 : TyD).ok Try.prog 15 := Try.underlying15
theorem tyOk16 : (.ptr 87 : TyD).ok Try.prog 16 := Try.underlying16
theorem tyOk17 : (.ptr 97 : TyD).ok Try.prog 17 := Try.underlying17
theorem tyOk18 : (.struct 1 [(17, 0, 1)] : TyD).ok Try.prog 18 := ⟨⟨_, Try.underlying18⟩, by kernel_rfl, by kernel_rfl⟩
theorem tyOk19 : (.struct 1 [(17, 0, 1)] : TyD).ok Try.prog 19 := ⟨⟨_, Try.underlying19⟩, by kernel_rfl, by kernel_rfl⟩
theorem tyOk21 : (.int .i32 : TyD).ok Try.prog 21 := Try.underlying21
theorem tyOk23 : (.ptr 69 : TyD).ok Try.prog 23 := Try.underlying23
theorem tyOk25 : (.int .i64 : TyD).ok Try.prog 25 := Try.underlying25
theorem tyOk27 : (.slice 5 1 : TyD).ok Try.prog 27 := ⟨Try.underlying27, by kernel_rfl⟩
theorem tyOk28 : (.slice 9 1 : TyD).ok Try.prog 28 := ⟨Try.underlying28, by kernel_rfl⟩
theorem tyOk29 : (.slice 31 6 : TyD).ok Try.prog 29 := ⟨Try.underlying29, by kernel_rfl⟩
theorem tyOk30 : (.struct 6 [(3, 0, 1), (3, 1, 1), (3, 2, 1), (9, 3, 1), (28, 4, 1), (29, 5, 1)] : TyD).ok Try.prog 30 := ⟨⟨_, Try.underlying30⟩, by kernel_rfl, by kernel_rfl⟩
theorem tyOk31 : (.struct 6 [(3, 0, 1), (3, 1, 1), (3, 2, 1), (9, 3, 1), (28, 4, 1), (29, 5, 1)] : TyD).ok Try.prog 31 := ⟨⟨_, Try.underlying31⟩, by kernel_rfl, by kernel_rfl⟩
theorem tyOk32 : (.arr 32 5 1 : TyD).ok Try.prog 32 := ⟨Try.underlying32, by kernel_rfl, by kernel_rfl⟩
theorem tyOk33 : (.arr 32 5 1 : TyD).ok Try.prog 33 := ⟨Try.underlying33, by kernel_rfl, by kernel_rfl⟩
theorem tyOk34 : (.struct 2 [(3, 0, 1), (3, 1, 1)] : TyD).ok Try.prog 34 := ⟨⟨_, Try.underlying34⟩, by kernel_rfl, by kernel_rfl⟩
theorem tyOk35 : (.struct 2 [(3, 0, 1), (3, 1, 1)] : TyD).ok Try.prog 35 := ⟨⟨_, Try.underlying35⟩, by kernel_rfl, by kernel_rfl⟩
theorem tyOk36 : (.struct 46 [(3, 0, 1), (9, 1, 1), (3, 2, 1), (3, 3, 1), (3, 4, 1), (31, 5, 6), (33, 11, 32), (4, 43, 1), (35, 44, 2)] : TyD).ok Try.prog 36 := ⟨⟨_, Try.underlying36⟩, by kernel_rfl, by kernel_rfl⟩
theorem tyOk37 : (.struct 46 [(3, 0, 1), (9, 1, 1), (3, 2, 1), (3, 3, 1), (3, 4, 1), (31, 5, 6), (33, 11, 32), (4, 43, 1), (35, 44, 2)] : TyD).ok Try.prog 37 := ⟨⟨_, Try.underlying37⟩, by kernel_rfl, by kernel_rfl⟩
theorem tyOk39 : (.slice 37 46 : TyD).ok Try.prog 39 := ⟨Try.underlying39, by kernel_rfl⟩
theorem tyOk41 : (.slice 45 4 : TyD).ok Try.prog 41 := ⟨Try.underlying41, by kernel_rfl⟩
theorem tyOk43 : (.slice 62 1 : TyD).ok Try.prog 43 := ⟨Try.underlying43, by kernel_rfl⟩
theorem tyOk44 : (.struct 4 [(3, 0, 1), (9, 1, 1), (4, 2, 1), (43, 3, 1)] : TyD).ok Try.prog 44 := ⟨⟨_, Try.underlying44⟩, by kernel_rfl, by kernel_rfl⟩
theorem tyOk45 : (.struct 4 [(3, 0, 1), (9, 1, 1), (4, 2, 1), (43, 3, 1)] : TyD).ok Try.prog 45 := ⟨⟨_, Try.underlying45⟩, by kernel_rfl, by kernel_rfl⟩
theorem tyOk48 : (.ptr 51 : TyD).ok Try.prog 48 := Try.underlying48
theorem tyOk49 : (.slice 54 4 : TyD).ok Try.prog 49 := ⟨Try.underlying49, by kernel_rfl⟩
theorem tyOk50 : (.struct 1 [(49, 0, 1)] : TyD).ok Try.prog 50 := ⟨⟨_, Try.underlying50⟩, by kernel_rfl, by kernel_rfl⟩
theorem tyOk51 : (.struct 1 [(49, 0, 1)] : TyD).ok Try.prog 51 := ⟨⟨_, Try.underlying51⟩, by kernel_rfl, by kernel_rfl⟩
theorem tyOk53 : (.struct 4 [(3, 0, 1), (9, 1, 1), (4, 2, 1), (28, 3, 1)] : TyD).ok Try.prog 53 := ⟨⟨_, Try.underlying53⟩, by kernel_rfl, by kernel_rfl⟩
theorem tyOk54 : (.struct 4 [(3, 0, 1), (9, 1, 1), (4, 2, 1), (28, 3, 1)] : TyD).ok Try.prog 54 := ⟨⟨_, Try.underlying54⟩, by kernel_rfl, by kernel_rfl⟩
theorem tyOk61 : (.struct 1 [(9, 0, 1)] : TyD).ok Try.prog 61 := ⟨⟨_, Try.underlying61⟩, by kernel_rfl, by kernel_rfl⟩
theorem tyOk62 : (.struct 1 [(9, 0, 1)] : TyD).ok Try.prog 62 := ⟨⟨_, Try.underlying62⟩, by kernel_rfl, by kernel_rfl⟩
theorem tyOk66 : (.map 75 4 : TyD).ok Try.prog 66 := Try.underlying66
theorem tyOk67 : (.int .u64 : TyD).ok Try.prog 67 := Try.underlying67
theorem tyOk68 : (.struct 3 [(41, 0, 1), (67, 1, 1), (66, 2, 1)] : TyD).ok Try.prog 68 := ⟨⟨_, Try.underlying68⟩, by kernel_rfl, by kernel_rfl⟩
theorem tyOk69 : (.struct 3 [(41, 0, 1), (67, 1, 1), (66, 2, 1)] : TyD).ok Try.prog 69 := ⟨⟨_, Try.underlying69⟩, by kernel_rfl, by kernel_rfl⟩
theorem tyOk72 : (.int .u64 : TyD).ok Try.prog 72 := Try.underlying72
theorem tyOk73 : (.ptr 45 : TyD).ok Try.prog 73 := Try.underlying73
theorem tyOk74 : (.struct 2 [(3, 0, 1), (9, 1, 1)] : TyD).ok Try.prog 74 := ⟨⟨_, Try.underlying74⟩, by kernel_rfl, by kernel_rfl⟩
theorem tyOk75 : (.struct 2 [(3, 0, 1), (9, 1, 1)] : TyD).ok Try.prog 75 := ⟨⟨_, Try.underlying75⟩, by kernel_rfl, by kernel_rfl⟩
theorem tyOk77 : (.ptr 54 : TyD).ok Try.prog 77 := Try.underlying77
theorem tyOk83 : (.struct 4 [(17, 0, 1), (17, 1, 1), (17, 2, 1), (9, 3, 1)] : TyD).ok Try.prog 83 := ⟨⟨_, Try.underlying83⟩, by kernel_rfl, by kernel_rfl⟩
theorem tyOk84 : (.struct 4 [(17, 0, 1), (17, 1, 1), (17, 2, 1), (9, 3, 1)] : TyD).ok Try.prog 84 := ⟨⟨_, Try.underlying84⟩, by kernel_rfl, by kernel_rfl⟩
theorem tyOk86 : (.struct 0 [(85, 0, 0)] : TyD).ok Try.prog 86 := ⟨⟨_, Try.underlying86⟩, by kernel_rfl, by kernel_rfl⟩
theorem tyOk87 : (.struct 0 [(85, 0, 0)] : TyD).ok Try.prog 87 := ⟨⟨_, Try.underlying87⟩, by kernel_rfl, by kernel_rfl⟩
theorem tyOk89 : (.int .u32 : TyD).ok Try.prog 89 := Try.underlying89
theorem tyOk90 : (.int .u8 : TyD).ok Try.prog 90 := Try.underlying90
theorem tyOk91 : (.int .u8 : TyD).ok Try.prog 91 := Try.underlying91
theorem tyOk93 : (.ptr 5 : TyD).ok Try.prog 93 := Try.underlying93
theorem tyOk94 : (.int .i32 : TyD).ok Try.prog 94 := Try.underlying94
theorem tyOk95 : (.int .i32 : TyD).ok Try.prog 95 := Try.underlying95
theorem tyOk96 : (.struct 11 [(12, 0, 1), (12, 1, 1), (89, 2, 1), (90, 3, 1), (5, 4, 1), (5, 5, 1), (91, 6, 1), (92, 7, 1), (93, 8, 1), (94, 9, 1), (95, 10, 1)] : TyD).ok Try.prog 96 := ⟨⟨_, Try.underlying96⟩, by kernel_rfl, by kernel_rfl⟩
theorem tyOk97 : (.struct 11 [(12, 0, 1), (12, 1, 1), (89, 2, 1), (90, 3, 1), (5, 4, 1), (5, 5, 1), (91, 6, 1), (92, 7, 1), (93, 8, 1), (94, 9, 1), (95, 10, 1)] : TyD).ok Try.prog 97 := ⟨⟨_, Try.underlying97⟩, by kernel_rfl, by kernel_rfl⟩
theorem tyOk : TyOk Try.prog ty := ⟨tyOk2, tyOk3, tyOk4, tyOk5, tyOk6, tyOk7, tyOk8, tyOk9, tyOk10, tyOk11, tyOk12, tyOk13, tyOk14, tyOk15, tyOk16, tyOk17, tyOk18, tyOk19, tyOk21, tyOk23, tyOk25, tyOk27, tyOk28, tyOk29, tyOk30, tyOk31, tyOk32, tyOk33, tyOk34, tyOk35, tyOk36, tyOk37, tyOk39, tyOk41, tyOk43, tyOk44, tyOk45, tyOk48, tyOk49, tyOk50, tyOk51, tyOk53, tyOk54, tyOk61, tyOk62, tyOk66, tyOk67, tyOk68, tyOk69, tyOk72, tyOk73, tyOk74, tyOk75, tyOk77, tyOk83, tyOk84, tyOk86, tyOk87, tyOk89, tyOk90, tyOk91, tyOk93, tyOk94, tyOk95, tyOk96, tyOk97, trivial⟩
end K
end Go.Proofs.Ytdaljjicekheiaa
