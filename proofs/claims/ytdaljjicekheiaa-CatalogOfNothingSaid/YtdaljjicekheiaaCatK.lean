/- Chapter 14: what is answered of nothing. -/
import Derived.Test.YtdaljjicekheiaaCatJ
namespace Go.Proofs.Ytdaljjicekheiaa
open Go.RowKit Go.Maps
namespace Cat

theorem all_nil (w : World) : Calls Try.prog 11 #[.pointer none] w fun e w' => e = .returned (.slice none 0 0) ∧ w = w' := by
  go_enter Try.func11, Try.ntmps11
  go_wp2_with fail
  go_ret
  exact ⟨rfl, rfl⟩
theorem copy_nil (w : World) : Calls Try.prog 20 #[.pointer none] w fun e w' => e = .returned (.pointer none) ∧ w = w' := by
  go_enter Try.func20, Try.ntmps20
  go_wp2_with fail
  go_ret
  exact ⟨rfl, rfl⟩

def zTb : Value := .agg #[.int .i64 0, .string ByteArray.empty, .bool false, .slice none 0 0]
set_option maxRecDepth 100000 in
set_option maxHeartbeats 1000000 in
theorem tables_zero (w : World) : Calls Try.prog 17 #[.agg #[.int .i64 0, .string ByteArray.empty, .bool false, .slice none 0 0], .agg #[.int .i64 0, .string ByteArray.empty, .bool false, .slice none 0 0]] w fun e w' => e = .returned (.bool true) ∧ Below w.heap.size w w' := by
  have hb : Below w.heap.size w ((w.alloc (.cells #[.int .i64 0, .string ByteArray.empty, .bool false, .slice none 0 0] 45)).alloc (.cells #[.int .i64 0, .string ByteArray.empty, .bool false, .slice none 0 0] 54)) := ((Below.refl _ _).alloc (Nat.le_refl _) _).alloc (by simp) _
  have HB := Hid2.mk hb
  have hl : decide ((0 : Int) < 0) = false := by decide
  clear hb
  go_enter Try.func17, Try.ntmps17
  go_wp2_with fail
  go_loopw [5] (fun i wr => i = .int .i64 0 ∧ wr = ((w.alloc (.cells #[.int .i64 0, .string ByteArray.empty, .bool false, .slice none 0 0] 45)).alloc (.cells #[.int .i64 0, .string ByteArray.empty, .bool false, .slice none 0 0] 54))) (fun _ _ => 0)
  case atStart => exact ⟨rfl, rfl⟩
  case round =>
    obtain ⟨rfl, rfl⟩ := hrel
    go_wp2_with fail
    go_ret
    exact ⟨rfl, HB.out⟩

end Cat
end Go.Proofs.Ytdaljjicekheiaa
