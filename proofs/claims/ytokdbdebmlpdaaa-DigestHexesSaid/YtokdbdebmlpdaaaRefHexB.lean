/- digest: digits of a digest, in the reference. -/
import Derived.Test.YtokdbdebmlpdaaaRefHex
namespace Go.Proofs.Ytokdbdebmlpdaaa
open Go.RowKit
namespace Dig

/-- The sixteen signs. -/
def signs : ByteArray := ⟨#[48, 49, 50, 51, 52, 53, 54, 55, 56, 57, 97, 98, 99, 100, 101, 102]⟩
theorem strOfNums_append (a b : List Int) : strOfNums (a ++ b) = strOfNums a ++ strOfNums b := by
  apply ByteArray.ext
  rw [ByteArray.data_append]
  simp [strOfNums]
theorem sign_at (n : Nat) (h : n ≤ 15) : signs.extract n (n + 1) = strOfNums [dig (n : Int)] := by
  have key : ∀ n : Fin 16, (signs.extract n.val (n.val + 1)).data = (strOfNums [dig (n.val : Int)]).data := by decide +kernel
  exact ByteArray.ext (key ⟨n, by omega⟩)
theorem hexN_two (l : List Int) (k : Nat) : hexN l (2 * (k + 1)) = hexN l (2 * k) ++ [dig (nth l k / 16)] ++ [dig (nth l k % 16)] := by
  rw [show 2 * (k + 1) = 2 * k + 1 + 1 by omega, hexN, hexN, show 2 * k / 2 = k by omega, show 2 * k % 2 = 0 by omega, show (2 * k + 1) / 2 = k by omega, show (2 * k + 1) % 2 = 1 by omega]
  rfl

theorem sign_slice (x : Int) (h0 : 0 ≤ x) (h1 : x ≤ 15) (W : World) :
    (Instr.slice 9 (.string { data := #[48, 49, 50, 51, 52, 53, 54, 55, 56, 57, 97, 98, 99, 100, 101, 102] }) (some (.int .u8 x)) (some (.int .u8 (x + 1))) none).run Try.prog W = .ok (.string (strOfNums [dig x])) W := by
  have := run_slice_string (P := Try.prog) W 9 signs .u8 .u8 x (x + 1) Try.underlying9 h0 (by omega) (by show x + 1 ≤ ((16 : Nat) : Int); omega)
  have e := sign_at x.toNat (by omega)
  rw [show ((x.toNat : Nat) : Int) = x by omega] at e
  rw [show (x + 1).toNat = x.toNat + 1 by omega, e] at this
  exact this
theorem str_add (a b : List Int) (ha : a.length ≤ 100) (hb : b.length ≤ 100) (W : World) :
    (Op.stringOp .add (strOfNums a) (strOfNums b)).run Try.prog W = .ok (.string (strOfNums (a ++ b))) W := by
  rw [run_string_add W _ _ (by rw [strOfNums_size]; omega) (by rw [strOfNums_size]; omega), strOfNums_append]

set_option maxRecDepth 100000 in
set_option maxHeartbeats 1000000 in
theorem refHex_any (l : List Int) (w : World) (hl : l.length = 32) (hr : ∀ i, i < 32 → 0 ≤ nth l i ∧ nth l i ≤ 255) :
    Calls Try.prog 20 #[.agg (l.map (Value.int .u8)).toArray] w fun e w' => e = .returned (.string (strOfNums (hexN l 64))) ∧ Below w.heap.size w w' := by
  have hB0 : IBlk .u8 25 (w.alloc (.cells (l.map (Value.int .u8)).toArray 25)) w.heap.size l := VBlk.mk w (l.map (Value.int .u8)) 25
  have hbel0 : Below w.heap.size w (w.alloc (.cells (l.map (Value.int .u8)).toArray 25)) := (Below.refl _ w).alloc (Nat.le_refl _) _
  have HB0 := Hid2.mk hB0
  have Hbel := Hid2.mk hbel0
  have Hl := Hid2.mk hl
  clear hB0 hl hbel0
  go_enter Try.func20, Try.ntmps20
  go_wp2_with fail
  generalize w.alloc _ = w1 at HB0 Hbel ⊢
  go_loopw [3, 4] (fun t i wr => ∃ k h, k ≤ 32 ∧ i = .int .i64 (k : Nat) ∧ t = .string (strOfNums h) ∧ Hid2 (h = hexN l (2 * k)) ∧ ∃ n, wr = w1.drewN n)
    (fun _ i _ => 32 - (intOf i).toNat)
  case atStart => exact ⟨0, [], by omega, rfl, rfl, Hid2.mk rfl, 0, rfl⟩
  case round =>
    obtain ⟨k, h, hk, rfl, rfl, Hh, nn, rfl⟩ := hrel
    by_cases h32 : k < 32
    · have hki : (k : Int) < 32 := by omega
      have hc := HB0.out.cell k (by rw [Hl.out]; exact h32)
      obtain ⟨x0, x1⟩ := hr k h32
      obtain ⟨x, hx⟩ : ∃ x, x = nth l k := ⟨_, rfl⟩
      rw [← hx] at hc x0 x1
      have Hx := Hid2.mk hx
      clear hx
      have hw1 : IntKind.u8.wrap (x.tdiv 16) = x / 16 := by rw [IntKind.wrap_u8, Int.tdiv_eq_ediv_of_nonneg (by omega)]; omega
      have hw2 : IntKind.u8.wrap (x.tmod 16) = x % 16 := by rw [IntKind.wrap_u8, Int.tmod_eq_emod_of_nonneg (by omega)]; omega
      have hw3 : IntKind.u8.wrap (x / 16 + 1) = x / 16 + 1 := by rw [IntKind.wrap_u8]; omega
      have hw4 : IntKind.u8.wrap (x % 16 + 1) = x % 16 + 1 := by rw [IntKind.wrap_u8]; omega
      have hsl1 := sign_slice (x / 16) (by omega) (by omega)
      have hsl2 := sign_slice (x % 16) (by omega) (by omega)
      have hle : h.length ≤ 64 := by rw [Hh.out, hexN_length]; omega
      have had1 := str_add h [dig (x / 16)] (by omega) (by simp)
      have had2 := str_add (h ++ [dig (x / 16)]) [dig (x % 16)] (by simp; omega) (by simp)
      have hfin : h ++ [dig (x / 16)] ++ [dig (x % 16)] = hexN l (2 * (k + 1)) := by
        rw [hexN_two, ← Hh.out, ← Hx.out]
      have Hfin := Hid2.mk hfin
      clear hfin
      go_wp2_with fail
      go_quiet (fail)
      go_wp2_with fail
      go_roundw
      case rel => exact ⟨k + 1, _, by omega, by go_num, rfl, Hid2.mk (by simpa using Hfin.out), _, by first | rfl | exact World.drewN_drewN _ _ _⟩
      case measure => simp [intOf]; omega
    · have hd : decide ((k : Int) < 32) = false := decide_eq_false (by omega)
      have hfin : h = hexN l 64 := by rw [Hh.out, show k = 32 by omega]
      have Hfin := Hid2.mk hfin
      clear hfin
      go_wp2_with fail
      go_ret
      exact ⟨by rw [Hfin.out]; rfl, ((Keep.of_below Hbel.out).drewN nn).below⟩

end Dig
end Go.Proofs.Ytokdbdebmlpdaaa
