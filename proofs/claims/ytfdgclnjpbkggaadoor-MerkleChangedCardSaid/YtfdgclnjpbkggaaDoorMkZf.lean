/- The reference's Up. -/
import Derived.Test.YtfdgclnjpbkggaaDoorMkZe
namespace Go.Proofs.YtfdgclnjpbkggaaDoor
open Go.RowKit Go.Maps

section
variable {P : Program} {ops : Array Oper} {Q : Exit → Act → World → Prop} {md : Region.Mode} {S : World → Prop} {n : Nat}
/-- One of two may come up. -/
theorem till_two {i j : Nat} {oi oj : Oper} {fuel : Nat} {listed : Array Bool} {a : Act} {w : World} (hr : Region.ready md ops listed = [i, j]) (hi : ops[i]? = some oi) (hj : ops[j]? = some oj)
    (h1 : ∀ K' : Act → World → Prop, (∀ a w, ((listed.setIfInBounds i true).getD n false = true ∨ S w) → wpTill P md ops Q S n fuel (listed.setIfInBounds i true) a w → K' a w) → if Region.wanted oi (yielded ops a.tmps) = true then Oper.wp P oi a w K' Q else K' (a.put oi.dst undef) w)
    (h2 : ∀ K' : Act → World → Prop, (∀ a w, ((listed.setIfInBounds j true).getD n false = true ∨ S w) → wpTill P md ops Q S n fuel (listed.setIfInBounds j true) a w → K' a w) → if Region.wanted oj (yielded ops a.tmps) = true then Oper.wp P oj a w K' Q else K' (a.put oj.dst undef) w) :
    wpTill P md ops Q S n (fuel + 1) listed a w :=
  ⟨(fun h0 => by rw [h0] at hr; cases hr), fun k hk => by
    rw [hr] at hk
    have one : ∀ (k : Nat) (ok : Oper), ops[k]? = some ok → (∀ K' : Act → World → Prop, (∀ a w, ((listed.setIfInBounds k true).getD n false = true ∨ S w) → wpTill P md ops Q S n fuel (listed.setIfInBounds k true) a w → K' a w) → if Region.wanted ok (yielded ops a.tmps) = true then Oper.wp P ok a w K' Q else K' (a.put ok.dst undef) w) →
        wpOp P ops Q k (fun a' w' => ((listed.setIfInBounds k true).getD n false = true ∨ S w') ∧ wpTill P md ops Q S n fuel (listed.setIfInBounds k true) a' w') a w := fun k ok hk h => by
      have := h (fun a' w' => ((listed.setIfInBounds k true).getD n false = true ∨ S w') ∧ wpTill P md ops Q S n fuel (listed.setIfInBounds k true) a' w') (fun a w h1 h2 => ⟨h1, h2⟩)
      unfold wpOp
      simp only [hk]
      by_cases hw : Region.wanted ok (yielded ops a.tmps) = true
      · rw [if_pos hw] at this ⊢; exact .inl this
      · rw [if_neg hw] at this ⊢; exact this
    simp only [List.mem_cons, List.not_mem_nil, or_false] at hk
    rcases hk with rfl | rfl
    · exact one _ _ hi h1
    · exact one _ _ hj h2⟩
end

namespace Mk

def upP (h : H) (i n : Nat) (p : List H) : H × Bool := up nodeP z32 h i n p
theorem up_one (h : H) (i : Nat) (p : List H) : upP h i 1 p = (h, p.length == 0) := by unfold upP; rw [up, dif_neg (by omega)]
theorem up_nil {h : H} {i n : Nat} (h2 : 2 ≤ n) : upP h i n [] = (Dig.Z32, false) := by unfold upP; rw [up, dif_pos h2, if_pos rfl]; rfl
theorem up_left {h : H} {i n : Nat} {q : List H} {x : H} (h2 : 2 ≤ n) (hi : i < half n) : upP h i n (q ++ [x]) = (nodeP (upP h i (half n) q).1 x, (upP h i (half n) q).2) := by
  unfold upP; rw [up, dif_pos h2, if_neg (by simp), if_pos hi, List.dropLast_concat, last_app]
theorem up_right {h : H} {i n : Nat} {q : List H} {x : H} (h2 : 2 ≤ n) (hi : ¬ i < half n) : upP h i n (q ++ [x]) = (nodeP x (upP h (i - half n) (n - half n) q).1, (upP h (i - half n) (n - half n) q).2) := by
  unfold upP; rw [up, dif_pos h2, if_neg (by simp), if_neg hi, List.dropLast_concat, last_app]

set_option maxHeartbeats 1000000 in
theorem refHalf_big (n : Nat) (w : World) (h1 : 2 ≤ n) (h2 : n ≤ 1099511627776) : Calls Tryd.prog 46 #[.int .i64 (n : Nat)] w fun e w' => e = .returned (.int .i64 (half n : Nat)) ∧ w = w' := by
  go_enter Tryd.func46, Tryd.ntmps46
  go_wp2_with fail
  go_loopw [3] (fun i wr => ∃ k j : Nat, i = .int .i64 (k : Nat) ∧ Hid2 (k = 2 ^ j) ∧ 1 ≤ k ∧ k < n ∧ wr = w) (fun i _ => n - (intOf i).toNat)
  case atStart => exact ⟨1, 0, rfl, Hid2.mk rfl, by omega, by omega, rfl⟩
  case round =>
    obtain ⟨k, j, rfl, Hk, hk1, hkn, rfl⟩ := hrel
    by_cases hl : k < n - k
    · have g1 : (k : Int) < n - k := by omega
      have hkk : Hid2 (2 * k = 2 ^ (j + 1)) := Hid2.mk (by rw [Hk.out, Nat.pow_succ, Nat.mul_comm])
      go_wp2_with fail
      go_roundw
      case rel => exact ⟨2 * k, j + 1, by go_num, hkk, by omega, by omega, trivial⟩
      case measure => simp [intOf]; omega
    · have g1 : (n : Int) - k ≤ k := by omega
      have Hh := Hid2.mk (show half n = k by
        have := half_eq (n := n) (j := j) (by rw [← Hk.out]; exact hkn) (by rw [Nat.pow_succ, ← Hk.out]; omega)
        rw [this, Hk.out])
      go_wp2_with fail
      go_ret
      rw [Hh.out]
      exact ⟨rfl, rfl⟩

/-- What Up promises. -/
def UpPost (w : World) (c : H × Bool) (e : Ending) (w' : World) : Prop := e = .returned (.tuple #[.agg (c.1.map (Value.int .u8)).toArray, .bool c.2]) ∧ c.1.length = 32 ∧ Below w.heap.size w w'
/-- Up, of sizes below one. -/
def UpIH (n : Nat) : Prop := ∀ k, k < n → ∀ {w : World} {O : Nat → Prop} {v : Value} {p : List H} {h : H} {i : Nat}, h.length = 32 → 1 ≤ k → k ≤ 1099511627776 → i < k → HS w O v p → Calls Tryd.prog 37 #[.agg (h.map (Value.int .u8)).toArray, .int .i64 (i : Nat), .int .i64 (k : Nat), v] w (UpPost w (upP h i k p))

set_option maxRecDepth 100000 in
set_option maxHeartbeats 4000000 in
theorem refUp_one {w : World} {O : Nat → Prop} {v : Value} {p : List H} {h : H} {i : Nat} (hlen : h.length = 32) (hs : HS w O v p) :
    Calls Tryd.prog 37 #[.agg (h.map (Value.int .u8)).toArray, .int .i64 (i : Nat), .int .i64 (1 : Nat), v] w (UpPost w (upP h i 1 p)) := by
  have hz := zeroHash
  obtain ⟨hb, hL, hR⟩ := two_new w h
  have HL := Hid2.mk hL
  have HR := Hid2.mk hR
  have HB := Hid2.mk hb
  obtain ⟨sp, cap, rfl, hc, hc'⟩ := hs.form
  rw [up_one]
  clear hs hb hL hR
  go_enter Tryd.func37, Tryd.ntmps37
  go_wp2_with (first
    | (refine wpList_load_row rfl 27 (.tmp 4) rfl w.heap.size rfl 27 (h.map (Value.int .u8)).toArray (0, 0) _ HL.out Tryd.underlying27 rfl (infoH h hlen) ?_)
    | (refine wpList_store_row rfl 27 (.tmp 8) (.tmp 18) rfl (w.heap.size + 1) (h.map (Value.int .u8)).toArray rfl rfl 27 (Dig.Z32.map (Value.int .u8)).toArray HR.out (infoH h hlen) (sizeH _ _ z32_len hlen) (oneH _) ?_))
  refine bodyPost_ret (results_cell_tmp rfl _ _ (w.heap.size + 1) 27 (h.map (Value.int .u8)).toArray (0, 0) _ (.bool ((p.length : Int) == 0)) rfl (setRow_heap _ _ _ _ _ _ HR.out) Tryd.underlying27 rfl (infoH h hlen) rfl) rfl ?_
  have e0 : ((p.length : Int) == 0) = (p.length == 0) := by rw [Bool.eq_iff_iff, beq_iff_eq, beq_iff_eq]; omega
  rw [e0]
  unfold UpPost
  exact ⟨rfl, hlen, below_setRow HB.out (by omega) _⟩

set_option maxRecDepth 100000 in
set_option maxHeartbeats 4000000 in
theorem refUp_nil {n : Nat} {w : World} {O : Nat → Prop} {v : Value} {h : H} {i : Nat} (h2 : 2 ≤ n) (hs : HS w O v []) :
    Calls Tryd.prog 37 #[.agg (h.map (Value.int .u8)).toArray, .int .i64 (i : Nat), .int .i64 (n : Nat), v] w (UpPost w (upP h i n [])) := by
  have hz := zeroHash
  obtain ⟨hb, hL, hR⟩ := two_new w h
  have HR := Hid2.mk hR
  have HB := Hid2.mk hb
  have hn2 : ((n : Int) == 1) = false := beq_eq_false_iff_ne.2 (by omega)
  obtain ⟨sp, cap, rfl, hc, hc'⟩ := hs.form
  clear hs hb hL hR
  have Hp := Hid2.mk (up_nil (h := h) (i := i) h2)
  simp only [List.length_nil]
  go_enter Tryd.func37, Tryd.ntmps37
  go_wp2_with (first | (refine wpList_build_to rfl 27 #[] rfl (Dig.Z32.map (Value.int .u8)).toArray builtHash ?_) | (refine wpList_store_row rfl 27 (.tmp 8) (.tmp 25) rfl (w.heap.size + 1) (Dig.Z32.map (Value.int .u8)).toArray rfl rfl 27 (Dig.Z32.map (Value.int .u8)).toArray HR.out (infoH _ z32_len) rfl (oneH _) ?_))
  refine bodyPost_ret (results_cell_tmp rfl _ _ (w.heap.size + 1) 27 (Dig.Z32.map (Value.int .u8)).toArray (0, 0) _ (.bool false) rfl (setRow_heap _ _ _ _ _ _ HR.out) Tryd.underlying27 rfl (infoH _ z32_len) rfl) rfl ?_
  unfold UpPost
  rw [Hp.out]
  exact ⟨rfl, z32_len, below_setRow HB.out (by omega) _⟩

end Mk
end Go.Proofs.YtfdgclnjpbkggaaDoor
