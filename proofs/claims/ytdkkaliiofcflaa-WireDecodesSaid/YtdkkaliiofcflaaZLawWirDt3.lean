/- Texts for LawWirDt, part 3 of 6. -/
import Derived.Test.YtdkkaliiofcflaaZLawWirDt2
import Derived.Laws.CopyRow
namespace Go.Proofs.Ytdkkaliiofcflaa
open Go.RowKit
namespace K
open Vl (formC formB_eq okN fields_iff)

theorem chk_bad {m : Nat} {v : V} {x : Int} (h : shp v = x) (h0 : ¬ x = 0) : chk (m + 1) v = x := by
  unfold chk; rw [if_neg (by rw [h]; exact h0)]; exact h
theorem shp_form3 {v : V} (h : formB v = false) : shp v = 3 := by unfold shp; rw [if_pos h]
theorem text_ne (v : V) : (!(v.t.toList == (ByteArray.mk #[]).toList)) = !noTextB v := by
  have h0 : (ByteArray.mk #[]).toList = [] := by decide +kernel
  have hl : v.t.toList.length = v.t.size := by rw [ByteArray.toList_eq]; rfl
  rw [h0]; unfold noTextB; cases h : v.t.toList with
  | nil => rw [h] at hl; simp at hl; simp [← hl]
  | cons a r => rw [h] at hl; simp at hl; simp [← hl]
theorem ret_i64 {x y : Int} (h : x = y) : Ending.returned (.int .i64 x) = .returned (.int .i64 y) := by rw [h]


set_option maxRecDepth 100000 in
set_option maxHeartbeats 16000000 in
theorem rchk_k1 {f : Nat} {w : World} {v : V} {cs : List Value} {m : Nat} {d : Int} (hv : IsV (f + 1) w v cs) (q : v.k = 1) (_hd1 : d ≤ 16) (_hd0 : 0 ≤ d) :
    Calls Try.prog 79 #[.agg cs.toArray, .int .i64 d] w fun e w' => e = .returned (.int .i64 (chk (m + 1) v)) ∧ Below w.heap.size w w' := by
  obtain ⟨sn, sk, rfl, -, hn64, -, htz, ⟨np, nc, rfl, nl, nc2, nsz, nr⟩, ⟨sp, cap, rfl, hcap1, hcap2, hrow⟩⟩ := hv; have hn : -9223372036854775808 ≤ v.n ∧ v.n ≤ 9223372036854775807 := by simp [Lit.wf, IntKind.min, IntKind.max, IntKind.bits, IntKind.signed] at hn64; omega
  clear hn64; refine enter (args := [.agg (six v (.slice np v.names.length nc) (.slice sp v.kids.length cap)).toArray, .int .i64 d]) Try.func79 rfl Try.ntmps79 rfl ?_; refine K.kgo ?_; refine WL.box rfl rfl rfl rfl rfl fun g w1 hf => ?_; have hR : VBlk 60 w1 g (six v (.slice np v.names.length nc) (.slice sp v.kids.length cap)) := hf.blk; have hbel : Below w.heap.size w w1 := hf.below; have c0 : w1.cell? ⟨g, 0, none⟩ = some (.int .i64 v.k) := hR.cell 0 (by simp); have c1 : w1.cell? ⟨g, 1, none⟩ = some (.int .i64 v.n) := hR.cell 1 (by simp); have c2 : w1.cell? ⟨g, 2, none⟩ = some (.int .i64 v.s) := hR.cell 2 (by simp); have c3 : w1.cell? ⟨g, 3, none⟩ = some (.string v.t) := hR.cell 3 (by simp); have c4 : w1.cell? ⟨g, 4, none⟩ = some (.slice np v.names.length nc) := hR.cell 4 (by simp); have c5 : w1.cell? ⟨g, 5, none⟩ = some (.slice sp v.kids.length cap) := hR.cell 5 (by simp); clear hf; have hfc := formB_eq v; have hB : bareB v = (decide (v.n = 0) && decide (v.s = 0)) := rfl; have hP : plainB v = (decide (v.names.length = 0) && decide (v.kids.length = 0)) := rfl; have hE := text_ne v; have bad3 : formB v = false → Ending.returned (.int .i64 3) = .returned (.int .i64 (chk (m + 1) v)) ∧ Below w.heap.size w w1 := fun h => ⟨ret_i64 (chk_bad (shp_form3 h) (by decide)).symm, hbel⟩; refine K.kgb ?_; refine WL.as 5 (.bool (!noTextB v)) rfl (congrArg Value.bool hE) ?_; refine WL.mid (fun _ : Unit => [(1, .int .i64 d), (2, .pointer (some ⟨g, 0, none⟩)), (5, .bool (!noTextB v)), (6, .bool (!plainB v))]) (fun _ w' => w1 = w') rfl ?_ ?_
  · by_cases hK : v.kids.length = 0
    · have hK0 : ¬ (0 : Int) < v.kids.length := by omega
      refine WL.as 19 (.bool false) rfl (congrArg Value.bool (decide_eq_false hK0)) ?_
      by_cases hN : v.names.length = 0
      · refine K.kgl ?_
        exact WQ.meet () ⟨rfl, rfl, rfl, congrArg (fun b => some (Value.bool b)) (by rw [hP]; simp [hN, hK]), trivial⟩ rfl
      · refine K.kgl ?_
        exact WQ.meet () ⟨rfl, rfl, rfl, congrArg (fun b => some (Value.bool b)) (by rw [hP]; simp [hN]), trivial⟩ rfl
    · have hK0 : (0 : Int) < v.kids.length := by omega
      refine WL.as 19 (.bool true) rfl (congrArg Value.bool (decide_eq_true hK0)) ?_; refine K.kgl ?_; exact WQ.meet () ⟨rfl, rfl, rfl, congrArg (fun b => some (Value.bool b)) (by rw [hP]; simp [hK]), trivial⟩ rfl
  rintro _ _ rfl; have shp5 : formB v = true → (16384 < v.t.size ∨ 200 < v.kids.length) → shp v = 5 := fun h1 h2 => by unfold shp; rw [if_neg (by rw [h1]; exact Bool.noConfusion), if_pos h2]
  have shp0 : formB v = true → v.t.size ≤ 16384 → v.kids.length ≤ 200 → (v.k = 9 → fieldsB v = true) → shp v = 0 := fun h1 h2 h3 h4 => by
    unfold shp; rw [if_neg (by rw [h1]; exact Bool.noConfusion), if_neg (by omega), if_neg (fun h => by have := h4 h.1; rw [this] at h; exact Bool.noConfusion h.2)]
  have hEt : noTextB v = true → v.t.size = 0 := fun h => of_decide_eq_true h; have hPk : plainB v = true → v.kids.length = 0 := fun h => by rw [hP] at h; rw [Bool.and_eq_true] at h; exact of_decide_eq_true h.2
  have chk0 : shp v = 0 → v.kids.length = 0 → chk (m + 1) v = 0 := fun h1 h2 => by
    unfold chk; rw [if_pos h1, List.eq_nil_of_length_eq_zero h2]
    rfl
  clear hE hP

  by_cases a1 : v.n = 0
  · skip
    by_cases a2 : v.s = 0
    · skip
      cases hE1 : noTextB v with
      | false =>
        rw [hE1] at hfc; refine K.kgl ?_; exact WQ.ret1 rfl rfl (bad3 (by rw [hfc]; simp [formC, *]))
      | true =>
        rw [hE1] at hfc; cases hP1 : plainB v with
        | false =>
          rw [hP1] at hfc; refine K.kgl ?_; exact WQ.ret1 rfl rfl (bad3 (by rw [hfc]; simp [formC, *]))
        | true =>
          rw [hP1] at hfc; have h0 : shp v = 0 := shp0 (by rw [hfc]; simp [formC, *]) (by have := hEt hE1; omega) (by have := hPk hP1; omega) (fun h => by omega); have hk0 : v.kids.length = 0 := hPk hP1; refine K.kgl ?_; refine WC.loop (fun _ : Unit => [(1, .int .i64 d), (2, .pointer (some ⟨g, 0, none⟩)), (8, .int .i64 0)]) (fun _ w' => w1 = w') (fun _ => 0) () ⟨rfl, rfl, rfl, trivial⟩ rfl ?_; rintro _ _ rfl; refine K.kgl ?_; exact WQ.ret1 rfl rfl ⟨ret_i64 (chk0 h0 hk0).symm, hbel⟩
    · skip
      refine K.kgl ?_; exact WQ.ret1 rfl rfl (bad3 (by rw [hfc]; simp [formC, *]))
  · skip
    refine K.kgl ?_; exact WQ.ret1 rfl rfl (bad3 (by rw [hfc]; simp [formC, *]))

set_option maxRecDepth 100000 in
set_option maxHeartbeats 16000000 in
theorem rchk_k2 {f : Nat} {w : World} {v : V} {cs : List Value} {m : Nat} {d : Int} (hv : IsV (f + 1) w v cs) (q : v.k = 2) (_hd1 : d ≤ 16) (_hd0 : 0 ≤ d) :
    Calls Try.prog 79 #[.agg cs.toArray, .int .i64 d] w fun e w' => e = .returned (.int .i64 (chk (m + 1) v)) ∧ Below w.heap.size w w' := by
  obtain ⟨sn, sk, rfl, -, hn64, -, htz, ⟨np, nc, rfl, nl, nc2, nsz, nr⟩, ⟨sp, cap, rfl, hcap1, hcap2, hrow⟩⟩ := hv; have hn : -9223372036854775808 ≤ v.n ∧ v.n ≤ 9223372036854775807 := by simp [Lit.wf, IntKind.min, IntKind.max, IntKind.bits, IntKind.signed] at hn64; omega
  clear hn64; refine enter (args := [.agg (six v (.slice np v.names.length nc) (.slice sp v.kids.length cap)).toArray, .int .i64 d]) Try.func79 rfl Try.ntmps79 rfl ?_; refine K.kgo ?_; refine WL.box rfl rfl rfl rfl rfl fun g w1 hf => ?_; have hR : VBlk 60 w1 g (six v (.slice np v.names.length nc) (.slice sp v.kids.length cap)) := hf.blk; have hbel : Below w.heap.size w w1 := hf.below; have c0 : w1.cell? ⟨g, 0, none⟩ = some (.int .i64 v.k) := hR.cell 0 (by simp); have c1 : w1.cell? ⟨g, 1, none⟩ = some (.int .i64 v.n) := hR.cell 1 (by simp); have c2 : w1.cell? ⟨g, 2, none⟩ = some (.int .i64 v.s) := hR.cell 2 (by simp); have c3 : w1.cell? ⟨g, 3, none⟩ = some (.string v.t) := hR.cell 3 (by simp); have c4 : w1.cell? ⟨g, 4, none⟩ = some (.slice np v.names.length nc) := hR.cell 4 (by simp); have c5 : w1.cell? ⟨g, 5, none⟩ = some (.slice sp v.kids.length cap) := hR.cell 5 (by simp); clear hf; have hfc := formB_eq v; have hB : bareB v = (decide (v.n = 0) && decide (v.s = 0)) := rfl; have hP : plainB v = (decide (v.names.length = 0) && decide (v.kids.length = 0)) := rfl; have hE := text_ne v; have bad3 : formB v = false → Ending.returned (.int .i64 3) = .returned (.int .i64 (chk (m + 1) v)) ∧ Below w.heap.size w w1 := fun h => ⟨ret_i64 (chk_bad (shp_form3 h) (by decide)).symm, hbel⟩; refine K.kgb ?_; refine WL.as 5 (.bool (!noTextB v)) rfl (congrArg Value.bool hE) ?_; refine WL.mid (fun _ : Unit => [(1, .int .i64 d), (2, .pointer (some ⟨g, 0, none⟩)), (5, .bool (!noTextB v)), (6, .bool (!plainB v))]) (fun _ w' => w1 = w') rfl ?_ ?_
  · by_cases hK : v.kids.length = 0
    · have hK0 : ¬ (0 : Int) < v.kids.length := by omega
      refine WL.as 19 (.bool false) rfl (congrArg Value.bool (decide_eq_false hK0)) ?_
      by_cases hN : v.names.length = 0
      · refine K.kgl ?_
        exact WQ.meet () ⟨rfl, rfl, rfl, congrArg (fun b => some (Value.bool b)) (by rw [hP]; simp [hN, hK]), trivial⟩ rfl
      · refine K.kgl ?_
        exact WQ.meet () ⟨rfl, rfl, rfl, congrArg (fun b => some (Value.bool b)) (by rw [hP]; simp [hN]), trivial⟩ rfl
    · have hK0 : (0 : Int) < v.kids.length := by omega
      refine WL.as 19 (.bool true) rfl (congrArg Value.bool (decide_eq_true hK0)) ?_; refine K.kgl ?_; exact WQ.meet () ⟨rfl, rfl, rfl, congrArg (fun b => some (Value.bool b)) (by rw [hP]; simp [hK]), trivial⟩ rfl
  rintro _ _ rfl; have shp5 : formB v = true → (16384 < v.t.size ∨ 200 < v.kids.length) → shp v = 5 := fun h1 h2 => by unfold shp; rw [if_neg (by rw [h1]; exact Bool.noConfusion), if_pos h2]
  have shp0 : formB v = true → v.t.size ≤ 16384 → v.kids.length ≤ 200 → (v.k = 9 → fieldsB v = true) → shp v = 0 := fun h1 h2 h3 h4 => by
    unfold shp; rw [if_neg (by rw [h1]; exact Bool.noConfusion), if_neg (by omega), if_neg (fun h => by have := h4 h.1; rw [this] at h; exact Bool.noConfusion h.2)]
  have hEt : noTextB v = true → v.t.size = 0 := fun h => of_decide_eq_true h; have hPk : plainB v = true → v.kids.length = 0 := fun h => by rw [hP] at h; rw [Bool.and_eq_true] at h; exact of_decide_eq_true h.2
  have chk0 : shp v = 0 → v.kids.length = 0 → chk (m + 1) v = 0 := fun h1 h2 => by
    unfold chk; rw [if_pos h1, List.eq_nil_of_length_eq_zero h2]
    rfl
  clear hE hP

  by_cases a1 : 0 ≤ v.n
  · skip
    by_cases a2 : v.n ≤ 1
    · skip
      have x2 : v.n / 2 = 0 := by omega
      by_cases a4 : v.s = 0
      · skip
        cases hE1 : noTextB v with
        | false =>
          rw [hE1] at hfc; refine K.kgl ?_; exact WQ.ret1 rfl rfl (bad3 (by rw [hfc]; simp [formC, *]))
        | true =>
          rw [hE1] at hfc; cases hP1 : plainB v with
          | false =>
            rw [hP1] at hfc; refine K.kgl ?_; exact WQ.ret1 rfl rfl (bad3 (by rw [hfc]; simp [formC, *]))
          | true =>
            rw [hP1] at hfc; have h0 : shp v = 0 := shp0 (by rw [hfc]; simp [formC, *]) (by have := hEt hE1; omega) (by have := hPk hP1; omega) (fun h => by omega); have hk0 : v.kids.length = 0 := hPk hP1; refine K.kgl ?_; refine WC.loop (fun _ : Unit => [(1, .int .i64 d), (2, .pointer (some ⟨g, 0, none⟩)), (8, .int .i64 0)]) (fun _ w' => w1 = w') (fun _ => 0) () ⟨rfl, rfl, rfl, trivial⟩ rfl ?_; rintro _ _ rfl; refine K.kgl ?_; exact WQ.ret1 rfl rfl ⟨ret_i64 (chk0 h0 hk0).symm, hbel⟩
      · skip
        refine K.kgl ?_; exact WQ.ret1 rfl rfl (bad3 (by rw [hfc]; simp [formC, *]))
    · skip
      have x2 : ¬ v.n / 2 = 0 := by omega
      refine K.kgl ?_; exact WQ.ret1 rfl rfl (bad3 (by rw [hfc]; simp [formC, *]))
  · skip
    have x2 : ¬ v.n / 2 = 0 := by omega
    refine K.kgl ?_; exact WQ.ret1 rfl rfl (bad3 (by rw [hfc]; simp [formC, *]))

set_option maxRecDepth 100000 in
set_option maxHeartbeats 16000000 in
theorem rchk_k3 {f : Nat} {w : World} {v : V} {cs : List Value} {m : Nat} {d : Int} (hv : IsV (f + 1) w v cs) (q : v.k = 3) (_hd1 : d ≤ 16) (_hd0 : 0 ≤ d) :
    Calls Try.prog 79 #[.agg cs.toArray, .int .i64 d] w fun e w' => e = .returned (.int .i64 (chk (m + 1) v)) ∧ Below w.heap.size w w' := by
  obtain ⟨sn, sk, rfl, -, hn64, -, htz, ⟨np, nc, rfl, nl, nc2, nsz, nr⟩, ⟨sp, cap, rfl, hcap1, hcap2, hrow⟩⟩ := hv; have hn : -9223372036854775808 ≤ v.n ∧ v.n ≤ 9223372036854775807 := by simp [Lit.wf, IntKind.min, IntKind.max, IntKind.bits, IntKind.signed] at hn64; omega
  clear hn64; refine enter (args := [.agg (six v (.slice np v.names.length nc) (.slice sp v.kids.length cap)).toArray, .int .i64 d]) Try.func79 rfl Try.ntmps79 rfl ?_; refine K.kgo ?_; refine WL.box rfl rfl rfl rfl rfl fun g w1 hf => ?_; have hR : VBlk 60 w1 g (six v (.slice np v.names.length nc) (.slice sp v.kids.length cap)) := hf.blk; have hbel : Below w.heap.size w w1 := hf.below; have c0 : w1.cell? ⟨g, 0, none⟩ = some (.int .i64 v.k) := hR.cell 0 (by simp); have c1 : w1.cell? ⟨g, 1, none⟩ = some (.int .i64 v.n) := hR.cell 1 (by simp); have c2 : w1.cell? ⟨g, 2, none⟩ = some (.int .i64 v.s) := hR.cell 2 (by simp); have c3 : w1.cell? ⟨g, 3, none⟩ = some (.string v.t) := hR.cell 3 (by simp); have c4 : w1.cell? ⟨g, 4, none⟩ = some (.slice np v.names.length nc) := hR.cell 4 (by simp); have c5 : w1.cell? ⟨g, 5, none⟩ = some (.slice sp v.kids.length cap) := hR.cell 5 (by simp); clear hf; have hfc := formB_eq v; have hB : bareB v = (decide (v.n = 0) && decide (v.s = 0)) := rfl; have hP : plainB v = (decide (v.names.length = 0) && decide (v.kids.length = 0)) := rfl; have hE := text_ne v; have bad3 : formB v = false → Ending.returned (.int .i64 3) = .returned (.int .i64 (chk (m + 1) v)) ∧ Below w.heap.size w w1 := fun h => ⟨ret_i64 (chk_bad (shp_form3 h) (by decide)).symm, hbel⟩; refine K.kgb ?_; refine WL.as 5 (.bool (!noTextB v)) rfl (congrArg Value.bool hE) ?_; refine WL.mid (fun _ : Unit => [(1, .int .i64 d), (2, .pointer (some ⟨g, 0, none⟩)), (5, .bool (!noTextB v)), (6, .bool (!plainB v))]) (fun _ w' => w1 = w') rfl ?_ ?_
  · by_cases hK : v.kids.length = 0
    · have hK0 : ¬ (0 : Int) < v.kids.length := by omega
      refine WL.as 19 (.bool false) rfl (congrArg Value.bool (decide_eq_false hK0)) ?_
      by_cases hN : v.names.length = 0
      · refine K.kgl ?_
        exact WQ.meet () ⟨rfl, rfl, rfl, congrArg (fun b => some (Value.bool b)) (by rw [hP]; simp [hN, hK]), trivial⟩ rfl
      · refine K.kgl ?_
        exact WQ.meet () ⟨rfl, rfl, rfl, congrArg (fun b => some (Value.bool b)) (by rw [hP]; simp [hN]), trivial⟩ rfl
    · have hK0 : (0 : Int) < v.kids.length := by omega
      refine WL.as 19 (.bool true) rfl (congrArg Value.bool (decide_eq_true hK0)) ?_; refine K.kgl ?_; exact WQ.meet () ⟨rfl, rfl, rfl, congrArg (fun b => some (Value.bool b)) (by rw [hP]; simp [hK]), trivial⟩ rfl
  rintro _ _ rfl; have shp5 : formB v = true → (16384 < v.t.size ∨ 200 < v.kids.length) → shp v = 5 := fun h1 h2 => by unfold shp; rw [if_neg (by rw [h1]; exact Bool.noConfusion), if_pos h2]
  have shp0 : formB v = true → v.t.size ≤ 16384 → v.kids.length ≤ 200 → (v.k = 9 → fieldsB v = true) → shp v = 0 := fun h1 h2 h3 h4 => by
    unfold shp; rw [if_neg (by rw [h1]; exact Bool.noConfusion), if_neg (by omega), if_neg (fun h => by have := h4 h.1; rw [this] at h; exact Bool.noConfusion h.2)]
  have hEt : noTextB v = true → v.t.size = 0 := fun h => of_decide_eq_true h; have hPk : plainB v = true → v.kids.length = 0 := fun h => by rw [hP] at h; rw [Bool.and_eq_true] at h; exact of_decide_eq_true h.2
  have chk0 : shp v = 0 → v.kids.length = 0 → chk (m + 1) v = 0 := fun h1 h2 => by
    unfold chk; rw [if_pos h1, List.eq_nil_of_length_eq_zero h2]
    rfl
  clear hE hP

  by_cases a1 : v.s = 0
  · skip
    cases hE1 : noTextB v with
    | false =>
      rw [hE1] at hfc; refine K.kgl ?_; exact WQ.ret1 rfl rfl (bad3 (by rw [hfc]; simp [formC, *]))
    | true =>
      rw [hE1] at hfc; cases hP1 : plainB v with
      | false =>
        rw [hP1] at hfc; refine K.kgl ?_; exact WQ.ret1 rfl rfl (bad3 (by rw [hfc]; simp [formC, *]))
      | true =>
        rw [hP1] at hfc; have h0 : shp v = 0 := shp0 (by rw [hfc]; simp [formC, *]) (by have := hEt hE1; omega) (by have := hPk hP1; omega) (fun h => by omega); have hk0 : v.kids.length = 0 := hPk hP1; refine K.kgl ?_; refine WC.loop (fun _ : Unit => [(1, .int .i64 d), (2, .pointer (some ⟨g, 0, none⟩)), (8, .int .i64 0)]) (fun _ w' => w1 = w') (fun _ => 0) () ⟨rfl, rfl, rfl, trivial⟩ rfl ?_; rintro _ _ rfl; refine K.kgl ?_; exact WQ.ret1 rfl rfl ⟨ret_i64 (chk0 h0 hk0).symm, hbel⟩
  · skip
    refine K.kgl ?_; exact WQ.ret1 rfl rfl (bad3 (by rw [hfc]; simp [formC, *]))

set_option maxRecDepth 100000 in
set_option maxHeartbeats 16000000 in
theorem rchk_k4 {f : Nat} {w : World} {v : V} {cs : List Value} {m : Nat} {d : Int} (hv : IsV (f + 1) w v cs) (q : v.k = 4) (_hd1 : d ≤ 16) (_hd0 : 0 ≤ d) :
    Calls Try.prog 79 #[.agg cs.toArray, .int .i64 d] w fun e w' => e = .returned (.int .i64 (chk (m + 1) v)) ∧ Below w.heap.size w w' := by
  obtain ⟨sn, sk, rfl, -, hn64, -, htz, ⟨np, nc, rfl, nl, nc2, nsz, nr⟩, ⟨sp, cap, rfl, hcap1, hcap2, hrow⟩⟩ := hv; have hn : -9223372036854775808 ≤ v.n ∧ v.n ≤ 9223372036854775807 := by simp [Lit.wf, IntKind.min, IntKind.max, IntKind.bits, IntKind.signed] at hn64; omega
  clear hn64; refine enter (args := [.agg (six v (.slice np v.names.length nc) (.slice sp v.kids.length cap)).toArray, .int .i64 d]) Try.func79 rfl Try.ntmps79 rfl ?_; refine K.kgo ?_; refine WL.box rfl rfl rfl rfl rfl fun g w1 hf => ?_; have hR : VBlk 60 w1 g (six v (.slice np v.names.length nc) (.slice sp v.kids.length cap)) := hf.blk; have hbel : Below w.heap.size w w1 := hf.below; have c0 : w1.cell? ⟨g, 0, none⟩ = some (.int .i64 v.k) := hR.cell 0 (by simp); have c1 : w1.cell? ⟨g, 1, none⟩ = some (.int .i64 v.n) := hR.cell 1 (by simp); have c2 : w1.cell? ⟨g, 2, none⟩ = some (.int .i64 v.s) := hR.cell 2 (by simp); have c3 : w1.cell? ⟨g, 3, none⟩ = some (.string v.t) := hR.cell 3 (by simp); have c4 : w1.cell? ⟨g, 4, none⟩ = some (.slice np v.names.length nc) := hR.cell 4 (by simp); have c5 : w1.cell? ⟨g, 5, none⟩ = some (.slice sp v.kids.length cap) := hR.cell 5 (by simp); clear hf; have hfc := formB_eq v; have hB : bareB v = (decide (v.n = 0) && decide (v.s = 0)) := rfl; have hP : plainB v = (decide (v.names.length = 0) && decide (v.kids.length = 0)) := rfl; have hE := text_ne v; have bad3 : formB v = false → Ending.returned (.int .i64 3) = .returned (.int .i64 (chk (m + 1) v)) ∧ Below w.heap.size w w1 := fun h => ⟨ret_i64 (chk_bad (shp_form3 h) (by decide)).symm, hbel⟩; refine K.kgb ?_; refine WL.as 5 (.bool (!noTextB v)) rfl (congrArg Value.bool hE) ?_; refine WL.mid (fun _ : Unit => [(1, .int .i64 d), (2, .pointer (some ⟨g, 0, none⟩)), (5, .bool (!noTextB v)), (6, .bool (!plainB v))]) (fun _ w' => w1 = w') rfl ?_ ?_
  · by_cases hK : v.kids.length = 0
    · have hK0 : ¬ (0 : Int) < v.kids.length := by omega
      refine WL.as 19 (.bool false) rfl (congrArg Value.bool (decide_eq_false hK0)) ?_
      by_cases hN : v.names.length = 0
      · refine K.kgl ?_
        exact WQ.meet () ⟨rfl, rfl, rfl, congrArg (fun b => some (Value.bool b)) (by rw [hP]; simp [hN, hK]), trivial⟩ rfl
      · refine K.kgl ?_
        exact WQ.meet () ⟨rfl, rfl, rfl, congrArg (fun b => some (Value.bool b)) (by rw [hP]; simp [hN]), trivial⟩ rfl
    · have hK0 : (0 : Int) < v.kids.length := by omega
      refine WL.as 19 (.bool true) rfl (congrArg Value.bool (decide_eq_true hK0)) ?_; refine K.kgl ?_; exact WQ.meet () ⟨rfl, rfl, rfl, congrArg (fun b => some (Value.bool b)) (by rw [hP]; simp [hK]), trivial⟩ rfl
  rintro _ _ rfl; have shp5 : formB v = true → (16384 < v.t.size ∨ 200 < v.kids.length) → shp v = 5 := fun h1 h2 => by unfold shp; rw [if_neg (by rw [h1]; exact Bool.noConfusion), if_pos h2]
  have shp0 : formB v = true → v.t.size ≤ 16384 → v.kids.length ≤ 200 → (v.k = 9 → fieldsB v = true) → shp v = 0 := fun h1 h2 h3 h4 => by
    unfold shp; rw [if_neg (by rw [h1]; exact Bool.noConfusion), if_neg (by omega), if_neg (fun h => by have := h4 h.1; rw [this] at h; exact Bool.noConfusion h.2)]
  have hEt : noTextB v = true → v.t.size = 0 := fun h => of_decide_eq_true h; have hPk : plainB v = true → v.kids.length = 0 := fun h => by rw [hP] at h; rw [Bool.and_eq_true] at h; exact of_decide_eq_true h.2
  have chk0 : shp v = 0 → v.kids.length = 0 → chk (m + 1) v = 0 := fun h1 h2 => by
    unfold chk; rw [if_pos h1, List.eq_nil_of_length_eq_zero h2]
    rfl
  clear hE hP

  by_cases a1 : 1 ≤ v.s
  · skip
    by_cases a2 : v.s ≤ 18
    · skip
      by_cases a3 : ¬ v.n.tmod 10 = 0
      · skip
        cases hE1 : noTextB v with
        | false =>
          rw [hE1] at hfc; refine K.kgl ?_; exact WQ.ret1 rfl rfl (bad3 (by rw [hfc]; simp [formC, *]))
        | true =>
          rw [hE1] at hfc; cases hP1 : plainB v with
          | false =>
            rw [hP1] at hfc; refine K.kgl ?_; exact WQ.ret1 rfl rfl (bad3 (by rw [hfc]; simp [formC, *]))
          | true =>
            rw [hP1] at hfc; have h0 : shp v = 0 := shp0 (by rw [hfc]; simp [formC, *]) (by have := hEt hE1; omega) (by have := hPk hP1; omega) (fun h => by omega); have hk0 : v.kids.length = 0 := hPk hP1; refine K.kgl ?_; refine WC.loop (fun _ : Unit => [(1, .int .i64 d), (2, .pointer (some ⟨g, 0, none⟩)), (8, .int .i64 0)]) (fun _ w' => w1 = w') (fun _ => 0) () ⟨rfl, rfl, rfl, trivial⟩ rfl ?_; rintro _ _ rfl; refine K.kgl ?_; exact WQ.ret1 rfl rfl ⟨ret_i64 (chk0 h0 hk0).symm, hbel⟩
      · skip
        refine K.kgl ?_; exact WQ.ret1 rfl rfl (bad3 (by rw [hfc]; simp [formC, *]))
    · skip
      refine K.kgl ?_; exact WQ.ret1 rfl rfl (bad3 (by rw [hfc]; simp [formC, *]))
  · skip
    refine K.kgl ?_; exact WQ.ret1 rfl rfl (bad3 (by rw [hfc]; simp [formC, *]))

set_option maxRecDepth 100000 in
set_option maxHeartbeats 16000000 in
theorem rchk_k5 {f : Nat} {w : World} {v : V} {cs : List Value} {m : Nat} {d : Int} (hv : IsV (f + 1) w v cs) (q : v.k = 5) (_hd1 : d ≤ 16) (_hd0 : 0 ≤ d) :
    Calls Try.prog 79 #[.agg cs.toArray, .int .i64 d] w fun e w' => e = .returned (.int .i64 (chk (m + 1) v)) ∧ Below w.heap.size w w' := by
  obtain ⟨sn, sk, rfl, -, hn64, -, htz, ⟨np, nc, rfl, nl, nc2, nsz, nr⟩, ⟨sp, cap, rfl, hcap1, hcap2, hrow⟩⟩ := hv; have hn : -9223372036854775808 ≤ v.n ∧ v.n ≤ 9223372036854775807 := by simp [Lit.wf, IntKind.min, IntKind.max, IntKind.bits, IntKind.signed] at hn64; omega
  clear hn64; refine enter (args := [.agg (six v (.slice np v.names.length nc) (.slice sp v.kids.length cap)).toArray, .int .i64 d]) Try.func79 rfl Try.ntmps79 rfl ?_; refine K.kgo ?_; refine WL.box rfl rfl rfl rfl rfl fun g w1 hf => ?_; have hR : VBlk 60 w1 g (six v (.slice np v.names.length nc) (.slice sp v.kids.length cap)) := hf.blk; have hbel : Below w.heap.size w w1 := hf.below; have c0 : w1.cell? ⟨g, 0, none⟩ = some (.int .i64 v.k) := hR.cell 0 (by simp); have c1 : w1.cell? ⟨g, 1, none⟩ = some (.int .i64 v.n) := hR.cell 1 (by simp); have c2 : w1.cell? ⟨g, 2, none⟩ = some (.int .i64 v.s) := hR.cell 2 (by simp); have c3 : w1.cell? ⟨g, 3, none⟩ = some (.string v.t) := hR.cell 3 (by simp); have c4 : w1.cell? ⟨g, 4, none⟩ = some (.slice np v.names.length nc) := hR.cell 4 (by simp); have c5 : w1.cell? ⟨g, 5, none⟩ = some (.slice sp v.kids.length cap) := hR.cell 5 (by simp); clear hf; have hfc := formB_eq v; have hB : bareB v = (decide (v.n = 0) && decide (v.s = 0)) := rfl; have hP : plainB v = (decide (v.names.length = 0) && decide (v.kids.length = 0)) := rfl; have hE := text_ne v; have bad3 : formB v = false → Ending.returned (.int .i64 3) = .returned (.int .i64 (chk (m + 1) v)) ∧ Below w.heap.size w w1 := fun h => ⟨ret_i64 (chk_bad (shp_form3 h) (by decide)).symm, hbel⟩; refine K.kgb ?_; refine WL.as 5 (.bool (!noTextB v)) rfl (congrArg Value.bool hE) ?_; refine WL.mid (fun _ : Unit => [(1, .int .i64 d), (2, .pointer (some ⟨g, 0, none⟩)), (5, .bool (!noTextB v)), (6, .bool (!plainB v))]) (fun _ w' => w1 = w') rfl ?_ ?_
  · by_cases hK : v.kids.length = 0
    · have hK0 : ¬ (0 : Int) < v.kids.length := by omega
      refine WL.as 19 (.bool false) rfl (congrArg Value.bool (decide_eq_false hK0)) ?_
      by_cases hN : v.names.length = 0
      · refine K.kgl ?_
        exact WQ.meet () ⟨rfl, rfl, rfl, congrArg (fun b => some (Value.bool b)) (by rw [hP]; simp [hN, hK]), trivial⟩ rfl
      · refine K.kgl ?_
        exact WQ.meet () ⟨rfl, rfl, rfl, congrArg (fun b => some (Value.bool b)) (by rw [hP]; simp [hN]), trivial⟩ rfl
    · have hK0 : (0 : Int) < v.kids.length := by omega
      refine WL.as 19 (.bool true) rfl (congrArg Value.bool (decide_eq_true hK0)) ?_; refine K.kgl ?_; exact WQ.meet () ⟨rfl, rfl, rfl, congrArg (fun b => some (Value.bool b)) (by rw [hP]; simp [hK]), trivial⟩ rfl
  rintro _ _ rfl; have shp5 : formB v = true → (16384 < v.t.size ∨ 200 < v.kids.length) → shp v = 5 := fun h1 h2 => by unfold shp; rw [if_neg (by rw [h1]; exact Bool.noConfusion), if_pos h2]
  have shp0 : formB v = true → v.t.size ≤ 16384 → v.kids.length ≤ 200 → (v.k = 9 → fieldsB v = true) → shp v = 0 := fun h1 h2 h3 h4 => by
    unfold shp; rw [if_neg (by rw [h1]; exact Bool.noConfusion), if_neg (by omega), if_neg (fun h => by have := h4 h.1; rw [this] at h; exact Bool.noConfusion h.2)]
  have hEt : noTextB v = true → v.t.size = 0 := fun h => of_decide_eq_true h; have hPk : plainB v = true → v.kids.length = 0 := fun h => by rw [hP] at h; rw [Bool.and_eq_true] at h; exact of_decide_eq_true h.2
  have chk0 : shp v = 0 → v.kids.length = 0 → chk (m + 1) v = 0 := fun h1 h2 => by
    unfold chk; rw [if_pos h1, List.eq_nil_of_length_eq_zero h2]
    rfl
  clear hE hP

  by_cases a1 : 0 ≤ v.n
  · skip
    by_cases a2 : v.n ≤ 9007199254740992
    · skip
      by_cases a3 : v.s = 0
      · skip
        cases hE1 : noTextB v with
        | false =>
          rw [hE1] at hfc; refine K.kgl ?_; exact WQ.ret1 rfl rfl (bad3 (by rw [hfc]; simp [formC, *]))
        | true =>
          rw [hE1] at hfc; cases hP1 : plainB v with
          | false =>
            rw [hP1] at hfc; refine K.kgl ?_; exact WQ.ret1 rfl rfl (bad3 (by rw [hfc]; simp [formC, *]))
          | true =>
            rw [hP1] at hfc; have h0 : shp v = 0 := shp0 (by rw [hfc]; simp [formC, *]) (by have := hEt hE1; omega) (by have := hPk hP1; omega) (fun h => by omega); have hk0 : v.kids.length = 0 := hPk hP1; refine K.kgl ?_; refine WC.loop (fun _ : Unit => [(1, .int .i64 d), (2, .pointer (some ⟨g, 0, none⟩)), (8, .int .i64 0)]) (fun _ w' => w1 = w') (fun _ => 0) () ⟨rfl, rfl, rfl, trivial⟩ rfl ?_; rintro _ _ rfl; refine K.kgl ?_; exact WQ.ret1 rfl rfl ⟨ret_i64 (chk0 h0 hk0).symm, hbel⟩
      · skip
        refine K.kgl ?_; exact WQ.ret1 rfl rfl (bad3 (by rw [hfc]; simp [formC, *]))
    · skip
      refine K.kgl ?_; exact WQ.ret1 rfl rfl (bad3 (by rw [hfc]; simp [formC, *]))
  · skip
    refine K.kgl ?_; exact WQ.ret1 rfl rfl (bad3 (by rw [hfc]; simp [formC, *]))

set_option maxRecDepth 100000 in
set_option maxHeartbeats 16000000 in
theorem rchk_k67 {f : Nat} {w : World} {v : V} {cs : List Value} {m : Nat} {d : Int} (hv : IsV (f + 1) w v cs) (q : v.k = 6 ∨ v.k = 7) (_hd1 : d ≤ 16) (_hd0 : 0 ≤ d) :
    Calls Try.prog 79 #[.agg cs.toArray, .int .i64 d] w fun e w' => e = .returned (.int .i64 (chk (m + 1) v)) ∧ Below w.heap.size w w' := by
  obtain ⟨sn, sk, rfl, -, hn64, -, htz, ⟨np, nc, rfl, nl, nc2, nsz, nr⟩, ⟨sp, cap, rfl, hcap1, hcap2, hrow⟩⟩ := hv; have hn : -9223372036854775808 ≤ v.n ∧ v.n ≤ 9223372036854775807 := by simp [Lit.wf, IntKind.min, IntKind.max, IntKind.bits, IntKind.signed] at hn64; omega
  clear hn64; refine enter (args := [.agg (six v (.slice np v.names.length nc) (.slice sp v.kids.length cap)).toArray, .int .i64 d]) Try.func79 rfl Try.ntmps79 rfl ?_; refine K.kgo ?_; refine WL.box rfl rfl rfl rfl rfl fun g w1 hf => ?_; have hR : VBlk 60 w1 g (six v (.slice np v.names.length nc) (.slice sp v.kids.length cap)) := hf.blk; have hbel : Below w.heap.size w w1 := hf.below; have c0 : w1.cell? ⟨g, 0, none⟩ = some (.int .i64 v.k) := hR.cell 0 (by simp); have c1 : w1.cell? ⟨g, 1, none⟩ = some (.int .i64 v.n) := hR.cell 1 (by simp); have c2 : w1.cell? ⟨g, 2, none⟩ = some (.int .i64 v.s) := hR.cell 2 (by simp); have c3 : w1.cell? ⟨g, 3, none⟩ = some (.string v.t) := hR.cell 3 (by simp); have c4 : w1.cell? ⟨g, 4, none⟩ = some (.slice np v.names.length nc) := hR.cell 4 (by simp); have c5 : w1.cell? ⟨g, 5, none⟩ = some (.slice sp v.kids.length cap) := hR.cell 5 (by simp); clear hf; have hfc := formB_eq v; have hB : bareB v = (decide (v.n = 0) && decide (v.s = 0)) := rfl; have hP : plainB v = (decide (v.names.length = 0) && decide (v.kids.length = 0)) := rfl; have hE := text_ne v; have bad3 : formB v = false → Ending.returned (.int .i64 3) = .returned (.int .i64 (chk (m + 1) v)) ∧ Below w.heap.size w w1 := fun h => ⟨ret_i64 (chk_bad (shp_form3 h) (by decide)).symm, hbel⟩; refine K.kgb ?_; refine WL.as 5 (.bool (!noTextB v)) rfl (congrArg Value.bool hE) ?_; refine WL.mid (fun _ : Unit => [(1, .int .i64 d), (2, .pointer (some ⟨g, 0, none⟩)), (5, .bool (!noTextB v)), (6, .bool (!plainB v))]) (fun _ w' => w1 = w') rfl ?_ ?_
  · by_cases hK : v.kids.length = 0
    · have hK0 : ¬ (0 : Int) < v.kids.length := by omega
      refine WL.as 19 (.bool false) rfl (congrArg Value.bool (decide_eq_false hK0)) ?_
      by_cases hN : v.names.length = 0
      · refine K.kgl ?_
        exact WQ.meet () ⟨rfl, rfl, rfl, congrArg (fun b => some (Value.bool b)) (by rw [hP]; simp [hN, hK]), trivial⟩ rfl
      · refine K.kgl ?_
        exact WQ.meet () ⟨rfl, rfl, rfl, congrArg (fun b => some (Value.bool b)) (by rw [hP]; simp [hN]), trivial⟩ rfl
    · have hK0 : (0 : Int) < v.kids.length := by omega
      refine WL.as 19 (.bool true) rfl (congrArg Value.bool (decide_eq_true hK0)) ?_; refine K.kgl ?_; exact WQ.meet () ⟨rfl, rfl, rfl, congrArg (fun b => some (Value.bool b)) (by rw [hP]; simp [hK]), trivial⟩ rfl
  rintro _ _ rfl; have shp5 : formB v = true → (16384 < v.t.size ∨ 200 < v.kids.length) → shp v = 5 := fun h1 h2 => by unfold shp; rw [if_neg (by rw [h1]; exact Bool.noConfusion), if_pos h2]
  have shp0 : formB v = true → v.t.size ≤ 16384 → v.kids.length ≤ 200 → (v.k = 9 → fieldsB v = true) → shp v = 0 := fun h1 h2 h3 h4 => by
    unfold shp; rw [if_neg (by rw [h1]; exact Bool.noConfusion), if_neg (by omega), if_neg (fun h => by have := h4 h.1; rw [this] at h; exact Bool.noConfusion h.2)]
  have hEt : noTextB v = true → v.t.size = 0 := fun h => of_decide_eq_true h; have hPk : plainB v = true → v.kids.length = 0 := fun h => by rw [hP] at h; rw [Bool.and_eq_true] at h; exact of_decide_eq_true h.2
  have chk0 : shp v = 0 → v.kids.length = 0 → chk (m + 1) v = 0 := fun h1 h2 => by
    unfold chk; rw [if_pos h1, List.eq_nil_of_length_eq_zero h2]
    rfl
  clear hE hP

  clear nr nsz hrow; have q9 : ¬ v.k = 9 := by omega
  rcases q with q | q
  · skip
    by_cases a1 : v.n = 0
    · skip
      by_cases a2 : v.s = 0
      · skip
        cases hP1 : plainB v with
        | false =>
          rw [hP1] at hfc; refine K.kgl ?_; exact WQ.ret1 rfl rfl (bad3 (by rw [hfc]; simp [formC, *]))
        | true =>
          rw [hP1] at hfc
          by_cases a3 : 16384 < v.t.size
          · refine K.kgl ?_
            exact WQ.ret1 rfl rfl ⟨ret_i64 (chk_bad (shp5 (by rw [hfc]; simp [formC, *]) (.inl a3)) (by decide)).symm, hbel⟩
          · skip
            have h0 : shp v = 0 := shp0 (by rw [hfc]; simp [formC, *]) (by omega) (by have := hPk hP1; omega) (fun h => by omega); have hk0 : v.kids.length = 0 := hPk hP1; refine K.kgl ?_; refine WC.loop (fun _ : Unit => [(1, .int .i64 d), (2, .pointer (some ⟨g, 0, none⟩)), (8, .int .i64 0)]) (fun _ w' => w1 = w') (fun _ => 0) () ⟨rfl, rfl, rfl, trivial⟩ rfl ?_; rintro _ _ rfl; refine K.kgl ?_; exact WQ.ret1 rfl rfl ⟨ret_i64 (chk0 h0 hk0).symm, hbel⟩
      · skip
        refine K.kgl ?_; exact WQ.ret1 rfl rfl (bad3 (by rw [hfc]; simp [formC, *]))
    · skip
      refine K.kgl ?_; exact WQ.ret1 rfl rfl (bad3 (by rw [hfc]; simp [formC, *]))
  · skip
    by_cases a1 : v.n = 0
    · skip
      by_cases a2 : v.s = 0
      · skip
        cases hP1 : plainB v with
        | false =>
          rw [hP1] at hfc; refine K.kgl ?_; exact WQ.ret1 rfl rfl (bad3 (by rw [hfc]; simp [formC, *]))
        | true =>
          rw [hP1] at hfc
          by_cases a3 : 16384 < v.t.size
          · refine K.kgl ?_
            exact WQ.ret1 rfl rfl ⟨ret_i64 (chk_bad (shp5 (by rw [hfc]; simp [formC, *]) (.inl a3)) (by decide)).symm, hbel⟩
          · skip
            have h0 : shp v = 0 := shp0 (by rw [hfc]; simp [formC, *]) (by omega) (by have := hPk hP1; omega) (fun h => by omega); have hk0 : v.kids.length = 0 := hPk hP1; refine K.kgl ?_; refine WC.loop (fun _ : Unit => [(1, .int .i64 d), (2, .pointer (some ⟨g, 0, none⟩)), (8, .int .i64 0)]) (fun _ w' => w1 = w') (fun _ => 0) () ⟨rfl, rfl, rfl, trivial⟩ rfl ?_; rintro _ _ rfl; refine K.kgl ?_; exact WQ.ret1 rfl rfl ⟨ret_i64 (chk0 h0 hk0).symm, hbel⟩
      · skip
        refine K.kgl ?_; exact WQ.ret1 rfl rfl (bad3 (by rw [hfc]; simp [formC, *]))
    · skip
      refine K.kgl ?_; exact WQ.ret1 rfl rfl (bad3 (by rw [hfc]; simp [formC, *]))

set_option maxRecDepth 100000 in
set_option maxHeartbeats 16000000 in
theorem rchk_kx {f : Nat} {w : World} {v : V} {cs : List Value} {m : Nat} {d : Int} (hv : IsV (f + 1) w v cs) (q : ¬ (1 ≤ v.k ∧ v.k ≤ 9)) (_hd1 : d ≤ 16) (_hd0 : 0 ≤ d) :
    Calls Try.prog 79 #[.agg cs.toArray, .int .i64 d] w fun e w' => e = .returned (.int .i64 (chk (m + 1) v)) ∧ Below w.heap.size w w' := by
  obtain ⟨sn, sk, rfl, -, hn64, -, htz, ⟨np, nc, rfl, nl, nc2, nsz, nr⟩, ⟨sp, cap, rfl, hcap1, hcap2, hrow⟩⟩ := hv; have hn : -9223372036854775808 ≤ v.n ∧ v.n ≤ 9223372036854775807 := by simp [Lit.wf, IntKind.min, IntKind.max, IntKind.bits, IntKind.signed] at hn64; omega
  clear hn64; refine enter (args := [.agg (six v (.slice np v.names.length nc) (.slice sp v.kids.length cap)).toArray, .int .i64 d]) Try.func79 rfl Try.ntmps79 rfl ?_; refine K.kgo ?_; refine WL.box rfl rfl rfl rfl rfl fun g w1 hf => ?_; have hR : VBlk 60 w1 g (six v (.slice np v.names.length nc) (.slice sp v.kids.length cap)) := hf.blk; have hbel : Below w.heap.size w w1 := hf.below; have c0 : w1.cell? ⟨g, 0, none⟩ = some (.int .i64 v.k) := hR.cell 0 (by simp); have c1 : w1.cell? ⟨g, 1, none⟩ = some (.int .i64 v.n) := hR.cell 1 (by simp); have c2 : w1.cell? ⟨g, 2, none⟩ = some (.int .i64 v.s) := hR.cell 2 (by simp); have c3 : w1.cell? ⟨g, 3, none⟩ = some (.string v.t) := hR.cell 3 (by simp); have c4 : w1.cell? ⟨g, 4, none⟩ = some (.slice np v.names.length nc) := hR.cell 4 (by simp); have c5 : w1.cell? ⟨g, 5, none⟩ = some (.slice sp v.kids.length cap) := hR.cell 5 (by simp); clear hf; have hfc := formB_eq v; have hB : bareB v = (decide (v.n = 0) && decide (v.s = 0)) := rfl; have hP : plainB v = (decide (v.names.length = 0) && decide (v.kids.length = 0)) := rfl; have hE := text_ne v; have bad3 : formB v = false → Ending.returned (.int .i64 3) = .returned (.int .i64 (chk (m + 1) v)) ∧ Below w.heap.size w w1 := fun h => ⟨ret_i64 (chk_bad (shp_form3 h) (by decide)).symm, hbel⟩; refine K.kgb ?_; refine WL.as 5 (.bool (!noTextB v)) rfl (congrArg Value.bool hE) ?_; refine WL.mid (fun _ : Unit => [(1, .int .i64 d), (2, .pointer (some ⟨g, 0, none⟩)), (5, .bool (!noTextB v)), (6, .bool (!plainB v))]) (fun _ w' => w1 = w') rfl ?_ ?_
  · by_cases hK : v.kids.length = 0
    · have hK0 : ¬ (0 : Int) < v.kids.length := by omega
      refine WL.as 19 (.bool false) rfl (congrArg Value.bool (decide_eq_false hK0)) ?_
      by_cases hN : v.names.length = 0
      · refine K.kgl ?_
        exact WQ.meet () ⟨rfl, rfl, rfl, congrArg (fun b => some (Value.bool b)) (by rw [hP]; simp [hN, hK]), trivial⟩ rfl
      · refine K.kgl ?_
        exact WQ.meet () ⟨rfl, rfl, rfl, congrArg (fun b => some (Value.bool b)) (by rw [hP]; simp [hN]), trivial⟩ rfl
    · have hK0 : (0 : Int) < v.kids.length := by omega
      refine WL.as 19 (.bool true) rfl (congrArg Value.bool (decide_eq_true hK0)) ?_; refine K.kgl ?_; exact WQ.meet () ⟨rfl, rfl, rfl, congrArg (fun b => some (Value.bool b)) (by rw [hP]; simp [hK]), trivial⟩ rfl
  rintro _ _ rfl; have shp5 : formB v = true → (16384 < v.t.size ∨ 200 < v.kids.length) → shp v = 5 := fun h1 h2 => by unfold shp; rw [if_neg (by rw [h1]; exact Bool.noConfusion), if_pos h2]
  have shp0 : formB v = true → v.t.size ≤ 16384 → v.kids.length ≤ 200 → (v.k = 9 → fieldsB v = true) → shp v = 0 := fun h1 h2 h3 h4 => by
    unfold shp; rw [if_neg (by rw [h1]; exact Bool.noConfusion), if_neg (by omega), if_neg (fun h => by have := h4 h.1; rw [this] at h; exact Bool.noConfusion h.2)]
  have hEt : noTextB v = true → v.t.size = 0 := fun h => of_decide_eq_true h; have hPk : plainB v = true → v.kids.length = 0 := fun h => by rw [hP] at h; rw [Bool.and_eq_true] at h; exact of_decide_eq_true h.2
  have chk0 : shp v = 0 → v.kids.length = 0 → chk (m + 1) v = 0 := fun h1 h2 => by
    unfold chk; rw [if_pos h1, List.eq_nil_of_length_eq_zero h2]
    rfl
  clear hE hP

  clear nr nsz hrow; have hff : formB v = false := by
    rw [hfc]; unfold formC; rw [if_neg (show ¬ v.k = 1 by omega), if_neg (show ¬ v.k = 2 by omega), if_neg (show ¬ v.k = 3 by omega), if_neg (show ¬ v.k = 4 by omega), if_neg (show ¬ v.k = 5 by omega), if_neg (show ¬ (v.k = 6 ∨ v.k = 7) by omega), if_neg (show ¬ v.k = 8 by omega), if_neg (show ¬ v.k = 9 by omega)]
  refine K.kgl ?_; exact WQ.ret1 rfl rfl (bad3 hff)
end K
end Go.Proofs.Ytdkkaliiofcflaa

namespace Go.Proofs.Ytdkkaliiofcflaa
open Go.RowKit
namespace K
open Vl (formC formB_eq okN fields_iff)


set_option maxRecDepth 100000 in
set_option maxHeartbeats 16000000 in
theorem rchk_k8 {f : Nat} {w : World} {v : V} {cs : List Value} {m : Nat} {d : Int} (ih : ∀ {w : World} {v : V} {cs : List Value} (d : Int), IsV f w v cs → d = 17 - (m : Int) → Calls Try.prog 79 #[.agg cs.toArray, .int .i64 d] w fun e w' => e = .returned (.int .i64 (chk m v)) ∧ Below w.heap.size w w') (hd : d + 1 = 17 - (m : Int)) (hv : IsV (f + 1) w v cs) (q : v.k = 8) (_hd1 : d ≤ 16) (_hd0 : 0 ≤ d) :
    Calls Try.prog 79 #[.agg cs.toArray, .int .i64 d] w fun e w' => e = .returned (.int .i64 (chk (m + 1) v)) ∧ Below w.heap.size w w' := by
  obtain ⟨sn, sk, rfl, -, hn64, -, htz, ⟨np, nc, rfl, nl, nc2, nsz, nr⟩, ⟨sp, cap, rfl, hcap1, hcap2, hrow⟩⟩ := hv; have hn : -9223372036854775808 ≤ v.n ∧ v.n ≤ 9223372036854775807 := by simp [Lit.wf, IntKind.min, IntKind.max, IntKind.bits, IntKind.signed] at hn64; omega
  clear hn64; refine enter (args := [.agg (six v (.slice np v.names.length nc) (.slice sp v.kids.length cap)).toArray, .int .i64 d]) Try.func79 rfl Try.ntmps79 rfl ?_; refine K.kgo ?_; refine WL.box rfl rfl rfl rfl rfl fun g w1 hf => ?_; have hR : VBlk 60 w1 g (six v (.slice np v.names.length nc) (.slice sp v.kids.length cap)) := hf.blk; have hbel : Below w.heap.size w w1 := hf.below; have c0 : w1.cell? ⟨g, 0, none⟩ = some (.int .i64 v.k) := hR.cell 0 (by simp); have c1 : w1.cell? ⟨g, 1, none⟩ = some (.int .i64 v.n) := hR.cell 1 (by simp); have c2 : w1.cell? ⟨g, 2, none⟩ = some (.int .i64 v.s) := hR.cell 2 (by simp); have c3 : w1.cell? ⟨g, 3, none⟩ = some (.string v.t) := hR.cell 3 (by simp); have c4 : w1.cell? ⟨g, 4, none⟩ = some (.slice np v.names.length nc) := hR.cell 4 (by simp); have c5 : w1.cell? ⟨g, 5, none⟩ = some (.slice sp v.kids.length cap) := hR.cell 5 (by simp); clear hf; have hfc := formB_eq v; have hB : bareB v = (decide (v.n = 0) && decide (v.s = 0)) := rfl; have hP : plainB v = (decide (v.names.length = 0) && decide (v.kids.length = 0)) := rfl; have hE := text_ne v; have bad3 : formB v = false → Ending.returned (.int .i64 3) = .returned (.int .i64 (chk (m + 1) v)) ∧ Below w.heap.size w w1 := fun h => ⟨ret_i64 (chk_bad (shp_form3 h) (by decide)).symm, hbel⟩; refine K.kgb ?_; refine WL.as 5 (.bool (!noTextB v)) rfl (congrArg Value.bool hE) ?_; refine WL.mid (fun _ : Unit => [(1, .int .i64 d), (2, .pointer (some ⟨g, 0, none⟩)), (5, .bool (!noTextB v)), (6, .bool (!plainB v))]) (fun _ w' => w1 = w') rfl ?_ ?_
  · by_cases hK : v.kids.length = 0
    · have hK0 : ¬ (0 : Int) < v.kids.length := by omega
      refine WL.as 19 (.bool false) rfl (congrArg Value.bool (decide_eq_false hK0)) ?_
      by_cases hN : v.names.length = 0
      · refine K.kgl ?_
        exact WQ.meet () ⟨rfl, rfl, rfl, congrArg (fun b => some (Value.bool b)) (by rw [hP]; simp [hN, hK]), trivial⟩ rfl
      · refine K.kgl ?_
        exact WQ.meet () ⟨rfl, rfl, rfl, congrArg (fun b => some (Value.bool b)) (by rw [hP]; simp [hN]), trivial⟩ rfl
    · have hK0 : (0 : Int) < v.kids.length := by omega
      refine WL.as 19 (.bool true) rfl (congrArg Value.bool (decide_eq_true hK0)) ?_; refine K.kgl ?_; exact WQ.meet () ⟨rfl, rfl, rfl, congrArg (fun b => some (Value.bool b)) (by rw [hP]; simp [hK]), trivial⟩ rfl
  rintro _ _ rfl; have shp5 : formB v = true → (16384 < v.t.size ∨ 200 < v.kids.length) → shp v = 5 := fun h1 h2 => by unfold shp; rw [if_neg (by rw [h1]; exact Bool.noConfusion), if_pos h2]
  have shp0 : formB v = true → v.t.size ≤ 16384 → v.kids.length ≤ 200 → (v.k = 9 → fieldsB v = true) → shp v = 0 := fun h1 h2 h3 h4 => by
    unfold shp; rw [if_neg (by rw [h1]; exact Bool.noConfusion), if_neg (by omega), if_neg (fun h => by have := h4 h.1; rw [this] at h; exact Bool.noConfusion h.2)]
  have hEt : noTextB v = true → v.t.size = 0 := fun h => of_decide_eq_true h; have hPk : plainB v = true → v.kids.length = 0 := fun h => by rw [hP] at h; rw [Bool.and_eq_true] at h; exact of_decide_eq_true h.2
  have chk0 : shp v = 0 → v.kids.length = 0 → chk (m + 1) v = 0 := fun h1 h2 => by
    unfold chk; rw [if_pos h1, List.eq_nil_of_length_eq_zero h2]
    rfl
  clear hE hP

  clear nr nsz
  by_cases a1 : v.n = 0
  · skip
    by_cases a2 : v.s = 0
    · skip
      cases hE1 : noTextB v with
      | false =>
        rw [hE1] at hfc; refine K.kgl ?_; exact WQ.ret1 rfl rfl (bad3 (by rw [hfc]; simp [formC, *]))
      | true =>
        rw [hE1] at hfc
        by_cases a3 : v.names.length = 0
        · skip
          by_cases a4 : 200 < v.kids.length
          · refine K.kgl ?_
            exact WQ.ret1 rfl rfl ⟨ret_i64 (chk_bad (shp5 (by rw [hfc]; simp [formC, *]) (.inr a4)) (by decide)).symm, hbel⟩
          have h0 : shp v = 0 := shp0 (by rw [hfc]; simp [formC, *]) (by have := hEt hE1; omega) (by omega) (fun h => by omega); have hchk : chk (m + 1) v = firstBad (v.kids.map (chk m)) := by
            conv => lhs; unfold chk
            rw [if_pos h0]
          have hb1 : Below w1.heap.size w1 w1 := Below.refl _ _; refine K.kgl ?_; refine WC.loop (fun i : Nat => [(1, .int .i64 d), (2, .pointer (some ⟨g, 0, none⟩)), (8, .int .i64 i)]) (fun i w' => i ≤ v.kids.length ∧ Below w1.heap.size w1 w' ∧ ∀ j, j < i → chk m (v.kids.getD j noV) = 0) (fun i => v.kids.length - i) 0 ⟨rfl, rfl, rfl, trivial⟩ ⟨Nat.zero_le _, hb1, fun j hj => absurd hj (by omega)⟩ ?_; clear hb1 c0 c1 c2 c3 c4 c5; rintro i wr ⟨hi, hbr, hall⟩; have hgw : g < w1.heap.size := hR.lt; have c5 : wr.cell? ⟨g, 5, none⟩ = some (.slice sp v.kids.length cap) := (hR.below hbr hgw).cell 5 (by simp); have hbelr : Below w.heap.size w wr := hbel.trans (hbr.mono hbel.size)
          by_cases hik : i < v.kids.length
          · obtain ⟨kb, ko, rfl, hkb, hcells⟩ := hrow (by omega)
            obtain ⟨c, hc6, hci, hcr⟩ := hcells i hik; clear hrow hcells; have hcr' : wr.rangeAt kb (ko + i * 6) c := fun j u hu => by rw [hbelr.cell (p := ⟨kb, ko + i * 6 + j, none⟩) hkb]; exact hcr j u hu
            refine K.kgl ?_; refine WL.idx i (ko + i * 6) rfl rfl rfl rfl rfl rfl rfl rfl hik rfl ?_; refine WL.loadMid rfl rfl rfl rfl rfl rfl hcr' hc6 ?_; refine K.kgo ?_; refine WL.call rfl rfl rfl rfl rfl Try.func79 rfl (by kernel_rfl) (ih (d + 1) (hci.below hbelr) hd) ?_; rintro e w4 ⟨rfl, hb4⟩; refine ⟨_, rfl, ?_⟩; have hb4' : Below w1.heap.size w1 w4 := hbr.trans (hb4.mono hbr.size)
            by_cases h0 : chk m (v.kids.getD i noV) = 0
            · refine K.kgo ?_
              refine WQ.again (i + 1) ⟨rfl, rfl, rfl, trivial⟩ ⟨hik, hb4', fun j hj => (Nat.lt_succ_iff_lt_or_eq.1 hj).elim (hall j) (fun e => by rw [e]; exact h0)⟩ (by show v.kids.length - (i + 1) < v.kids.length - i; omega)
            · have hfb : chk (m + 1) v = chk m (v.kids.getD i noV) := by
                rw [hchk, firstBad_take (i := i) (by rw [List.length_map]; exact hik) (fun j hj => by rw [chk_map m v.kids j (by omega)]; exact hall j hj) (by rw [chk_map m v.kids i hik]; exact h0), chk_map m v.kids i hik]
              refine K.kgo ?_; exact WQ.ret1 rfl rfl ⟨ret_i64 hfb.symm, hbel.trans (hb4'.mono hbel.size)⟩
          · obtain rfl : i = v.kids.length := by omega
            refine K.kgl ?_; refine WQ.ret1 rfl rfl ⟨ret_i64 ?_, hbelr⟩; rw [hchk]; exact (firstBad_all fun j hj => by rw [List.length_map] at hj; rw [chk_map m v.kids j hj]; exact hall j hj).symm
        · skip
          refine K.kgl ?_; exact WQ.ret1 rfl rfl (bad3 (by rw [hfc]; simp [formC, *]))
    · skip
      refine K.kgl ?_; exact WQ.ret1 rfl rfl (bad3 (by rw [hfc]; simp [formC, *]))
  · skip
    refine K.kgl ?_; exact WQ.ret1 rfl rfl (bad3 (by rw [hfc]; simp [formC, *]))

set_option maxRecDepth 100000 in
set_option maxHeartbeats 16000000 in
theorem rchk_k9 {f : Nat} {w : World} {v : V} {cs : List Value} {m : Nat} {d : Int} (ih : ∀ {w : World} {v : V} {cs : List Value} (d : Int), IsV f w v cs → d = 17 - (m : Int) → Calls Try.prog 79 #[.agg cs.toArray, .int .i64 d] w fun e w' => e = .returned (.int .i64 (chk m v)) ∧ Below w.heap.size w w') (hd : d + 1 = 17 - (m : Int)) (hv : IsV (f + 1) w v cs) (q : v.k = 9) (_hd1 : d ≤ 16) (_hd0 : 0 ≤ d) :
    Calls Try.prog 79 #[.agg cs.toArray, .int .i64 d] w fun e w' => e = .returned (.int .i64 (chk (m + 1) v)) ∧ Below w.heap.size w w' := by
  obtain ⟨sn, sk, rfl, -, hn64, -, htz, ⟨np, nc, rfl, nl, nc2, nsz, nr⟩, ⟨sp, cap, rfl, hcap1, hcap2, hrow⟩⟩ := hv; have hn : -9223372036854775808 ≤ v.n ∧ v.n ≤ 9223372036854775807 := by simp [Lit.wf, IntKind.min, IntKind.max, IntKind.bits, IntKind.signed] at hn64; omega
  clear hn64; refine enter (args := [.agg (six v (.slice np v.names.length nc) (.slice sp v.kids.length cap)).toArray, .int .i64 d]) Try.func79 rfl Try.ntmps79 rfl ?_; refine K.kgo ?_; refine WL.box rfl rfl rfl rfl rfl fun g w1 hf => ?_; have hR : VBlk 60 w1 g (six v (.slice np v.names.length nc) (.slice sp v.kids.length cap)) := hf.blk; have hbel : Below w.heap.size w w1 := hf.below; have c0 : w1.cell? ⟨g, 0, none⟩ = some (.int .i64 v.k) := hR.cell 0 (by simp); have c1 : w1.cell? ⟨g, 1, none⟩ = some (.int .i64 v.n) := hR.cell 1 (by simp); have c2 : w1.cell? ⟨g, 2, none⟩ = some (.int .i64 v.s) := hR.cell 2 (by simp); have c3 : w1.cell? ⟨g, 3, none⟩ = some (.string v.t) := hR.cell 3 (by simp); have c4 : w1.cell? ⟨g, 4, none⟩ = some (.slice np v.names.length nc) := hR.cell 4 (by simp); have c5 : w1.cell? ⟨g, 5, none⟩ = some (.slice sp v.kids.length cap) := hR.cell 5 (by simp); clear hf; have hfc := formB_eq v; have hB : bareB v = (decide (v.n = 0) && decide (v.s = 0)) := rfl; have hP : plainB v = (decide (v.names.length = 0) && decide (v.kids.length = 0)) := rfl; have hE := text_ne v; have bad3 : formB v = false → Ending.returned (.int .i64 3) = .returned (.int .i64 (chk (m + 1) v)) ∧ Below w.heap.size w w1 := fun h => ⟨ret_i64 (chk_bad (shp_form3 h) (by decide)).symm, hbel⟩; refine K.kgb ?_; refine WL.as 5 (.bool (!noTextB v)) rfl (congrArg Value.bool hE) ?_; refine WL.mid (fun _ : Unit => [(1, .int .i64 d), (2, .pointer (some ⟨g, 0, none⟩)), (5, .bool (!noTextB v)), (6, .bool (!plainB v))]) (fun _ w' => w1 = w') rfl ?_ ?_
  · by_cases hK : v.kids.length = 0
    · have hK0 : ¬ (0 : Int) < v.kids.length := by omega
      refine WL.as 19 (.bool false) rfl (congrArg Value.bool (decide_eq_false hK0)) ?_
      by_cases hN : v.names.length = 0
      · refine K.kgl ?_
        exact WQ.meet () ⟨rfl, rfl, rfl, congrArg (fun b => some (Value.bool b)) (by rw [hP]; simp [hN, hK]), trivial⟩ rfl
      · refine K.kgl ?_
        exact WQ.meet () ⟨rfl, rfl, rfl, congrArg (fun b => some (Value.bool b)) (by rw [hP]; simp [hN]), trivial⟩ rfl
    · have hK0 : (0 : Int) < v.kids.length := by omega
      refine WL.as 19 (.bool true) rfl (congrArg Value.bool (decide_eq_true hK0)) ?_; refine K.kgl ?_; exact WQ.meet () ⟨rfl, rfl, rfl, congrArg (fun b => some (Value.bool b)) (by rw [hP]; simp [hK]), trivial⟩ rfl
  rintro _ _ rfl; have shp5 : formB v = true → (16384 < v.t.size ∨ 200 < v.kids.length) → shp v = 5 := fun h1 h2 => by unfold shp; rw [if_neg (by rw [h1]; exact Bool.noConfusion), if_pos h2]
  have shp0 : formB v = true → v.t.size ≤ 16384 → v.kids.length ≤ 200 → (v.k = 9 → fieldsB v = true) → shp v = 0 := fun h1 h2 h3 h4 => by
    unfold shp; rw [if_neg (by rw [h1]; exact Bool.noConfusion), if_neg (by omega), if_neg (fun h => by have := h4 h.1; rw [this] at h; exact Bool.noConfusion h.2)]
  have hEt : noTextB v = true → v.t.size = 0 := fun h => of_decide_eq_true h; have hPk : plainB v = true → v.kids.length = 0 := fun h => by rw [hP] at h; rw [Bool.and_eq_true] at h; exact of_decide_eq_true h.2
  have chk0 : shp v = 0 → v.kids.length = 0 → chk (m + 1) v = 0 := fun h1 h2 => by
    unfold chk; rw [if_pos h1, List.eq_nil_of_length_eq_zero h2]
    rfl
  clear hE hP

  by_cases a1 : v.n = 0
  · skip
    by_cases a2 : v.s = 0
    · skip
      cases hE1 : noTextB v with
      | false =>
        rw [hE1] at hfc; refine K.kgl ?_; exact WQ.ret1 rfl rfl (bad3 (by rw [hfc]; simp [formC, *]))
      | true =>
        rw [hE1] at hfc; have hform : formB v = true := by rw [hfc]; simp [formC, *]
        by_cases a4 : 200 < v.kids.length
        · refine K.kgl ?_
          exact WQ.ret1 rfl rfl ⟨ret_i64 (chk_bad (shp5 hform (.inr a4)) (by decide)).symm, hbel⟩
        have hfi := fields_iff v; have shp3 : fieldsB v = false → shp v = 3 := fun h => by
          unfold shp; rw [if_neg (by rw [hform]; exact Bool.noConfusion), if_neg (by have := hEt hE1; omega), if_pos ⟨q, h⟩]
        by_cases a5 : v.names.length = v.kids.length
        · refine K.kgl ?_
          refine WC.loop (fun i : Nat => [(1, .int .i64 d), (2, .pointer (some ⟨g, 0, none⟩)), (7, .int .i64 i)]) (fun i w' => i ≤ v.names.length ∧ Below w1.heap.size w1 w' ∧ ∀ j, j < i → okN v.names j = true) (fun i => v.names.length - i) 0 ⟨rfl, rfl, rfl, trivial⟩ ⟨Nat.zero_le _, Below.refl _ _, fun j hj => absurd hj (by omega)⟩ ?_; rintro i wz ⟨hi, hbz, hall⟩; have hgw : g < w1.heap.size := hR.lt; have hRz : VBlk 60 wz g (six v (.slice np v.names.length nc) (.slice sp v.kids.length cap)) := hR.below hbz hgw; have hbelz : Below w.heap.size w wz := hbel.trans (hbz.mono hbel.size); have z4 : wz.cell? ⟨g, 4, none⟩ = some (.slice np v.names.length nc) := hRz.cell 4 (by simp)
          by_cases hin : i < v.names.length
          · obtain ⟨nb, no, rfl, hnb, hnr⟩ := nr (by omega)
            have hnc := hnr i hin; have hnp := hnr (i - 1) (by omega); have hnz := nsz i hin; clear hnr nr hrow nsz; have hok : okN v.names i = (isNameB (v.names.getD i noT) && (decide (i = 0) || Op.bytesLess (v.names.getD (i - 1) noT).toList (v.names.getD i noT).toList)) := rfl; have hleq := Vl.leq_not (v.names.getD i noT).toList (v.names.getD (i - 1) noT).toList; have hnm : isNameB (v.names.getD i noT) = (decide (1 ≤ (v.names.getD i noT).size) && decide ((v.names.getD i noT).size ≤ 40)) := rfl; have badn : okN v.names i = false → Ending.returned (.int .i64 3) = .returned (.int .i64 (chk (m + 1) v)) := fun h => ret_i64 (chk_bad (shp3 (by
              cases hf : fieldsB v with
              | false => rfl
              | true => have := (hfi.1 hf).1 i hin; rw [h] at this; cases this)) (by decide)).symm
            generalize v.names.getD i noT = nm at hnc hnz hok hleq hnm; generalize v.names.getD (i - 1) noT = pm at hnp hok hleq; refine K.kgl ?_; refine WC.drawn 33 (fun wx => Below w.heap.size w wx ∧ VBlk 60 wx g (six v (.slice (some ⟨nb, no, none⟩) v.names.length nc) (.slice sp v.kids.length cap))) fun w2 hd2 => ?_; have hS : Below w.heap.size w w2 ∧ VBlk 60 w2 g (six v (.slice (some ⟨nb, no, none⟩) v.names.length nc) (.slice sp v.kids.length cap)) := ⟨hbelz.trans (hd2.below _), hRz.below (hd2.below _) hRz.lt⟩; have hb2 : Below w1.heap.size w1 w2 := hbz.trans (hd2.below _)
            by_cases x1 : nm.size < 1
            · skip
              refine K.fr [0] hS ?_; refine K.wl 1 [3, 4, 5, 6, 7, 8, 9, 10, 11, 12, 13, 14, 15, 16, 17, 18, 19, 20, 21, 22, 23, 24, 25, 26, 27, 28, 29, 30, 31, 32, 33] rfl rfl rfl rfl rfl rfl rfl (fun wx hx => hx.2.cell 4 (by simp)) hS ?_; refine K.fr [2] hS ?_; refine K.wi 3 i (no + i) rfl rfl rfl rfl rfl rfl rfl rfl rfl (by omega) (by omega) (.inr hS) ?_; refine K.wl 4 [5, 6, 7, 8, 9, 10, 11, 12, 13, 14, 15, 16, 17, 18, 19, 20, 21, 22, 23, 24, 25, 26, 27, 28, 29, 30, 31, 32, 33] rfl rfl rfl rfl rfl rfl rfl (fun wx hx => (hx.1.cell (p := ⟨nb, no + i, none⟩) hnb).trans hnc) hS ?_; refine K.fr [5, 6, 7, 8] hS ?_; refine K.fr [9, 10, 11, 12, 13, 14, 15, 16] hS ?_; refine K.fr [17, 18, 19, 20] hS ?_; refine K.fr [21, 22, 23, 24, 25, 26, 27, 28, 29, 30, 31, 32] hS ?_; refine K.wo 33 ?_; refine WL.pure rfl rfl rfl rfl ?_; refine K.dl ?_; refine WD.done (by kernel_rfl) ?_; refine K.kgo ?_; exact WQ.ret1 rfl rfl ⟨badn (by rw [hok, hnm, decide_eq_false (by omega)]; rfl), hS.1⟩
            by_cases x2 : 40 < nm.size
            · skip
              refine K.fr [0] hS ?_; refine K.wl 1 [3, 4, 5, 6, 7, 8, 9, 10, 11, 12, 13, 14, 15, 16, 17, 18, 19, 20, 21, 22, 23, 24, 25, 26, 27, 28, 29, 30, 31, 32, 33] rfl rfl rfl rfl rfl rfl rfl (fun wx hx => hx.2.cell 4 (by simp)) hS ?_; refine K.fr [2] hS ?_; refine K.wi 3 i (no + i) rfl rfl rfl rfl rfl rfl rfl rfl rfl (by omega) (by omega) (.inr hS) ?_; refine K.wl 4 [5, 6, 7, 8, 9, 10, 11, 12, 13, 14, 15, 16, 17, 18, 19, 20, 21, 22, 23, 24, 25, 26, 27, 28, 29, 30, 31, 32, 33] rfl rfl rfl rfl rfl rfl rfl (fun wx hx => (hx.1.cell (p := ⟨nb, no + i, none⟩) hnb).trans hnc) hS ?_; refine K.fr [5, 6, 7, 8] hS ?_; refine K.wl 9 [11, 12, 13, 14, 15, 16, 17, 18, 19, 20, 21, 22, 23, 24, 25, 26, 27, 28, 29, 30, 31, 32, 33] rfl rfl rfl rfl rfl rfl rfl (fun wx hx => hx.2.cell 4 (by simp)) hS ?_; refine K.fr [10] hS ?_; refine K.wi 11 i (no + i) rfl rfl rfl rfl rfl rfl rfl rfl rfl (by omega) (by omega) (.inr hS) ?_; refine K.wl 12 [13, 14, 15, 16, 17, 18, 19, 20, 21, 22, 23, 24, 25, 26, 27, 28, 29, 30, 31, 32, 33] rfl rfl rfl rfl rfl rfl rfl (fun wx hx => (hx.1.cell (p := ⟨nb, no + i, none⟩) hnb).trans hnc) hS ?_; refine K.fr [13, 14, 15, 16] hS ?_; refine K.fr [17, 18, 19, 20] hS ?_; refine K.fr [21, 22, 23, 24, 25, 26, 27, 28, 29, 30, 31, 32] hS ?_; refine K.wo 33 ?_; refine WL.pure rfl rfl rfl rfl ?_; refine K.dl ?_; refine WD.done (by kernel_rfl) ?_; refine K.kgo ?_; exact WQ.ret1 rfl rfl ⟨badn (by rw [hok, hnm, decide_eq_false (show ¬ nm.size ≤ 40 by omega), Bool.and_false]; rfl), hS.1⟩
            have hnm1 : isNameB nm = true := by rw [hnm, decide_eq_true (by omega), decide_eq_true (by omega)]; rfl
            by_cases x3 : i = 0
            · skip
              refine K.fr [0] hS ?_; refine K.wl 1 [3, 4, 5, 6, 7, 8, 9, 10, 11, 12, 13, 14, 15, 16, 17, 18, 19, 20, 21, 22, 23, 24, 25, 26, 27, 28, 29, 30, 31, 32, 33] rfl rfl rfl rfl rfl rfl rfl (fun wx hx => hx.2.cell 4 (by simp)) hS ?_; refine K.fr [2] hS ?_; refine K.wi 3 i (no + i) rfl rfl rfl rfl rfl rfl rfl rfl rfl (by omega) (by omega) (.inr hS) ?_; refine K.wl 4 [5, 6, 7, 8, 9, 10, 11, 12, 13, 14, 15, 16, 17, 18, 19, 20, 21, 22, 23, 24, 25, 26, 27, 28, 29, 30, 31, 32, 33] rfl rfl rfl rfl rfl rfl rfl (fun wx hx => (hx.1.cell (p := ⟨nb, no + i, none⟩) hnb).trans hnc) hS ?_; refine K.fr [5, 6, 7, 8] hS ?_; refine K.wl 9 [11, 12, 13, 14, 15, 16, 17, 18, 19, 20, 21, 22, 23, 24, 25, 26, 27, 28, 29, 30, 31, 32, 33] rfl rfl rfl rfl rfl rfl rfl (fun wx hx => hx.2.cell 4 (by simp)) hS ?_; refine K.fr [10] hS ?_; refine K.wi 11 i (no + i) rfl rfl rfl rfl rfl rfl rfl rfl rfl (by omega) (by omega) (.inr hS) ?_; refine K.wl 12 [13, 14, 15, 16, 17, 18, 19, 20, 21, 22, 23, 24, 25, 26, 27, 28, 29, 30, 31, 32, 33] rfl rfl rfl rfl rfl rfl rfl (fun wx hx => (hx.1.cell (p := ⟨nb, no + i, none⟩) hnb).trans hnc) hS ?_; refine K.fr [13, 14, 15, 16] hS ?_; refine K.fr [17, 18, 19, 20] hS ?_; refine K.fr [21, 22, 23, 24, 25, 26, 27, 28, 29, 30, 31, 32] hS ?_; refine K.wo 33 ?_; refine WL.pure rfl rfl rfl rfl ?_; refine K.dl ?_; refine WD.done (by kernel_rfl) ?_; refine K.kgo ?_; refine WQ.again (i + 1) ⟨rfl, rfl, rfl, trivial⟩ ⟨hin, hb2, fun j hj => (Nat.lt_succ_iff_lt_or_eq.1 hj).elim (hall j) (fun e => by rw [e]; rw [hok, hnm1, x3]; rfl)⟩ (by show v.names.length - (i + 1) < v.names.length - i; omega)
            have hw : IntKind.i64.wrap ((i : Int) - 1) = ((i - 1 : Nat) : Int) := by rw [IntWalk.i64_in _ (by omega)]; omega
            cases hlt : Op.bytesLess pm.toList nm.toList with
            | true =>
              rw [hlt] at hleq hok; refine K.fr [0] hS ?_; refine K.wl 1 [3, 4, 5, 6, 7, 8, 9, 10, 11, 12, 13, 14, 15, 16, 17, 18, 19, 20, 21, 22, 23, 24, 25, 26, 27, 28, 29, 30, 31, 32, 33] rfl rfl rfl rfl rfl rfl rfl (fun wx hx => hx.2.cell 4 (by simp)) hS ?_; refine K.fr [2] hS ?_; refine K.wi 3 i (no + i) rfl rfl rfl rfl rfl rfl rfl rfl rfl (by omega) (by omega) (.inr hS) ?_; refine K.wl 4 [5, 6, 7, 8, 9, 10, 11, 12, 13, 14, 15, 16, 17, 18, 19, 20, 21, 22, 23, 24, 25, 26, 27, 28, 29, 30, 31, 32, 33] rfl rfl rfl rfl rfl rfl rfl (fun wx hx => (hx.1.cell (p := ⟨nb, no + i, none⟩) hnb).trans hnc) hS ?_; refine K.fr [5, 6, 7, 8] hS ?_; refine K.wl 9 [11, 12, 13, 14, 15, 16, 17, 18, 19, 20, 21, 22, 23, 24, 25, 26, 27, 28, 29, 30, 31, 32, 33] rfl rfl rfl rfl rfl rfl rfl (fun wx hx => hx.2.cell 4 (by simp)) hS ?_; refine K.fr [10] hS ?_; refine K.wi 11 i (no + i) rfl rfl rfl rfl rfl rfl rfl rfl rfl (by omega) (by omega) (.inr hS) ?_; refine K.wl 12 [13, 14, 15, 16, 17, 18, 19, 20, 21, 22, 23, 24, 25, 26, 27, 28, 29, 30, 31, 32, 33] rfl rfl rfl rfl rfl rfl rfl (fun wx hx => (hx.1.cell (p := ⟨nb, no + i, none⟩) hnb).trans hnc) hS ?_; refine K.fr [13, 14, 15, 16] hS ?_; refine K.fr [17, 18, 19, 20] hS ?_; refine K.wl 21 [23, 24, 31, 32, 33] rfl rfl rfl rfl rfl rfl rfl (fun wx hx => hx.2.cell 4 (by simp)) hS ?_; refine K.fr [22] hS ?_; refine K.wi 23 i (no + i) rfl rfl rfl rfl rfl rfl rfl rfl rfl (by omega) (by omega) (.inr hS) ?_; refine K.wl 24 [31, 32, 33] rfl rfl rfl rfl rfl rfl rfl (fun wx hx => (hx.1.cell (p := ⟨nb, no + i, none⟩) hnb).trans hnc) hS ?_; refine K.fr [25] hS ?_; refine K.wl 26 [29, 30, 31, 32, 33] rfl rfl rfl rfl rfl rfl rfl (fun wx hx => hx.2.cell 4 (by simp)) hS ?_; refine K.fr [27, 28] hS ?_; refine K.wi 29 (i - 1) (no + (i - 1)) rfl rfl rfl rfl rfl rfl rfl rfl (by omega) (by omega) (by omega) (.inr hS) ?_; refine K.wl 30 [31, 32, 33] rfl rfl rfl rfl rfl rfl rfl (fun wx hx => (hx.1.cell (p := ⟨nb, no + (i - 1), none⟩) hnb).trans hnp) hS ?_; refine K.fr [31, 32] hS ?_; refine K.wo 33 ?_; refine WL.pure rfl rfl rfl rfl ?_; refine K.dl ?_; refine WD.done (by kernel_rfl) ?_; refine K.kgn ?_; refine WC.as 215 (.bool false) rfl (congrArg Value.bool hleq) ?_; refine K.kgo ?_; refine WQ.again (i + 1) ⟨rfl, rfl, rfl, trivial⟩ ⟨hin, hb2, fun j hj => (Nat.lt_succ_iff_lt_or_eq.1 hj).elim (hall j) (fun e => by rw [e]; rw [hok, hnm1]; simp)⟩ (by show v.names.length - (i + 1) < v.names.length - i; omega)
            | false =>
              rw [hlt] at hleq hok; refine K.fr [0] hS ?_; refine K.wl 1 [3, 4, 5, 6, 7, 8, 9, 10, 11, 12, 13, 14, 15, 16, 17, 18, 19, 20, 21, 22, 23, 24, 25, 26, 27, 28, 29, 30, 31, 32, 33] rfl rfl rfl rfl rfl rfl rfl (fun wx hx => hx.2.cell 4 (by simp)) hS ?_; refine K.fr [2] hS ?_; refine K.wi 3 i (no + i) rfl rfl rfl rfl rfl rfl rfl rfl rfl (by omega) (by omega) (.inr hS) ?_; refine K.wl 4 [5, 6, 7, 8, 9, 10, 11, 12, 13, 14, 15, 16, 17, 18, 19, 20, 21, 22, 23, 24, 25, 26, 27, 28, 29, 30, 31, 32, 33] rfl rfl rfl rfl rfl rfl rfl (fun wx hx => (hx.1.cell (p := ⟨nb, no + i, none⟩) hnb).trans hnc) hS ?_; refine K.fr [5, 6, 7, 8] hS ?_; refine K.wl 9 [11, 12, 13, 14, 15, 16, 17, 18, 19, 20, 21, 22, 23, 24, 25, 26, 27, 28, 29, 30, 31, 32, 33] rfl rfl rfl rfl rfl rfl rfl (fun wx hx => hx.2.cell 4 (by simp)) hS ?_; refine K.fr [10] hS ?_; refine K.wi 11 i (no + i) rfl rfl rfl rfl rfl rfl rfl rfl rfl (by omega) (by omega) (.inr hS) ?_; refine K.wl 12 [13, 14, 15, 16, 17, 18, 19, 20, 21, 22, 23, 24, 25, 26, 27, 28, 29, 30, 31, 32, 33] rfl rfl rfl rfl rfl rfl rfl (fun wx hx => (hx.1.cell (p := ⟨nb, no + i, none⟩) hnb).trans hnc) hS ?_; refine K.fr [13, 14, 15, 16] hS ?_; refine K.fr [17, 18, 19, 20] hS ?_; refine K.wl 21 [23, 24, 31, 32, 33] rfl rfl rfl rfl rfl rfl rfl (fun wx hx => hx.2.cell 4 (by simp)) hS ?_; refine K.fr [22] hS ?_; refine K.wi 23 i (no + i) rfl rfl rfl rfl rfl rfl rfl rfl rfl (by omega) (by omega) (.inr hS) ?_; refine K.wl 24 [31, 32, 33] rfl rfl rfl rfl rfl rfl rfl (fun wx hx => (hx.1.cell (p := ⟨nb, no + i, none⟩) hnb).trans hnc) hS ?_; refine K.fr [25] hS ?_; refine K.wl 26 [29, 30, 31, 32, 33] rfl rfl rfl rfl rfl rfl rfl (fun wx hx => hx.2.cell 4 (by simp)) hS ?_; refine K.fr [27, 28] hS ?_; refine K.wi 29 (i - 1) (no + (i - 1)) rfl rfl rfl rfl rfl rfl rfl rfl (by omega) (by omega) (by omega) (.inr hS) ?_; refine K.wl 30 [31, 32, 33] rfl rfl rfl rfl rfl rfl rfl (fun wx hx => (hx.1.cell (p := ⟨nb, no + (i - 1), none⟩) hnb).trans hnp) hS ?_; refine K.fr [31, 32] hS ?_; refine K.wo 33 ?_; refine WL.pure rfl rfl rfl rfl ?_; refine K.dl ?_; refine WD.done (by kernel_rfl) ?_; refine K.kgn ?_; refine WC.as 215 (.bool true) rfl (congrArg Value.bool hleq) ?_; refine K.kgo ?_; exact WQ.ret1 rfl rfl ⟨badn (by rw [hok, hnm1, decide_eq_false x3]; rfl), hS.1⟩
          · obtain rfl : i = v.names.length := by omega
            have hff : fieldsB v = true := hfi.2 ⟨hall, a5⟩; have h0 : shp v = 0 := shp0 hform (by have := hEt hE1; omega) (by omega) (fun _ => hff); have hchk : chk (m + 1) v = firstBad (v.kids.map (chk m)) := by
              conv => lhs; unfold chk
              rw [if_pos h0]
            clear hfi hall nr nsz; refine K.kgl ?_; have hb1 := hbz; refine WC.loop (fun i : Nat => [(1, .int .i64 d), (2, .pointer (some ⟨g, 0, none⟩)), (8, .int .i64 i)]) (fun i w' => i ≤ v.kids.length ∧ Below w1.heap.size w1 w' ∧ ∀ j, j < i → chk m (v.kids.getD j noV) = 0) (fun i => v.kids.length - i) 0 ⟨rfl, rfl, rfl, trivial⟩ ⟨Nat.zero_le _, hb1, fun j hj => absurd hj (by omega)⟩ ?_; clear hb1 c0 c1 c2 c3 c4 c5; rintro i wr ⟨hi, hbr, hall⟩; have hgw : g < w1.heap.size := hR.lt; have c5 : wr.cell? ⟨g, 5, none⟩ = some (.slice sp v.kids.length cap) := (hR.below hbr hgw).cell 5 (by simp); have hbelr : Below w.heap.size w wr := hbel.trans (hbr.mono hbel.size)
            by_cases hik : i < v.kids.length
            · obtain ⟨kb, ko, rfl, hkb, hcells⟩ := hrow (by omega)
              obtain ⟨c, hc6, hci, hcr⟩ := hcells i hik; clear hrow hcells; have hcr' : wr.rangeAt kb (ko + i * 6) c := fun j u hu => by rw [hbelr.cell (p := ⟨kb, ko + i * 6 + j, none⟩) hkb]; exact hcr j u hu
              refine K.kgl ?_; refine WL.idx i (ko + i * 6) rfl rfl rfl rfl rfl rfl rfl rfl hik rfl ?_; refine WL.loadMid rfl rfl rfl rfl rfl rfl hcr' hc6 ?_; refine K.kgo ?_; refine WL.call rfl rfl rfl rfl rfl Try.func79 rfl (by kernel_rfl) (ih (d + 1) (hci.below hbelr) hd) ?_; rintro e w4 ⟨rfl, hb4⟩; refine ⟨_, rfl, ?_⟩; have hb4' : Below w1.heap.size w1 w4 := hbr.trans (hb4.mono hbr.size)
              by_cases h0 : chk m (v.kids.getD i noV) = 0
              · refine K.kgo ?_
                refine WQ.again (i + 1) ⟨rfl, rfl, rfl, trivial⟩ ⟨hik, hb4', fun j hj => (Nat.lt_succ_iff_lt_or_eq.1 hj).elim (hall j) (fun e => by rw [e]; exact h0)⟩ (by show v.kids.length - (i + 1) < v.kids.length - i; omega)
              · have hfb : chk (m + 1) v = chk m (v.kids.getD i noV) := by
                  rw [hchk, firstBad_take (i := i) (by rw [List.length_map]; exact hik) (fun j hj => by rw [chk_map m v.kids j (by omega)]; exact hall j hj) (by rw [chk_map m v.kids i hik]; exact h0), chk_map m v.kids i hik]
                refine K.kgo ?_; exact WQ.ret1 rfl rfl ⟨ret_i64 hfb.symm, hbel.trans (hb4'.mono hbel.size)⟩
            · obtain rfl : i = v.kids.length := by omega
              refine K.kgl ?_; refine WQ.ret1 rfl rfl ⟨ret_i64 ?_, hbelr⟩; rw [hchk]; exact (firstBad_all fun j hj => by rw [List.length_map] at hj; rw [chk_map m v.kids j hj]; exact hall j hj).symm
        · have hff : fieldsB v = false := by cases h : fieldsB v with | false => rfl | true => exact (a5 (hfi.1 h).2).elim
          refine K.kgl ?_; exact WQ.ret1 rfl rfl ⟨ret_i64 (chk_bad (shp3 hff) (by decide)).symm, hbel⟩
    · skip
      refine K.kgl ?_; exact WQ.ret1 rfl rfl (bad3 (by rw [hfc]; simp [formC, *]))
  · skip
    refine K.kgl ?_; exact WQ.ret1 rfl rfl (bad3 (by rw [hfc]; simp [formC, *]))

theorem rcheck_any : ∀ {f : Nat} {w : World} {v : V} {cs : List Value} (m : Nat) (d : Int), IsV f w v cs → m ≤ 16 → d = 17 - (m : Int) →
    Calls Try.prog 79 #[.agg cs.toArray, .int .i64 d] w fun e w' => e = .returned (.int .i64 (chk m v)) ∧ Below w.heap.size w w'
  | 0, _, _, _, _, _, h, _, _ => h.elim
  | f + 1, w, v, cs, 0, d, hv, _, hd => by
    refine enter (args := [.agg cs.toArray, .int .i64 d]) Try.func79 rfl Try.ntmps79 rfl ?_; have hd1 : 16 < d := by omega
    refine K.kgo ?_; refine WL.box rfl rfl rfl rfl rfl fun g w1 hf => ?_; refine K.kgo ?_; exact WQ.ret1 rfl rfl ⟨rfl, hf.below⟩
  | f + 1, w, v, cs, m + 1, d, hv, hm, hd => by
    have ih := fun {w : World} {v : V} {cs : List Value} (d : Int) (h1 : IsV f w v cs) (h2 : d = 17 - (m : Int)) => @rcheck_any f w v cs m d h1 (by omega) h2; have hd1 : d ≤ 16 := by omega
    have hd0 : 0 ≤ d := by omega
    by_cases q1 : v.k = 1
    · exact rchk_k1 hv q1 hd1 hd0
    by_cases q2 : v.k = 2
    · exact rchk_k2 hv q2 hd1 hd0
    by_cases q3 : v.k = 3
    · exact rchk_k3 hv q3 hd1 hd0
    by_cases q4 : v.k = 4
    · exact rchk_k4 hv q4 hd1 hd0
    by_cases q5 : v.k = 5
    · exact rchk_k5 hv q5 hd1 hd0
    by_cases q67 : v.k = 6 ∨ v.k = 7
    · exact rchk_k67 hv q67 hd1 hd0
    by_cases q8 : v.k = 8
    · exact rchk_k8 ih (by omega) hv q8 hd1 hd0
    by_cases q9 : v.k = 9
    · exact rchk_k9 ih (by omega) hv q9 hd1 hd0
    exact rchk_kx hv (by omega) hd1 hd0
theorem rCheck_any {f : Nat} {w : World} {v : V} {cs : List Value} (h : IsV f w v cs) :
    Calls Try.prog 66 #[.agg cs.toArray] w fun e w' => e = .returned (.int .i64 (chk 16 v)) ∧ Below w.heap.size w w' := by
  refine enter (args := [.agg cs.toArray]) Try.func66 rfl Try.ntmps66 rfl ?_; refine K.kgo ?_; refine WL.box rfl rfl rfl rfl rfl fun g w1 hf => ?_; have hf' : Fresh w g w1 60 cs := hf; refine K.kgo ?_; refine WL.loadMid rfl rfl rfl rfl rfl rfl (VBlk.rangeAt hf'.blk) h.len ?_; refine WL.call rfl rfl rfl rfl rfl Try.func79 rfl (by kernel_rfl) (rcheck_any 16 1 (h.below hf'.below) (by omega) (by omega)) ?_; rintro e w2 ⟨rfl, hb2⟩; refine ⟨_, rfl, ?_⟩; refine K.kgo ?_; exact WQ.ret1 rfl rfl ⟨rfl, hf'.below.trans (hb2.mono hf'.below.size)⟩
end K
end Go.Proofs.Ytdkkaliiofcflaa

namespace Go.Proofs.Ytdkkaliiofcflaa
open Go.RowKit
namespace K
set_option maxHeartbeats 1000000 in
theorem rreadU_any {w : World} {v : Value} {l : List Int} (hs : Sl .u8 w v l) (hb : Byt l) :
    Calls Try.prog 75 #[v] w fun e w' => e = .returned (.tuple (ruV l).toArray) ∧ w' = w := by
  refine enter (args := [v]) Try.func75 rfl Try.ntmps75 rfl ?_; have hs0 := hs; obtain ⟨sp, cap, rfl, hc1, hc2, -, -⟩ := hs; refine K.kgo ?_; refine WC.loop (fun i : Nat × Int => [(0, .slice sp l.length cap), (5, .int .u64 i.2), (6, .int .i64 i.1)])
    (fun i w' => w' = w ∧ ((i.1 ≤ 9 ∧ i.1 ≤ l.length ∧ ∃ a : Nat, i.2 = (a : Int) ∧ a < 128 ^ i.1 ∧ rdU l = (rdUF (10 - i.1) (decide (0 < i.1)) (l.drop i.1)).bind fun v r => .ok (a + 128 ^ i.1 * v) r) ∨ (i.1 = 10 ∧ rdU l = .bad 3))) (fun i => 10 - i.1) (0, 0) ⟨rfl, rfl, rfl, trivial⟩
    ⟨rfl, .inl ⟨by omega, by omega, 0, rfl, by simp, by
      show rdUF 10 false l = _
      cases h : rdUF 10 false l with
      | ok a r => simp [Rd.bind, h]
      | bad e => simp [Rd.bind, h]⟩⟩ ?_
  rintro ⟨i, vz⟩ wr ⟨rfl, hW⟩; simp only at hW ⊢; rcases hW with ⟨hi9, hil, a, rfl, ha, hR⟩ | ⟨rfl, hR⟩
  case inr =>
    have hfin : ruV l = [.int .u64 0, .int .i64 0, .int .i64 3] := by unfold ruV; rw [hR]
    refine K.kgo ?_; refine WQ.ret3 rfl rfl rfl rfl ⟨by rw [hfin], rfl⟩
  by_cases hik : i < l.length
  · have hdr : l.drop i = nth l i :: l.drop (i + 1) := by rw [List.drop_eq_getElem_cons hik]; simp [nth, hik]
    have hc := hb (nth l i) (by unfold nth; simp [hik]); rw [hdr] at hR; generalize hcc : nth l i = c at hR hc; rw [show 10 - i = (9 - i) + 1 by omega] at hR; unfold rdUF at hR
    by_cases hbad : (9 - i = 0 ∧ 1 < c) ∨ (decide (0 < i) = true ∧ c = 0)
    · rw [if_pos hbad] at hR
      have hfin : ruV l = [.int .u64 0, .int .i64 0, .int .i64 3] := by unfold ruV; rw [hR]; rfl
      by_cases h1 : i = 9
      · subst h1
        by_cases h2 : 127 < c
        · refine K.kgo ?_
          refine WL.idxI 9 rfl rfl rfl rfl rfl rfl hs0 rfl rfl hik fun p hp => ?_; rw [hcc] at hp; refine K.kgl ?_; refine WL.idxI 9 rfl rfl rfl rfl rfl rfl hs0 rfl rfl hik fun p hp => ?_; rw [hcc] at hp; refine K.kgl ?_; refine WQ.again (10, _) ⟨rfl, rfl, rfl, trivial⟩ ⟨rfl, .inr ⟨rfl, hR⟩⟩ (by show 10 - 10 < 10 - 9; omega)
        · by_cases h3 : 1 < c
          · refine K.kgo ?_
            refine WL.idxI 9 rfl rfl rfl rfl rfl rfl hs0 rfl rfl hik fun p hp => ?_; rw [hcc] at hp; refine K.kgl ?_; refine WL.idxI 9 rfl rfl rfl rfl rfl rfl hs0 rfl rfl hik fun p hp => ?_; rw [hcc] at hp; refine K.kgl ?_; refine WL.idxI 9 rfl rfl rfl rfl rfl rfl hs0 rfl rfl hik fun p hp => ?_; rw [hcc] at hp; refine K.kgl ?_; refine WQ.ret3 rfl rfl rfl rfl ⟨by rw [hfin], rfl⟩
          · have hc0 : c = 0 := by simp at hbad; omega
            refine K.kgo ?_; refine WL.idxI 9 rfl rfl rfl rfl rfl rfl hs0 rfl rfl hik fun p hp => ?_; rw [hcc] at hp; refine K.kgl ?_; refine WL.idxI 9 rfl rfl rfl rfl rfl rfl hs0 rfl rfl hik fun p hp => ?_; rw [hcc] at hp; refine K.kgl ?_; refine WL.idxI 9 rfl rfl rfl rfl rfl rfl hs0 rfl rfl hik fun p hp => ?_; rw [hcc] at hp; refine K.kgl ?_; refine WL.idxI 9 rfl rfl rfl rfl rfl rfl hs0 rfl rfl hik fun p hp => ?_; rw [hcc] at hp; refine K.kgl ?_; refine WQ.ret3 rfl rfl rfl rfl ⟨by rw [hfin], rfl⟩
      · have hc0 : c = 0 := by simp at hbad; omega
        have hi0 : 0 < i := by simp at hbad; omega
        refine K.kgo ?_; refine WL.idxI i rfl rfl rfl rfl rfl rfl hs0 rfl rfl hik fun p hp => ?_; rw [hcc] at hp; refine K.kgl ?_; refine WL.idxI i rfl rfl rfl rfl rfl rfl hs0 rfl rfl hik fun p hp => ?_; rw [hcc] at hp; refine K.kgl ?_; refine WL.idxI i rfl rfl rfl rfl rfl rfl hs0 rfl rfl hik fun p hp => ?_; rw [hcc] at hp; refine K.kgl ?_; refine WQ.ret3 rfl rfl rfl rfl ⟨by rw [hfin], rfl⟩
    · rw [if_neg hbad] at hR
      simp only [decide_eq_true_eq, not_or, not_and] at hbad; have e1 : bits .and .u8 c 127 = ((c.toNat % 128 : Nat) : Int) := by
        have := and127b c.toNat (by omega)
        rwa [Int.toNat_of_nonneg hc.1] at this
      have hle : 128 ^ i ≤ 128 ^ 9 := Nat.pow_le_pow_right (by decide) hi9; have hcm : c.toNat % 128 * 128 ^ i < 18446744073709551616 := by
        by_cases h9 : i = 9
        · subst h9
          have : c ≤ 1 := by have := hbad.1 (by omega); omega
          have : c.toNat % 128 ≤ 1 := by omega
          generalize c.toNat % 128 = q at this; omega
        · have : 128 ^ i ≤ 128 ^ 8 := Nat.pow_le_pow_right (by decide) (by omega)
          have h2 : c.toNat % 128 < 128 := Nat.mod_lt _ (by decide); generalize c.toNat % 128 = q at h2; generalize 128 ^ i = r at this; have := Nat.mul_le_mul (Nat.le_of_lt h2) this; omega
      have e2 : IntKind.u64.wrap (((c.toNat % 128 : Nat) : Int) * ((2 ^ min (7 * i) IntKind.u64.bits : Nat) : Int)) = ((c.toNat % 128 * 128 ^ i : Nat) : Int) := by
        rw [show min (7 * i) IntKind.u64.bits = 7 * i from Nat.min_eq_left (by show 7 * i ≤ 64; omega), Nat.pow_mul, ← Int.natCast_mul, IntKind.wrap_u64]; generalize c.toNat % 128 * 128 ^ i = q at hcm; omega
      have e3 := or_shl a (c.toNat % 128) i ha hcm (by omega); have e5 : IntKind.u64.wrap ((c.toNat % 128 : Nat) : Int) = ((c.toNat % 128 : Nat) : Int) := by rw [IntKind.wrap_u64]; omega
      have e6 : 7 * i % (2 ^ IntKind.u64.bits : Int).natAbs = 7 * i := by
        rw [show (2 ^ IntKind.u64.bits : Int).natAbs = 18446744073709551616 from rfl]; omega
      have E : bits .or .u64 (a : Int) (IntKind.u64.wrap (IntKind.u64.wrap (bits .and .u8 c 127) * ((2 ^ min (7 * i % (2 ^ IntKind.u64.bits : Int).natAbs) IntKind.u64.bits : Nat) : Int))) = ((a + 128 ^ i * (c.toNat % 128) : Nat) : Int) := by
        rw [e6, e1, e5, e2, e3]
      clear e1 e2 e3 e5 e6
      by_cases hc8 : c < 128
      · rw [if_pos hc8] at hR
        have hfin : ruV l = [.int .u64 ((a + 128 ^ i * (c.toNat % 128) : Nat) : Int), .int .i64 ((i : Int) + 1), .int .i64 0] := by
          unfold ruV; rw [hR]; simp only [Rd.bind, List.length_drop]; rw [show c.toNat % 128 = c.toNat by omega, show ((l.length - (l.length - (i + 1)) : Nat) : Int) = (i : Int) + 1 by omega]
        have hcase : (i = 9 ∧ ¬ c = 0 ∧ ¬ 1 < c) ∨ (0 < i ∧ ¬ i = 9 ∧ ¬ c = 0) ∨ i = 0 := by omega
        rcases hcase with ⟨h9, hc0, hc1⟩ | ⟨hi0, h9, hc0⟩ | h9
        · refine K.kgo ?_
          refine WL.idxI i rfl rfl rfl rfl rfl rfl hs0 rfl rfl hik fun p hp => ?_; rw [hcc] at hp; refine K.kgl ?_; refine WL.idxI i rfl rfl rfl rfl rfl rfl hs0 rfl rfl hik fun p hp => ?_; rw [hcc] at hp; refine K.kgl ?_; refine WL.idxI i rfl rfl rfl rfl rfl rfl hs0 rfl rfl hik fun p hp => ?_; rw [hcc] at hp; refine K.kgl ?_; refine WL.idxI i rfl rfl rfl rfl rfl rfl hs0 rfl rfl hik fun p hp => ?_; rw [hcc] at hp; refine K.kgl ?_; refine WQ.ret3 rfl rfl rfl rfl ⟨by rw [hfin, ← E], rfl⟩
        · refine K.kgo ?_
          refine WL.idxI i rfl rfl rfl rfl rfl rfl hs0 rfl rfl hik fun p hp => ?_; rw [hcc] at hp; refine K.kgl ?_; refine WL.idxI i rfl rfl rfl rfl rfl rfl hs0 rfl rfl hik fun p hp => ?_; rw [hcc] at hp; refine K.kgl ?_; refine WL.idxI i rfl rfl rfl rfl rfl rfl hs0 rfl rfl hik fun p hp => ?_; rw [hcc] at hp; refine K.kgl ?_; refine WQ.ret3 rfl rfl rfl rfl ⟨by rw [hfin, ← E], rfl⟩
        · refine K.kgo ?_
          refine WL.idxI i rfl rfl rfl rfl rfl rfl hs0 rfl rfl hik fun p hp => ?_; rw [hcc] at hp; refine K.kgl ?_; refine WL.idxI i rfl rfl rfl rfl rfl rfl hs0 rfl rfl hik fun p hp => ?_; rw [hcc] at hp; refine K.kgl ?_; refine WQ.ret3 rfl rfl rfl rfl ⟨by rw [hfin, ← E], rfl⟩
      · rw [if_neg hc8] at hR
        have h9 : ¬ i = 9 := fun h => by have := hbad.1 (by omega); omega
        have hc0 : ¬ c = 0 := by omega
        refine K.kgo ?_; refine WL.idxI i rfl rfl rfl rfl rfl rfl hs0 rfl rfl hik fun p hp => ?_; rw [hcc] at hp; refine K.kgl ?_; refine WL.idxI i rfl rfl rfl rfl rfl rfl hs0 rfl rfl hik fun p hp => ?_; rw [hcc] at hp; refine K.kgl ?_; refine WQ.again (i + 1, ((a + 128 ^ i * (c.toNat % 128) : Nat) : Int)) ⟨rfl, congrArg (fun z => some (Value.int .u64 z)) E, rfl, trivial⟩ ⟨rfl, .inl ⟨by show i + 1 ≤ 9; omega, hik, _, rfl, ?_, ?_⟩⟩ (by show 10 - (i + 1) < 10 - i; omega)
        · show a + 128 ^ i * (c.toNat % 128) < 128 ^ (i + 1)
          have h2 : c.toNat % 128 < 128 := Nat.mod_lt _ (by decide); rw [Nat.pow_succ]; generalize c.toNat % 128 = q at h2; have := Nat.mul_le_mul_left (128 ^ i) (show q + 1 ≤ 128 by omega); rw [Nat.mul_add] at this; omega
        · show rdU l = (rdUF (10 - (i + 1)) (decide (0 < i + 1)) (l.drop (i + 1))).bind fun v r => .ok (a + 128 ^ i * (c.toNat % 128) + 128 ^ (i + 1) * v) r
          rw [hR, show 10 - (i + 1) = 9 - i by omega, show decide (0 < i + 1) = true from decide_eq_true (by omega)]; cases rdUF (9 - i) true (l.drop (i + 1)) with
          | bad e => rfl
          | ok v r =>
            simp only [Rd.bind]; rw [show c.toNat % 128 = c.toNat - 128 by omega, Nat.pow_succ, Nat.mul_add, Nat.mul_assoc (128 ^ i) 128 v, Nat.add_assoc]
  · obtain rfl : i = l.length := by omega
    rw [List.drop_length, show 10 - l.length = (9 - l.length) + 1 by omega] at hR; have hfin : ruV l = [.int .u64 0, .int .i64 0, .int .i64 2] := by unfold ruV; rw [hR]; rfl
    refine K.kgo ?_; refine WQ.ret3 rfl rfl rfl rfl ⟨by rw [hfin], rfl⟩
theorem rzag_any (u : Nat) (h : u < 18446744073709551616) (w : World) : Calls Try.prog 61 #[.int .u64 u] w fun e w' => e = .returned (.int .i64 (zag u)) ∧ w' = w := by
  refine enter (args := [.int .u64 u]) Try.func61 rfl Try.ntmps61 rfl ?_; have e1 : Int.tmod (u : Int) 2 = ((u % 2 : Nat) : Int) := by rw [Int.tmod_eq_emod_of_nonneg (by omega)]; omega
  have e2 : Int.tdiv (u : Int) 2 = ((u / 2 : Nat) : Int) := by rw [Int.tdiv_eq_ediv_of_nonneg (by omega)]; omega
  have e3 : IntKind.u64.wrap (Int.tmod (u : Int) 2) = ((u % 2 : Nat) : Int) := by rw [e1, IntKind.wrap_u64]; omega
  have e4 : IntKind.i64.wrap (IntKind.u64.wrap (Int.tdiv (u : Int) 2)) = ((u / 2 : Nat) : Int) := by rw [e2, IntKind.wrap_u64, IntKind.wrap_i64]; omega
  have e5 : IntKind.i64.wrap (-((u / 2 : Nat) : Int)) = -((u / 2 : Nat) : Int) := by rw [IntKind.wrap_i64]; omega
  have e6 : IntKind.i64.wrap (-((u / 2 : Nat) : Int) - 1) = -((u / 2 : Nat) : Int) - 1 := by rw [IntKind.wrap_i64]; omega
  unfold zag
  by_cases hu : u % 2 = 0
  · rw [if_pos hu]
    refine K.kgo ?_; exact WQ.ret1 rfl rfl ⟨congrArg (fun z => Ending.returned (Value.int .i64 z)) e4, rfl⟩
  · rw [if_neg hu]
    refine K.kgo ?_; exact WQ.ret1 rfl rfl ⟨congrArg (fun z => Ending.returned (Value.int .i64 z)) (by rw [e4]; omega), rfl⟩
end K
end Go.Proofs.Ytdkkaliiofcflaa

namespace Go.Proofs.Ytdkkaliiofcflaa
open Go.RowKit
namespace K
structure RS7 (B : Nat) (w : World) (rb : Nat) (l : List Int) (e : Int) : Prop where
  rlt : rb < B
  byt : Byt l
  ex : ∃ sp cap, VBlk 128 w rb [.slice sp l.length cap, .int .i64 e] ∧ SlB (fun b => b < B ∧ b ≠ rb) w (.slice sp l.length cap) l
theorem RS7.keep {B : Nat} {w w' : World} {rb : Nat} {l : List Int} {e : Int} (h : RS7 B w rb l e) {K : Nat → Prop} (hk : Keep K w w') (hK : ∀ b, b < B → K b) : RS7 B w' rb l e := by
  obtain ⟨sp, cap, h1, h2⟩ := h.ex; exact ⟨h.rlt, h.byt, sp, cap, h1.keep hk (hK _ h.rlt), h2.keep hk fun b hb => hK b hb.1⟩
theorem RS7.setE {B : Nat} {w : World} {rb : Nat} {l : List Int} {e : Int} (h : RS7 B w rb l e) (x : Int) : RS7 B (w.setCell ⟨rb, 1, none⟩ (.int .i64 x)) rb l x := by
  obtain ⟨sp, cap, h1, h2⟩ := h.ex; exact ⟨h.rlt, h.byt, sp, cap, h1.set 1 (.int .i64 x), h2.keep (K := fun b => b ≠ rb) ((Keep.refl _ w).setCell (fun hk => hk rfl) _) fun b hb => hb.2⟩
theorem RS7.setL {B : Nat} {w : World} {rb : Nat} {l l' : List Int} {e : Int} {v' : Value} (h : RS7 B w rb l e) (hb : Byt l') (hv : SlB (fun b => b < B ∧ b ≠ rb) w v' l') : RS7 B (w.setCell ⟨rb, 0, none⟩ v') rb l' e := by
  obtain ⟨sp, cap, h1, h2⟩ := h.ex; obtain ⟨sp', cap', rfl, -⟩ := hv.sl; exact ⟨h.rlt, hb, sp', cap', h1.set 0 (.slice sp' l'.length cap'), hv.keep (K := fun b => b ≠ rb) ((Keep.refl _ w).setCell (fun hk => hk rfl) _) fun b hb => hb.2⟩
variable {B rb : Nat} {w : World} {l : List Int} {e : Int}
theorem one7_any (h : RS7 B w rb l e) :
    Calls Try.prog 83 #[.pointer (some ⟨rb, 0, none⟩)] w fun r w' => ∃ c l' e', r = .returned (.int .u8 c) ∧ 0 ≤ c ∧ c ≤ 255 ∧ RS7 B w' rb l' e' ∧ KeepR rb w w' ∧ Out rdB l e c l' e' ∧ (e' = 0 ∨ c = 0) := by
  refine enter (args := [.pointer (some ⟨rb, 0, none⟩)]) Try.func83 rfl Try.ntmps83 rfl ?_; obtain ⟨sp, cap, h1, h2⟩ := h.ex; refine K.kgo ?_; refine WL.load rfl rfl rfl rfl rfl rfl (h1.cell 1 (by simp)) ?_
  by_cases he : e = 0
  · subst he
    cases l with
    | nil =>
      simp only [List.length_nil] at h1 h2; refine K.kgo ?_; refine WL.load rfl rfl rfl rfl rfl rfl (h1.cell 0 (by simp)) ?_; refine K.kgo ?_; refine WL.store rfl rfl rfl rfl rfl rfl (by kernel_rfl) (h1.cell 1 (by simp)) (h1.free 1) ?_; have hr := h.setE 2; have hk : KeepR rb w (w.setCell ⟨rb, 1, none⟩ (.int .i64 2)) := KeepR.set _ _ _ _; generalize w.setCell ⟨rb, 1, none⟩ (.int .i64 2) = w2 at hr hk ⊢; obtain ⟨sp2, cap2, h3, h4⟩ := hr.ex; refine K.kgo ?_; refine WL.load rfl rfl rfl rfl rfl rfl (h3.cell 1 (by simp)) ?_; refine K.kgo ?_; exact WQ.ret1 rfl rfl ⟨0, [], 2, rfl, by omega, by omega, hr, hk, ⟨Nat.le_refl _, fun h => absurd rfl h, fun _ => ⟨rfl, by omega⟩⟩, .inr rfl⟩
    | cons c r =>
      have hc := h.byt c (by simp); have hlen : ((c :: r).length : Int) = (r.length : Int) + 1 := by simp
      refine K.kgo ?_; refine WL.load rfl rfl rfl rfl rfl rfl (h1.cell 0 (by simp)) ?_; refine K.kgo ?_; refine WL.load rfl rfl rfl rfl rfl rfl (h1.cell 1 (by simp)) ?_; refine K.kgo ?_; refine WL.load rfl rfl rfl rfl rfl rfl (h1.cell 0 (by simp)) ?_; refine WL.idxI 0 rfl rfl rfl rfl rfl rfl h2.sl rfl rfl (by simp) fun p hp => ?_; refine WL.load rfl rfl rfl rfl rfl rfl hp ?_; refine K.kgo ?_; refine WL.load rfl rfl rfl rfl rfl rfl (h1.cell 0 (by simp)) ?_; refine WL.fromB (z := 1) rfl rfl rfl rfl rfl rfl rfl (by omega) (by omega) h2 fun v' hv' => ?_; have hv : v'.oneCell' = true := by obtain ⟨_, _, rfl, -⟩ := hv'.sl; rfl
      refine K.kgo ?_; refine WL.store rfl rfl rfl rfl rfl hv (by kernel_rfl) (h1.cell 0 (by simp)) (h1.free 0) ?_; refine K.kgo ?_; exact WQ.ret1 rfl rfl ⟨c, r, 0, rfl, hc.1, hc.2, h.setL h.byt.tail hv', KeepR.set _ _ _ _, ⟨by simp, fun h => absurd rfl h, fun _ => ⟨rfl, rfl, rfl⟩⟩, .inl rfl⟩
  · refine K.kgo ?_
    refine WL.load rfl rfl rfl rfl rfl rfl (h1.cell 1 (by simp)) ?_; refine K.kgo ?_; exact WQ.ret1 rfl rfl ⟨0, l, e, rfl, by omega, by omega, h, KeepR.refl _ _, .ofBad he, .inr rfl⟩

theorem number7_any (h : RS7 B w rb l e) :
    Calls Try.prog 84 #[.pointer (some ⟨rb, 0, none⟩)] w fun r w' => ∃ (u : Nat) (l' : List Int) (e' : Int), r = .returned (.int .u64 u) ∧ u < 18446744073709551616 ∧ RS7 B w' rb l' e' ∧ KeepR rb w w' ∧ Out rdU l e u l' e' := by
  refine enter (args := [.pointer (some ⟨rb, 0, none⟩)]) Try.func84 rfl Try.ntmps84 rfl ?_; obtain ⟨sp, cap, h1, h2⟩ := h.ex; refine K.kgo ?_; refine WL.load rfl rfl rfl rfl rfl rfl (h1.cell 1 (by simp)) ?_
  by_cases he : e = 0
  · subst he
    refine K.kgo ?_; refine WL.load rfl rfl rfl rfl rfl rfl (h1.cell 0 (by simp)) ?_; refine WL.call rfl rfl rfl rfl rfl Try.func75 rfl (by kernel_rfl) (rreadU_any h2.sl h.byt) ?_; rintro _ w ⟨rfl, rfl⟩; refine ⟨_, rfl, ?_⟩; unfold ruV; cases hr : rdU l with
    | bad x =>
      have hx := rdUF_bad 10 false l x hr; refine K.kgo ?_; refine WL.store rfl rfl rfl rfl rfl rfl (by kernel_rfl) (h1.cell 1 (by simp)) (h1.free 1) ?_; have hr2 := h.setE x; have hk : KeepR rb w (w.setCell ⟨rb, 1, none⟩ (.int .i64 x)) := KeepR.set _ _ _ _; refine K.kgo ?_; exact WQ.ret1 rfl rfl ⟨0, l, x, rfl, by omega, hr2, hk, Nat.le_refl _, fun h => absurd rfl h, fun _ => by rw [hr]; exact ⟨rfl, by omega⟩⟩
    | ok u r =>
      obtain ⟨hcan, hu⟩ := rdU_can h.byt hr; have hdrop : l.drop (((l.length - r.length : Nat) : Int).toNat) = r := by rw [hcan]; simp
      have hlr : r.length ≤ l.length := by rw [hcan]; simp
      refine K.kgo ?_; refine WL.load rfl rfl rfl rfl rfl rfl (h1.cell 0 (by simp)) ?_; refine K.kgo ?_; refine WL.fromB (z := ((l.length - r.length : Nat) : Int)) rfl rfl rfl rfl rfl rfl rfl (by omega) (by omega) h2 fun v' hv' => ?_; rw [hdrop] at hv'; have hv : v'.oneCell' = true := by obtain ⟨_, _, rfl, -⟩ := hv'.sl; rfl
      refine K.kgo ?_; refine WL.store rfl rfl rfl rfl rfl hv (by kernel_rfl) (h1.cell 0 (by simp)) (h1.free 0) ?_; refine K.kgo ?_; exact WQ.ret1 rfl rfl ⟨u, r, 0, rfl, hu, h.setL (by have := h.byt; rw [hcan] at this; exact this.right) hv', KeepR.set _ _ _ _, hlr, fun h => absurd rfl h, fun _ => by rw [hr]; exact ⟨rfl, rfl, rfl⟩⟩
  · refine K.kgo ?_
    exact WQ.ret1 rfl rfl ⟨0, l, e, rfl, by omega, h, KeepR.refl _ _, .ofBad he⟩

theorem count7_any (h : RS7 B w rb l e) :
    Calls Try.prog 86 #[.pointer (some ⟨rb, 0, none⟩)] w fun r w' => ∃ (u : Nat) (l' : List Int) (e' : Int), r = .returned (.int .i64 u) ∧ u ≤ 65536 ∧ RS7 B w' rb l' e' ∧ KeepR rb w w' ∧ Out rdC l e u l' e' := by
  refine enter (args := [.pointer (some ⟨rb, 0, none⟩)]) Try.func86 rfl Try.ntmps86 rfl ?_; refine K.kgo ?_; refine WL.call rfl rfl rfl rfl rfl Try.func84 rfl (by kernel_rfl) (number7_any h) ?_; rintro _ w2 ⟨u, l2, e2, rfl, hu, hr, hk, ho⟩; refine ⟨_, rfl, ?_⟩; obtain ⟨sp, cap, h1, -⟩ := hr.ex
  by_cases he : e2 = 0
  · subst he
    by_cases hbig : 65536 < u
    · have hr3 := hr.setE 3
      have hk3 : KeepR rb w2 (w2.setCell ⟨rb, 1, none⟩ (.int .i64 3)) := KeepR.set _ _ _ _; refine K.kgo ?_; refine WL.load rfl rfl rfl rfl rfl rfl (h1.cell 1 (by simp)) ?_; refine K.kgo ?_; refine WL.store rfl rfl rfl rfl rfl rfl (by kernel_rfl) (h1.cell 1 (by simp)) (h1.free 1) ?_; generalize w2.setCell ⟨rb, 1, none⟩ (.int .i64 3) = w3 at hr3 hk3 ⊢; obtain ⟨sp3, cap3, h3, -⟩ := hr3.ex; refine K.kgo ?_; refine WL.load rfl rfl rfl rfl rfl rfl (h3.cell 1 (by simp)) ?_; refine K.kgo ?_; refine WQ.ret1 rfl rfl ⟨0, l2, 3, rfl, by omega, hr3, hk.trans hk3, ho.len, fun h0 => absurd (ho.bad h0).symm h0, fun h0 => ?_⟩; have h5 := ho.ok h0; unfold rdC; cases hq : rdU l with
      | bad x => rw [hq] at h5; exact absurd h5.1.symm h5.2
      | ok x r =>
        rw [hq] at h5; obtain ⟨rfl, rfl, -⟩ := h5; simp only [Rd.bind]; rw [if_pos hbig]; exact ⟨rfl, by omega⟩
    · have e8 : IntKind.i64.wrap (u : Int) = (u : Int) := by rw [IntKind.wrap_i64]; omega
      refine K.kgo ?_; refine WL.load rfl rfl rfl rfl rfl rfl (h1.cell 1 (by simp)) ?_; refine K.kgo ?_; refine WL.load rfl rfl rfl rfl rfl rfl (h1.cell 1 (by simp)) ?_; refine K.kgo ?_; refine WQ.ret1 rfl rfl ⟨u, l2, 0, rfl, by omega, hr, hk, ho.len, ho.bad, fun h0 => ?_⟩; have h5 := ho.ok h0; unfold rdC; cases hq : rdU l with
      | bad x => rw [hq] at h5; exact h5
      | ok x r =>
        rw [hq] at h5; obtain ⟨rfl, rfl, -⟩ := h5; simp only [Rd.bind]; rw [if_neg hbig]; simp
  · refine K.kgo ?_
    refine WL.load rfl rfl rfl rfl rfl rfl (h1.cell 1 (by simp)) ?_; refine K.kgo ?_; refine WL.load rfl rfl rfl rfl rfl rfl (h1.cell 1 (by simp)) ?_; refine K.kgo ?_; refine WQ.ret1 rfl rfl ⟨0, l2, e2, rfl, by omega, hr, hk, ho.len, ho.bad, fun h0 => ?_⟩; have h5 := ho.ok h0; unfold rdC; cases hq : rdU l with
    | bad x => rw [hq] at h5; exact h5
    | ok x r => rw [hq] at h5; exact absurd h5.2.2 he
theorem text7_any (h : RS7 B w rb l e) :
    Calls Try.prog 85 #[.pointer (some ⟨rb, 0, none⟩)] w fun r w' => ∃ (s : ByteArray) (l' : List Int) (e' : Int), r = .returned (.string s) ∧ s.size ≤ 65536 ∧ RS7 B w' rb l' e' ∧ KeepR rb w w' ∧ Out rdT l e s l' e' := by
  refine enter (args := [.pointer (some ⟨rb, 0, none⟩)]) Try.func85 rfl Try.ntmps85 rfl ?_; refine K.kgo ?_; refine WL.call rfl rfl rfl rfl rfl Try.func86 rfl (by kernel_rfl) (count7_any h) ?_; rintro _ w2 ⟨u, l2, e2, rfl, hu, hr, hk, ho⟩; refine ⟨_, rfl, ?_⟩; obtain ⟨sp, cap, h1, h2⟩ := hr.ex; have hle := ho.len; refine K.kgo ?_; refine WL.load rfl rfl rfl rfl rfl rfl (h1.cell 1 (by simp)) ?_
  by_cases he : e2 = 0
  · subst he
    by_cases hshort : l2.length < u
    · refine K.kgo ?_
      refine WL.load rfl rfl rfl rfl rfl rfl (h1.cell 0 (by simp)) ?_; refine K.kgo ?_; refine WL.store rfl rfl rfl rfl rfl rfl (by kernel_rfl) (h1.cell 1 (by simp)) (h1.free 1) ?_; have hr3 := hr.setE 2; have hk3 : KeepR rb w2 (w2.setCell ⟨rb, 1, none⟩ (.int .i64 2)) := KeepR.set _ _ _ _; generalize w2.setCell ⟨rb, 1, none⟩ (.int .i64 2) = w3 at hr3 hk3 ⊢; obtain ⟨sp3, cap3, h3, h4⟩ := hr3.ex; refine K.kgo ?_; refine WL.load rfl rfl rfl rfl rfl rfl (h3.cell 1 (by simp)) ?_; refine K.kgo ?_; refine WQ.ret1 rfl rfl ⟨ByteArray.empty, l2, 2, rfl, by decide, hr3, hk.trans hk3, ho.len, fun h0 => absurd (ho.bad h0).symm h0, fun h0 => ?_⟩; have h5 := ho.ok h0; unfold rdT; cases hq : rdC l with
      | bad x => rw [hq] at h5; exact absurd h5.1.symm h5.2
      | ok x r =>
        rw [hq] at h5; obtain ⟨rfl, rfl, -⟩ := h5; simp only [Rd.bind]; rw [if_pos hshort]; exact ⟨rfl, by omega⟩
    · have htl : (l2.take ((u : Int).toNat)) = l2.take u := by simp
      have hdl : (l2.drop ((u : Int).toNat)) = l2.drop u := by simp
      refine K.kgo ?_; refine WL.load rfl rfl rfl rfl rfl rfl (h1.cell 0 (by simp)) ?_; refine K.kgo ?_; refine WL.load rfl rfl rfl rfl rfl rfl (h1.cell 1 (by simp)) ?_; refine K.kgo ?_; refine WL.load rfl rfl rfl rfl rfl rfl (h1.cell 0 (by simp)) ?_; refine K.kgo ?_; refine WL.upto (z := (u : Int)) rfl rfl rfl rfl rfl rfl rfl (by omega) (by omega) h2.sl fun v3 hv3 => ?_; rw [htl] at hv3; refine WL.strOf rfl rfl rfl rfl rfl rfl rfl rfl hv3 ?_; refine K.kgo ?_; refine WL.load rfl rfl rfl rfl rfl rfl (h1.cell 0 (by simp)) ?_; refine K.kgo ?_; refine WL.fromB (z := (u : Int)) rfl rfl rfl rfl rfl rfl rfl (by omega) (by omega) h2 fun v' hv' => ?_; rw [hdl] at hv'; have hv : v'.oneCell' = true := by obtain ⟨_, _, rfl, -⟩ := hv'.sl; rfl
      refine K.kgo ?_; refine WL.store rfl rfl rfl rfl rfl hv (by kernel_rfl) (h1.cell 0 (by simp)) (h1.free 0) ?_; refine K.kgo ?_; refine WQ.ret1 rfl rfl ⟨strOfNums (l2.take u), l2.drop u, 0, rfl, ?_, hr.setL (fun c hc => hr.byt c (List.mem_of_mem_drop hc)) hv', hk.trans (KeepR.set _ _ _ _), by rw [List.length_drop]; omega, fun h0 => absurd (ho.bad h0).symm h0, fun h0 => ?_⟩
      · rw [strOfNums_mk]
        show ((l2.take u).map _).toArray.size ≤ _
        simp
        omega
      · have h5 := ho.ok h0
        unfold rdT; cases hq : rdC l with
        | bad x => rw [hq] at h5; exact absurd h5.1.symm h5.2
        | ok x r =>
          rw [hq] at h5; obtain ⟨rfl, rfl, -⟩ := h5; simp only [Rd.bind]; rw [if_neg hshort, strOfNums_mk]; simp
  · refine K.kgo ?_
    refine WL.load rfl rfl rfl rfl rfl rfl (h1.cell 1 (by simp)) ?_; refine K.kgo ?_; refine WQ.ret1 rfl rfl ⟨ByteArray.empty, l2, e2, rfl, by decide, hr, hk, ho.len, ho.bad, fun h0 => ?_⟩; have h5 := ho.ok h0; unfold rdT; cases hq : rdC l with
    | bad x => rw [hq] at h5; exact h5
    | ok x r => rw [hq] at h5; exact absurd h5.2.2 he
end K
end Go.Proofs.Ytdkkaliiofcflaa

namespace Go.Proofs.Ytdkkaliiofcflaa
open Go.RowKit
namespace K
def ValPost7 (m B rb : Nat) (w : World) (l : List Int) (e : Int) (r : Ending) (w' : World) : Prop :=
  ∃ v cs l' e', r = .returned (.agg cs.toArray) ∧ IsVo (fun b => w.heap.size ≤ b) (m + 1) w' v cs ∧ RS7 B w' rb l' e' ∧ KeepR rb w w' ∧ Out (rdV m) l e v l' e'
abbrev zeroC : List Value := [.int .i64 0, .int .i64 0, .int .i64 0, .string ByteArray.empty, .slice none 0 0, .slice none 0 0]
theorem zero_isVo (O : Nat → Prop) (f : Nat) (w : World) : IsVo O (f + 1) w (.mk 0 0 0 noT [] []) zeroC := isVo_leaf (k := 0) (n := 0) (s := 0) (t := noT) (by omega) (by omega) (by omega) (by decide)
set_option maxHeartbeats 16000000 in
theorem value7_step (m : Nat) (ih : ∀ {B rb : Nat} {w : World} {l : List Int} {e : Int} (d : Int), d = 17 - (m : Int) → RS7 B w rb l e → B ≤ w.heap.size → Calls Try.prog 76 #[.pointer (some ⟨rb, 0, none⟩), .int .i64 d] w (ValPost7 m B rb w l e))
    {B rb : Nat} {w0 : World} {l : List Int} {e : Int} (d : Int) (hd : d = 17 - ((m + 1 : Nat) : Int)) (hm : m + 1 ≤ 16) (h : RS7 B w0 rb l e) (hB0 : B ≤ w0.heap.size) :
    Calls Try.prog 76 #[.pointer (some ⟨rb, 0, none⟩), .int .i64 d] w0 (ValPost7 (m + 1) B rb w0 l e) := by
  refine enter (args := [.pointer (some ⟨rb, 0, none⟩), .int .i64 d]) Try.func76 rfl Try.ntmps76 rfl ?_; refine K.kgo ?_; refine WL.alloc (z := .agg zeroC.toArray) rfl rfl rfl rfl (fun _ => by kernel_rfl) fun gb w1 hf => ?_; have hf' : Fresh w0 gb w1 60 zeroC := hf; clear hf; have hgbe := hf'.eq; have hrB := h.rlt; have h1 : RS7 B w1 rb l e := h.keep (Keep.of_below hf'.below) fun b hb => Nat.lt_of_lt_of_le hb hB0; have hk1 : KeepR rb w0 w1 := KeepR.below hf'.below; have hg1 := hf'.blk; have hsz1 := hf'.size; clear hf'; obtain ⟨sp1, cap1, hc1, -⟩ := h1.ex
  -- the end with nothing
  have hzero : ∀ {wx : World} {l' : List Int} {e' : Int}, RS7 B wx rb l' e' → KeepR rb w0 wx → VBlk 60 wx gb zeroC → Out (rdV (m + 1)) l e (.mk 0 0 0 noT [] []) l' e' → ValPost7 (m + 1) B rb w0 l e (.returned (.agg zeroC.toArray)) (wx.setRow gb zeroC.toArray) := fun {wx l' e'} hr hk _ ho =>
    ⟨.mk 0 0 0 noT [] [], zeroC, l', e', rfl, zero_isVo _ _ _, hr.keep (K := fun b => b ≠ gb) (Keep.setRow (Keep.refl _ wx) (fun hk => hk rfl) _) (fun b hb => by omega), Keep.setRow hk (fun hk => by have := hk.1; omega) _, ho⟩
  refine K.kgo ?_; refine WL.load rfl rfl rfl rfl rfl rfl (hc1.cell 1 (by simp)) ?_
  by_cases he0 : e = 0
  rotate_left
  · refine K.kgo ?_
    refine WL.build zeroC rfl rfl rfl rfl rfl (by kernel_rfl) ?_; refine WL.storeRow rfl rfl rfl rfl rfl rfl hg1 rfl rfl (zero_isVo (fun _ => True) 0 w1).one ?_; refine K.kgo ?_; exact WQ.retC rfl rfl rfl rfl (hg1.setRow zeroC) (hzero h1 hk1 hg1 (.ofBad he0))
  refine K.kgo ?_; refine WL.call rfl rfl rfl rfl rfl Try.func83 rfl (by kernel_rfl) (one7_any h1) ?_; rintro _ w ⟨c, l2, e2, rfl, hc0, hc1b, h2, hk2, ho2, -⟩; refine ⟨_, rfl, ?_⟩; have hg2 := hg1.keep hk2 ⟨hg1.lt, by omega⟩; have hkA : KeepR rb w0 w := hk1.trans hk2; have hszA := hkA.size; have hB : B ≤ w.heap.size := by omega
  have hgb2 := hg2.lt; clear hk1 hk2 h1 hg1 hc1; refine K.kgo ?_; refine WL.build [.int .i64 c, .int .i64 0, .int .i64 0, .string ByteArray.empty, .slice none 0 0, .slice none 0 0] rfl rfl rfl rfl rfl (by kernel_rfl) ?_; refine WL.alloc (z := .agg zeroC.toArray) rfl rfl rfl rfl (fun _ => by kernel_rfl) fun vb w2 hf => ?_; have hf' : Fresh w vb w2 60 zeroC := hf; clear hf; have hvbe := hf'.eq; have hsz2 := hf'.size; have hcv : IsVo (fun _ => True) 1 w2 (.mk c 0 0 noT [] []) [.int .i64 c, .int .i64 0, .int .i64 0, .string ByteArray.empty, .slice none 0 0, .slice none 0 0] := isVo_leaf (k := c) (n := 0) (s := 0) (t := noT) (by omega) (by omega) (by omega) (by decide); refine WL.storeRow rfl rfl rfl rfl rfl rfl hf'.blk rfl rfl hcv.one ?_; have hblk3 := hf'.blk.setRow [.int .i64 c, .int .i64 0, .int .i64 0, .string ByteArray.empty, .slice none 0 0, .slice none 0 0]; have hb3 : Below w.heap.size w (w2.setRow vb (List.toArray [.int .i64 c, .int .i64 0, .int .i64 0, .string ByteArray.empty, .slice none 0 0, .slice none 0 0])) := below_setRow hf'.below (by omega) _; generalize w2.setRow vb (List.toArray [.int .i64 c, .int .i64 0, .int .i64 0, .string ByteArray.empty, .slice none 0 0, .slice none 0 0]) = w3 at hblk3 hb3 ⊢; clear hf' hcv hsz2; have h3 := h2.keep (Keep.of_below hb3) fun b hb => Nat.lt_of_lt_of_le hb hB; have hk3 : KeepR rb w w3 := KeepR.below hb3; have hg3 := hg2.below hb3 hgb2; obtain ⟨sp3, cap3, hr3, -⟩ := h3.ex; refine K.kgo ?_; refine WL.load rfl rfl rfl rfl rfl rfl (hr3.cell 1 (by simp)) ?_
  by_cases he2 : e2 = 0
  rotate_left
  · refine K.kgo ?_
    refine WL.build zeroC rfl rfl rfl rfl rfl (by kernel_rfl) ?_; refine WL.storeRow rfl rfl rfl rfl rfl rfl hg3 rfl rfl (zero_isVo (fun _ => True) 0 w3).one ?_; refine K.kgo ?_; exact WQ.retC rfl rfl rfl rfl (hg3.setRow zeroC) (hzero h3 (hkA.trans hk3) hg3 (by rw [rdV_GV]; exact ho2.stop he2 (Nat.le_refl _)))
  -- the store into the box
  have stB : ∀ {wx : World} {i : Nat} (u : Value) {lx : List Int} {ex : Int}, RS7 B wx rb lx ex → KeepR rb w wx → RS7 B (wx.setCell ⟨vb, i, none⟩ u) rb lx ex ∧ KeepR rb w (wx.setCell ⟨vb, i, none⟩ u) := fun {wx i} u {lx ex} hr hk =>
    ⟨hr.keep (K := fun b => b ≠ vb) ((Keep.refl _ wx).setCell (fun hk => hk rfl) _) (fun b hb => by omega), Keep.setCell hk (fun hk => by have := hk.1; simp only at this; omega) _⟩
  clear hg3 h2 hb3; refine K.kgb ?_; refine WL.load rfl rfl rfl rfl rfl rfl (hblk3.cell 0 (by simp)) ?_; refine K.kgb ?_; refine WC.mid (fun _ : V × List Value × List Int × Int => [(4, .pointer (some ⟨gb, 0, none⟩)), (5, .pointer (some ⟨vb, 0, none⟩))])
    (fun i w' => VBlk 60 w' vb i.2.1 ∧ IsVo (fun b => w.heap.size ≤ b ∧ b ≠ vb) (m + 1 + 1) w' i.1 i.2.1 ∧ RS7 B w' rb i.2.2.1 i.2.2.2 ∧ KeepR rb w w' ∧ Out (rdV (m + 1)) l e i.1 i.2.2.1 i.2.2.2) rfl ?_ ?_
  rotate_left
  · rintro ⟨v, cs, l4, e4⟩ w4 ⟨hb4, hv4, hr4, hk4, ho4⟩
    simp only at hb4 hv4 hr4 hk4 ho4 ⊢; have hcs := hv4.len; have hg4 := hg2.keep hk4 ⟨hgb2, by omega⟩; refine K.kgo ?_; refine WL.loadMid rfl rfl rfl rfl rfl rfl (VBlk.rangeAt hb4) hcs ?_; refine WL.storeRow rfl rfl rfl rfl rfl rfl hg4 hcs rfl hv4.one ?_; refine K.kgo ?_; have hset : Keep (fun b => b ≠ gb) w4 (w4.setRow gb cs.toArray) := Keep.setRow (Keep.refl _ w4) (fun hk => hk rfl) _; exact WQ.retC rfl rfl rfl hcs (hg4.setRow cs) ⟨v, cs, l4, e4, rfl, hv4.keep hset (fun b hb _ => by have := hb.1; omega) (fun b hb => by have := hb.1; omega), hr4.keep hset (fun b hb => by omega), Keep.setRow (hkA.trans hk4) (fun hk => by have := hk.1; omega) _, ho4⟩
  by_cases k1 : c = 1
  · subst k1
    refine K.kgo ?_; exact WQ.meet (.mk 1 0 0 noT [] [], _, l2, e2) ⟨rfl, rfl, trivial⟩ ⟨hblk3, isVo_leaf (by omega) (by omega) (by omega) (by decide), h3, hk3, ho2.gv (Out.congr (Out.pure _) (by unfold GV; rw [if_pos rfl]))⟩
  by_cases k2 : c = 2
  · subst k2
    refine K.kgo ?_; refine WL.call rfl rfl rfl rfl rfl Try.func83 rfl (by kernel_rfl) (one7_any h3) ?_; rintro _ w4 ⟨c2, l4, e4, rfl, hc20, hc21, h4, hk4, ho4, hz4⟩; refine ⟨_, rfl, ?_⟩; have hblk4 := hblk3.keep hk4 ⟨hblk3.lt, by omega⟩
    by_cases hb2 : 1 < c2
    · have he4 : e4 = 0 := by omega
      obtain ⟨sp4, cap4, hr4, -⟩ := h4.ex; refine K.kgo ?_; refine WL.store rfl rfl rfl rfl rfl rfl (by kernel_rfl) (hr4.cell 1 (by simp)) (hr4.free 1) ?_; have h5 := h4.setE 3; have hk5 : KeepR rb w (w4.setCell ⟨rb, 1, none⟩ (.int .i64 3)) := (hk3.trans hk4).trans (KeepR.set _ _ _ _); have hblk5 : VBlk 60 (w4.setCell ⟨rb, 1, none⟩ (.int .i64 3)) vb _ := hblk4.other _ _ (by show vb ≠ rb; omega); generalize w4.setCell ⟨rb, 1, none⟩ (.int .i64 3) = w5 at h5 hk5 hblk5 ⊢; refine K.kgo ?_; refine WL.store (v := .int .i64 c2) rfl rfl rfl rfl rfl rfl (by kernel_rfl) (hblk5.cell 1 (by simp)) (hblk5.free 1) ?_; obtain ⟨h6, hk6⟩ := stB (i := 1) (.int .i64 c2) h5 hk5; have hblk6 := hblk5.set 1 (.int .i64 c2); refine K.kgo ?_; refine WQ.meet (.mk 2 c2 0 noT [] [], _, l4, 3) ⟨rfl, rfl, trivial⟩ ⟨hblk6, isVo_leaf (by omega) (by omega) (by omega) (by decide), h6, hk6, ho2.gv (Out.congr (ho4.bind (Out.congr (f := fun _ => .bad 3) ?_ ?_)) (by unfold GV; rw [if_neg k1, if_pos rfl]))⟩
      · have := Out.fail (l := l4) (e := e4) (a := V.mk 2 c2 0 noT [] []) 3 (by omega)
        rwa [if_pos he4] at this
      · rw [if_pos hb2]
    · refine K.kgo ?_
      refine WL.store (v := .int .i64 c2) rfl rfl rfl rfl rfl rfl (by kernel_rfl) (hblk4.cell 1 (by simp)) (hblk4.free 1) ?_; obtain ⟨h5, hk5⟩ := stB (i := 1) (.int .i64 c2) h4 (hk3.trans hk4); have hblk5 := hblk4.set 1 (.int .i64 c2); refine K.kgo ?_; refine WQ.meet (.mk 2 c2 0 noT [] [], _, l4, _) ⟨rfl, rfl, trivial⟩ ⟨hblk5, isVo_leaf (by omega) (by omega) (by omega) (by decide), h5, hk5, ho2.gv (Out.congr (ho4.bind (Out.congr (Out.pure _) ?_)) (by unfold GV; rw [if_neg k1, if_pos rfl]))⟩; rw [if_neg hb2]
  by_cases k3 : c = 3
  · subst k3
    refine K.kgo ?_; refine WL.call rfl rfl rfl rfl rfl Try.func84 rfl (by kernel_rfl) (number7_any h3) ?_; rintro _ w4 ⟨u, l4, e4, rfl, hu, h4, hk4, ho4⟩; refine ⟨_, rfl, ?_⟩; refine WL.call rfl rfl rfl rfl rfl Try.func61 rfl (by kernel_rfl) (rzag_any u hu w4) ?_; rintro _ w4 ⟨rfl, rfl⟩; refine ⟨_, rfl, ?_⟩; have hz := zag_range hu; have hblk4 := hblk3.keep hk4 ⟨hblk3.lt, by omega⟩; refine K.kgo ?_; refine WL.store (v := .int .i64 (zag u)) rfl rfl rfl rfl rfl rfl (by kernel_rfl) (hblk4.cell 1 (by simp)) (hblk4.free 1) ?_; obtain ⟨h5, hk5⟩ := stB (i := 1) (.int .i64 (zag u)) h4 (hk3.trans hk4); have hblk5 := hblk4.set 1 (.int .i64 (zag u)); generalize w4.setCell ⟨vb, 1, none⟩ (.int .i64 (zag u)) = w5 at h5 hk5 hblk5; simp only [List.set_cons_zero, List.set_cons_succ] at hblk5; refine K.kgo ?_; refine WL.load rfl rfl rfl rfl rfl rfl (hblk5.cell 0 (by simp)) ?_; refine K.kgo ?_; exact WQ.meet (.mk 3 (zag u) 0 noT [] [], _, l4, _) ⟨rfl, rfl, trivial⟩ ⟨hblk5, isVo_leaf (by omega) hz (by omega) (by decide), h5, hk5, ho2.gv (Out.congr (ho4.bind (Out.pure (V.mk 3 (zag u) 0 noT [] []))) (by unfold GV; rw [if_neg k1, if_neg k2, if_pos rfl]))⟩
  by_cases k4 : c = 4
  · subst k4
    refine K.kgo ?_; refine WL.call rfl rfl rfl rfl rfl Try.func84 rfl (by kernel_rfl) (number7_any h3) ?_; rintro _ w4 ⟨u, l4, e4, rfl, hu, h4, hk4, ho4⟩; refine ⟨_, rfl, ?_⟩; refine WL.call rfl rfl rfl rfl rfl Try.func61 rfl (by kernel_rfl) (rzag_any u hu w4) ?_; rintro _ w4 ⟨rfl, rfl⟩; refine ⟨_, rfl, ?_⟩; have hz := zag_range hu; have hblk4 := hblk3.keep hk4 ⟨hblk3.lt, by omega⟩; refine K.kgo ?_; refine WL.store (v := .int .i64 (zag u)) rfl rfl rfl rfl rfl rfl (by kernel_rfl) (hblk4.cell 1 (by simp)) (hblk4.free 1) ?_; obtain ⟨h5, hk5⟩ := stB (i := 1) (.int .i64 (zag u)) h4 (hk3.trans hk4); have hblk5 := hblk4.set 1 (.int .i64 (zag u)); generalize w4.setCell ⟨vb, 1, none⟩ (.int .i64 (zag u)) = w5 at h5 hk5 hblk5; simp only [List.set_cons_zero, List.set_cons_succ] at hblk5; refine K.kgo ?_; refine WL.load rfl rfl rfl rfl rfl rfl (hblk5.cell 0 (by simp)) ?_; refine K.kgo ?_; refine WL.call rfl rfl rfl rfl rfl Try.func83 rfl (by kernel_rfl) (one7_any h5) ?_; rintro _ w6 ⟨c2, l6, e6, rfl, hc20, hc21, h6, hk6, ho6, -⟩; refine ⟨_, rfl, ?_⟩; have hblk6 := hblk5.keep hk6 ⟨hblk5.lt, by omega⟩; refine K.kgo ?_; refine WL.store (v := .int .i64 c2) rfl rfl rfl rfl rfl rfl (by kernel_rfl) (hblk6.cell 2 (by simp)) (hblk6.free 2) ?_; obtain ⟨h7, hk7⟩ := stB (i := 2) (.int .i64 c2) h6 (hk5.trans hk6); have hblk7 := hblk6.set 2 (.int .i64 c2); refine K.kgo ?_; exact WQ.meet (.mk 4 (zag u) c2 noT [] [], _, l6, _) ⟨rfl, rfl, trivial⟩ ⟨hblk7, isVo_leaf (by omega) hz (by omega) (by decide), h7, hk7, ho2.gv (Out.congr (ho4.bind (ho6.bind (Out.pure (V.mk 4 (zag u) c2 noT [] [])))) (by unfold GV; rw [if_neg k1, if_neg k2, if_neg k3, if_pos rfl]))⟩
  by_cases k5 : c = 5
  · subst k5
    refine K.kgo ?_; refine WL.call rfl rfl rfl rfl rfl Try.func84 rfl (by kernel_rfl) (number7_any h3) ?_; rintro _ w4 ⟨u, l4, e4, rfl, hu, h4, hk4, ho4⟩; refine ⟨_, rfl, ?_⟩; have hz : -9223372036854775808 ≤ IntKind.i64.wrap (u : Int) ∧ IntKind.i64.wrap (u : Int) ≤ 9223372036854775807 := by rw [IntKind.wrap_i64]; omega
    have hblk4 := hblk3.keep hk4 ⟨hblk3.lt, by omega⟩; refine WL.pure rfl rfl rfl rfl ?_; refine WL.pure rfl rfl rfl rfl ?_; refine WL.store (v := .int .i64 (IntKind.i64.wrap (u : Int))) rfl rfl rfl rfl rfl rfl (by kernel_rfl) (hblk4.cell 1 (by simp)) (hblk4.free 1) ?_; obtain ⟨h5, hk5⟩ := stB (i := 1) (.int .i64 (IntKind.i64.wrap (u : Int))) h4 (hk3.trans hk4); have hblk5 := hblk4.set 1 (.int .i64 (IntKind.i64.wrap (u : Int))); refine K.kgo ?_; exact WQ.meet (.mk 5 (IntKind.i64.wrap (u : Int)) 0 noT [] [], _, l4, _) ⟨rfl, rfl, trivial⟩ ⟨hblk5, isVo_leaf (by omega) hz (by omega) (by decide), h5, hk5, ho2.gv (Out.congr (ho4.bind (Out.pure (V.mk 5 (IntKind.i64.wrap (u : Int)) 0 noT [] []))) (by unfold GV; rw [if_neg k1, if_neg k2, if_neg k3, if_neg k4, if_pos rfl]))⟩
  by_cases k67 : c = 6 ∨ c = 7
  · have hg : GV m c = fun r => (rdT r).bind fun t r => .ok (.mk c 0 0 t [] []) r := by funext r; unfold GV; rw [if_neg k1, if_neg k2, if_neg k3, if_neg k4, if_neg k5, if_pos k67]
    rcases k67 with k6 | k7
    all_goals
      refine K.kgo ?_; refine WL.call rfl rfl rfl rfl rfl Try.func85 rfl (by kernel_rfl) (text7_any h3) ?_; rintro _ w4 ⟨t, l4, e4, rfl, ht, h4, hk4, ho4⟩; refine ⟨_, rfl, ?_⟩; have hblk4 := hblk3.keep hk4 ⟨hblk3.lt, by omega⟩; refine K.kgo ?_; refine WL.store (v := .string t) rfl rfl rfl rfl rfl rfl (by kernel_rfl) (hblk4.cell 3 (by simp)) (hblk4.free 3) ?_; obtain ⟨h5, hk5⟩ := stB (i := 3) (.string t) h4 (hk3.trans hk4); have hblk5 := hblk4.set 3 (.string t); refine K.kgo ?_; exact WQ.meet (.mk c 0 0 t [] [], _, l4, _) ⟨rfl, rfl, trivial⟩ ⟨hblk5, isVo_leaf (by omega) (by omega) (by omega) (by omega), h5, hk5, ho2.gv (by rw [hg]; exact ho4.bind (Out.pure (V.mk c 0 0 t [] [])))⟩
  by_cases k89 : c = 8 ∨ c = 9
  · have hg : GV m c = fun r => (rdC r).bind fun n r => (rdK (rdV m) (decide (c = 9)) n [] [] r).bind fun p r => .ok (.mk c 0 0 noT p.1 p.2) r := by
      funext r; unfold GV; rw [if_neg k1, if_neg k2, if_neg k3, if_neg k4, if_neg k5, if_neg k67, if_pos k89]
    rcases k89 with k8 | k9
    · refine K.kgo ?_
      refine WL.call rfl rfl rfl rfl rfl Try.func86 rfl (by kernel_rfl) (count7_any h3) ?_; rintro _ w4 ⟨n, l4, e4, rfl, hn, h4, hk4, ho4⟩; refine ⟨_, rfl, ?_⟩; have hblk4 := hblk3.keep hk4 ⟨hblk3.lt, by omega⟩; rw [show decide (c = 9) = false by simp [k8]] at hg; refine K.kgo ?_; refine WC.loop (fun i : Nat × List ByteArray × List V × List Int × Int => [(0, .pointer (some ⟨rb, 0, none⟩)), (1, .int .i64 d), (4, .pointer (some ⟨gb, 0, none⟩)), (5, .pointer (some ⟨vb, 0, none⟩)), (7, .int .i64 n), (8, .int .i64 i.1)])
        (fun i wr => i.1 ≤ n ∧ i.2.1.length ≤ i.1 ∧ i.2.2.1.length ≤ i.1 ∧ (∃ sn sk q, KidsW rb vb (m + 1) c w wr i.2.1 i.2.2.1 sn sk q) ∧ RS7 B wr rb i.2.2.2.1 i.2.2.2.2 ∧
          ∀ p l' e', Out (rdK (rdV m) false (n - i.1) i.2.1 i.2.2.1) i.2.2.2.1 i.2.2.2.2 p l' e' → Out (rdK (rdV m) false n [] []) l4 e4 p l' e') (fun i => n - i.1) (0, [], [], l4, e4)
        ⟨rfl, rfl, rfl, rfl, rfl, rfl, trivial⟩ ⟨Nat.zero_le _, Nat.le_refl _, Nat.le_refl _, ⟨_, _, fun _ => False, hblk4, OwnE.nil _ _ _ _ _ _, OwnE.nil _ _ _ _ _ _, (fun g hg => by cases hg), (fun b hb => hb.elim), hk3.trans hk4, hvbe, by omega⟩, h4, fun _ _ _ h => h⟩ ?_
      rintro ⟨i, ns, ks, li, ei⟩ wr ⟨hi, hnl, hkl, ⟨sn, sk, q, hK⟩, hr, hcont⟩; simp only at hi hnl hkl hK hr hcont ⊢; have hend : ∀ {wx : World} {sn sk : Value} {ns : List ByteArray} {ks : List V} {q : Nat → Prop} {li : List Int} {ei : Int}, KidsW rb vb (m + 1) c w wx ns ks sn sk q → RS7 B wx rb li ei → Out (rdK (rdV m) false n [] []) l4 e4 (ns, ks) li ei →
          VBlk 60 wx vb [.int .i64 c, .int .i64 0, .int .i64 0, .string ByteArray.empty, sn, sk] ∧ IsVo (fun b => w.heap.size ≤ b ∧ b ≠ vb) (m + 1 + 1) wx (.mk c 0 0 noT ns ks) [.int .i64 c, .int .i64 0, .int .i64 0, .string ByteArray.empty, sn, sk] ∧ RS7 B wx rb li ei ∧ KeepR rb w wx ∧ Out (rdV (m + 1)) l e (.mk c 0 0 noT ns ks) li ei :=
        fun {wx sn sk ns ks q li ei} h1 h2 h3 => ⟨h1.blk, ⟨sn, sk, rfl, wf_i64 (by show -9223372036854775808 ≤ c ∧ c ≤ _; omega), wf_i64 (by show -9223372036854775808 ≤ (0 : Int) ∧ (0 : Int) ≤ _; omega), wf_i64 (by show -9223372036854775808 ≤ (0 : Int) ∧ (0 : Int) ≤ _; omega), by show ByteArray.empty.size ≤ _; decide, h1.names.els, h1.kids.els.mono (fun _ h => h) fun x cs hx => hx.mono fun b hb => ⟨(h1.qs b hb).1, (h1.qs b hb).2.2.1⟩⟩, h2, h1.keep,
          ho2.gv (by rw [hg]; exact ho4.bind (h3.bind (Out.pure (V.mk c 0 0 noT ns ks))))⟩
      by_cases hin : i < n
      · obtain ⟨rsp, rcap, hrb, -⟩ := hr.ex
        refine K.kgo ?_; refine WL.load rfl rfl rfl rfl rfl rfl (hrb.cell 1 (by simp)) ?_
        by_cases hei : ei = 0
        · subst hei
          have hni : n - i = (n - (i + 1)) + 1 := by omega
          rw [hni] at hcont; have hwr := hK.keep.size; refine K.kgo ?_; refine WL.load rfl rfl rfl rfl rfl rfl (hK.blk.cell 0 (by simp)) ?_; refine K.kgo ?_; refine WC.drawn 9 (fun wx => VBlk 60 wx vb [.int .i64 c, .int .i64 0, .int .i64 0, .string ByteArray.empty, sn, sk]) fun w5 hd5 => ?_; have hK5 := hK.below (hd5.below _); have hr5 := hr.keep (Keep.of_below (hd5.below wr.heap.size)) fun b hb => by omega
          have hsz5 : wr.heap.size ≤ w5.heap.size := (hd5.below 0).size; have hS := hK5.blk; refine K.fr [0] hS ?_; refine K.wl 1 [7, 8, 9] rfl rfl rfl rfl rfl rfl rfl (fun wx hx => hx.cell 5 (by simp)) hS ?_; refine K.fr [2, 3, 4] hS ?_; refine K.wo 5 ?_; refine WL.call rfl rfl rfl rfl rfl Try.func76 rfl (by kernel_rfl) (ih (d + 1) (by omega) hr5 (by omega)) ?_; rintro _ w6 ⟨v, cs, l6, e6, rfl, hv6, hr6, hk6, ho6⟩; refine ⟨_, rfl, ?_⟩; have hvb5 := hK5.blk.lt; have hsn5 : ∀ g, (sn).ownBlock = some g → g < w5.heap.size := fun g hg => hK5.names.lt hg; have hsk5 : ∀ g, sk.ownBlock = some g → g < w5.heap.size := fun g hg => hK5.kids.lt hg; have hK6 := hK5.read hk6; refine WL.nil (WQ.dk (.inr hK6.blk) ?_); refine K.wo 6 ?_; refine WL.lit1 rfl rfl rfl rfl rfl rfl rfl hv6.len ⟨by omega, by omega⟩ (by kernel_rfl) fun g7 w7 hf7 => ?_; have hK7 := (hK6.below hf7.below).widen (S := w5.heap.size) (by have := hK5.keep.size; omega) hvb5 hsn5 hsk5; have hr7 := hr6.keep (Keep.of_below hf7.below) fun b hb => by have := hk6.size; omega
          have hv7 := hv6.there.keep (O' := fun b => q b ∨ (w5.heap.size ≤ b ∧ b < w7.heap.size)) (Keep.of_below hf7.below) (fun b _ h => h) fun b hb => .inr ⟨hb.1, by have := hf7.size; omega⟩; refine WL.nil (WQ.dk (.inr hK7.blk) ?_); refine K.wo 7 ?_; refine WL.snoc rfl rfl rfl rfl elemV6 rfl hK7.kids rfl hf7.blk hv6.one hv6.len hv7 (by omega) (by omega) fun sk8 w8 ho8 hg8 => ?_; obtain ⟨hb8, hK9⟩ := hK7.setK ho8 hg8; refine K.di hb8 ?_; have hsk8 : sk8.oneCell' = true := ho8.one; refine K.wo 8 ?_; refine WL.pure rfl rfl rfl rfl ?_; refine K.di hb8 ?_; refine K.wo 9 ?_; refine WL.store rfl rfl rfl rfl rfl hsk8 (by kernel_rfl) (hb8.cell 5 (by simp)) (hb8.free 5) ?_; have hr9 : RS7 B (w8.setCell ⟨vb, 5, none⟩ sk8) rb l6 e6 := (hr7.keep hg8.1 fun b hb => ⟨by have := hr7.ex; have := hf7.size; have := hk6.size; omega, fun e => by have := (hK7.kids.own e).1; omega⟩).keep (K := fun b => b ≠ vb) ((Keep.refl _ w8).setCell (fun hk => hk rfl) _) fun b hb => by omega
          generalize w8.setCell ⟨vb, 5, none⟩ sk8 = w9 at hK9 hr9; refine K.dl ?_; refine WD.done (by kernel_rfl) ?_; refine K.kgo ?_; refine WQ.again (i + 1, ns, ks ++ [v], l6, e6) ⟨rfl, rfl, rfl, rfl, rfl, rfl, trivial⟩ ⟨hin, by show ns.length ≤ i + 1; omega, by simp only [List.length_append, List.length_cons, List.length_nil]; omega, ⟨sn, sk8, _, hK9⟩, hr9, fun p l' e' ho => ?_⟩ (by show n - (i + 1) < n - i; omega); refine hcont p l' e' (Out.congr (ho6.bind (g := fun v r' => rdK (rdV m) false (n - (i + 1)) ns (ks ++ [v]) r') ho) ?_); rw [rdK, if_neg (by simp)]
        · refine K.kgo ?_
          exact WQ.meet (.mk c 0 0 noT ns ks, _, li, ei) ⟨rfl, rfl, trivial⟩ (hend hK hr (hcont _ _ _ (.ofBad hei)))
      · obtain rfl : i = n := by omega
        refine K.kgo ?_; exact WQ.meet (.mk c 0 0 noT ns ks, _, li, ei) ⟨rfl, rfl, trivial⟩ (hend hK hr (hcont _ _ _ (Out.congr (Out.pure _) (by rw [Nat.sub_self]; rfl))))
    · refine K.kgo ?_
      refine WL.call rfl rfl rfl rfl rfl Try.func86 rfl (by kernel_rfl) (count7_any h3) ?_; rintro _ w4 ⟨n, l4, e4, rfl, hn, h4, hk4, ho4⟩; refine ⟨_, rfl, ?_⟩; have hblk4 := hblk3.keep hk4 ⟨hblk3.lt, by omega⟩; rw [show decide (c = 9) = true by simp [k9]] at hg; refine K.kgo ?_; refine WC.loop (fun i : Nat × List ByteArray × List V × List Int × Int => [(0, .pointer (some ⟨rb, 0, none⟩)), (1, .int .i64 d), (4, .pointer (some ⟨gb, 0, none⟩)), (5, .pointer (some ⟨vb, 0, none⟩)), (7, .int .i64 n), (8, .int .i64 i.1)])
        (fun i wr => i.1 ≤ n ∧ i.2.1.length ≤ i.1 ∧ i.2.2.1.length ≤ i.1 ∧ (∃ sn sk q, KidsW rb vb (m + 1) c w wr i.2.1 i.2.2.1 sn sk q) ∧ RS7 B wr rb i.2.2.2.1 i.2.2.2.2 ∧
          ∀ p l' e', Out (rdK (rdV m) true (n - i.1) i.2.1 i.2.2.1) i.2.2.2.1 i.2.2.2.2 p l' e' → Out (rdK (rdV m) true n [] []) l4 e4 p l' e') (fun i => n - i.1) (0, [], [], l4, e4)
        ⟨rfl, rfl, rfl, rfl, rfl, rfl, trivial⟩ ⟨Nat.zero_le _, Nat.le_refl _, Nat.le_refl _, ⟨_, _, fun _ => False, hblk4, OwnE.nil _ _ _ _ _ _, OwnE.nil _ _ _ _ _ _, (fun g hg => by cases hg), (fun b hb => hb.elim), hk3.trans hk4, hvbe, by omega⟩, h4, fun _ _ _ h => h⟩ ?_
      rintro ⟨i, ns, ks, li, ei⟩ wr ⟨hi, hnl, hkl, ⟨sn, sk, q, hK⟩, hr, hcont⟩; simp only at hi hnl hkl hK hr hcont ⊢; have hend : ∀ {wx : World} {sn sk : Value} {ns : List ByteArray} {ks : List V} {q : Nat → Prop} {li : List Int} {ei : Int}, KidsW rb vb (m + 1) c w wx ns ks sn sk q → RS7 B wx rb li ei → Out (rdK (rdV m) true n [] []) l4 e4 (ns, ks) li ei →
          VBlk 60 wx vb [.int .i64 c, .int .i64 0, .int .i64 0, .string ByteArray.empty, sn, sk] ∧ IsVo (fun b => w.heap.size ≤ b ∧ b ≠ vb) (m + 1 + 1) wx (.mk c 0 0 noT ns ks) [.int .i64 c, .int .i64 0, .int .i64 0, .string ByteArray.empty, sn, sk] ∧ RS7 B wx rb li ei ∧ KeepR rb w wx ∧ Out (rdV (m + 1)) l e (.mk c 0 0 noT ns ks) li ei :=
        fun {wx sn sk ns ks q li ei} h1 h2 h3 => ⟨h1.blk, ⟨sn, sk, rfl, wf_i64 (by show -9223372036854775808 ≤ c ∧ c ≤ _; omega), wf_i64 (by show -9223372036854775808 ≤ (0 : Int) ∧ (0 : Int) ≤ _; omega), wf_i64 (by show -9223372036854775808 ≤ (0 : Int) ∧ (0 : Int) ≤ _; omega), by show ByteArray.empty.size ≤ _; decide, h1.names.els, h1.kids.els.mono (fun _ h => h) fun x cs hx => hx.mono fun b hb => ⟨(h1.qs b hb).1, (h1.qs b hb).2.2.1⟩⟩, h2, h1.keep,
          ho2.gv (by rw [hg]; exact ho4.bind (h3.bind (Out.pure (V.mk c 0 0 noT ns ks))))⟩
      by_cases hin : i < n
      · obtain ⟨rsp, rcap, hrb, -⟩ := hr.ex
        refine K.kgo ?_; refine WL.load rfl rfl rfl rfl rfl rfl (hrb.cell 1 (by simp)) ?_
        by_cases hei : ei = 0
        · subst hei
          have hni : n - i = (n - (i + 1)) + 1 := by omega
          rw [hni] at hcont; have hwr := hK.keep.size; refine K.kgo ?_; refine WL.load rfl rfl rfl rfl rfl rfl (hK.blk.cell 0 (by simp)) ?_; refine K.kgo ?_; refine WC.drawn 7 (fun wx => VBlk 60 wx vb [.int .i64 c, .int .i64 0, .int .i64 0, .string ByteArray.empty, sn, sk]) fun w5 hd5 => ?_; have hK5 := hK.below (hd5.below _); have hr5 := hr.keep (Keep.of_below (hd5.below wr.heap.size)) fun b hb => by omega
          have hsz5 : wr.heap.size ≤ w5.heap.size := (hd5.below 0).size; have hS := hK5.blk; refine K.fr [0] hS ?_; refine K.wl 1 [5, 6, 7] rfl rfl rfl rfl rfl rfl rfl (fun wx hx => hx.cell 4 (by simp)) hS ?_; refine K.fr [2] hS ?_; refine K.wo 3 ?_; refine WL.call rfl rfl rfl rfl rfl Try.func85 rfl (by kernel_rfl) (text7_any hr5) ?_; rintro _ w6 ⟨t, lt, et, rfl, ht, hr6, hk6, hot⟩; refine ⟨_, rfl, ?_⟩; have hK6 := hK5.read hk6; refine WL.nil (WQ.dk (.inr hK6.blk) ?_); refine K.wo 4 ?_; refine WL.lit1 (cs := [.string t]) rfl rfl rfl rfl rfl rfl rfl rfl ⟨by omega, by omega⟩ (by kernel_rfl) fun g7 w7 hf7 => ?_; have hK7 := hK6.below hf7.below; have hr7 := hr6.keep (Keep.of_below hf7.below) fun b hb => by have := hk6.size; omega
          refine WL.nil (WQ.dk (.inr hK7.blk) ?_); refine K.wo 5 ?_; refine WL.snoc (y := t) rfl rfl rfl rfl elemS1 rfl hK7.names rfl hf7.blk (by intro u hu; simp at hu; rw [hu]; rfl) rfl ⟨rfl, by omega⟩ (by omega) (by omega) fun sn8 w8 ho8 hg8 => ?_; obtain ⟨hb8, hK9⟩ := hK7.setN ho8 hg8; refine K.di hb8 ?_; have hsn8 : sn8.oneCell' = true := ho8.one; refine K.wo 6 ?_; refine WL.pure rfl rfl rfl rfl ?_; refine K.di hb8 ?_; refine K.wo 7 ?_; refine WL.store rfl rfl rfl rfl rfl hsn8 (by kernel_rfl) (hb8.cell 4 (by simp)) (hb8.free 4) ?_; have hr9 : RS7 B (w8.setCell ⟨vb, 4, none⟩ sn8) rb lt et := (hr7.keep hg8.1 fun b hb => ⟨by have := hf7.size; have := hk6.size; omega, fun e => by have := (hK7.names.own e).1; omega⟩).keep (K := fun b => b ≠ vb) ((Keep.refl _ w8).setCell (fun hk => hk rfl) _) fun b hb => by omega
          generalize w8.setCell ⟨vb, 4, none⟩ sn8 = w9 at hK9 hr9; refine K.dl ?_; refine WD.done (by kernel_rfl) ?_; clear hK7 hr7 hb8 hK6 hr6 hK5 hr5 hS hk6 ho8 hg8; have hwr := hK9.keep.size; refine K.kgo ?_; refine WC.drawn 9 (fun wx => VBlk 60 wx vb [.int .i64 c, .int .i64 0, .int .i64 0, .string ByteArray.empty, sn8, sk]) fun w15 hd5 => ?_; have hK5 := hK9.below (hd5.below _); have hr5 := hr9.keep (Keep.of_below (hd5.below w9.heap.size)) fun b hb => by omega
          have hsz5 : w9.heap.size ≤ w15.heap.size := (hd5.below 0).size; have hS := hK5.blk; refine K.fr [0] hS ?_; refine K.wl 1 [7, 8, 9] rfl rfl rfl rfl rfl rfl rfl (fun wx hx => hx.cell 5 (by simp)) hS ?_; refine K.fr [2, 3, 4] hS ?_; refine K.wo 5 ?_; refine WL.call rfl rfl rfl rfl rfl Try.func76 rfl (by kernel_rfl) (ih (d + 1) (by omega) hr5 (by omega)) ?_; rintro _ w16 ⟨v, cs, l6, e6, rfl, hv6, hr6, hk6, ho6⟩; refine ⟨_, rfl, ?_⟩; have hvb5 := hK5.blk.lt; have hsn5 : ∀ g, (sn8).ownBlock = some g → g < w15.heap.size := fun g hg => hK5.names.lt hg; have hsk5 : ∀ g, sk.ownBlock = some g → g < w15.heap.size := fun g hg => hK5.kids.lt hg; have hK6 := hK5.read hk6; refine WL.nil (WQ.dk (.inr hK6.blk) ?_); refine K.wo 6 ?_; refine WL.lit1 rfl rfl rfl rfl rfl rfl rfl hv6.len ⟨by omega, by omega⟩ (by kernel_rfl) fun g7 w17 hf7 => ?_; have hK7 := (hK6.below hf7.below).widen (S := w15.heap.size) (by have := hK5.keep.size; omega) hvb5 hsn5 hsk5; have hr7 := hr6.keep (Keep.of_below hf7.below) fun b hb => by have := hk6.size; omega
          have hv7 := hv6.there.keep (O' := fun b => q b ∨ (w15.heap.size ≤ b ∧ b < w17.heap.size)) (Keep.of_below hf7.below) (fun b _ h => h) fun b hb => .inr ⟨hb.1, by have := hf7.size; omega⟩; refine WL.nil (WQ.dk (.inr hK7.blk) ?_); refine K.wo 7 ?_; refine WL.snoc rfl rfl rfl rfl elemV6 rfl hK7.kids rfl hf7.blk hv6.one hv6.len hv7 (by omega) (by omega) fun sk8 w18 ho8 hg8 => ?_; obtain ⟨hb8, hK9⟩ := hK7.setK ho8 hg8; refine K.di hb8 ?_; have hsk8 : sk8.oneCell' = true := ho8.one; refine K.wo 8 ?_; refine WL.pure rfl rfl rfl rfl ?_; refine K.di hb8 ?_; refine K.wo 9 ?_; refine WL.store rfl rfl rfl rfl rfl hsk8 (by kernel_rfl) (hb8.cell 5 (by simp)) (hb8.free 5) ?_; have hr9 : RS7 B (w18.setCell ⟨vb, 5, none⟩ sk8) rb l6 e6 := (hr7.keep hg8.1 fun b hb => ⟨by have := hr7.ex; have := hf7.size; have := hk6.size; omega, fun e => by have := (hK7.kids.own e).1; omega⟩).keep (K := fun b => b ≠ vb) ((Keep.refl _ w18).setCell (fun hk => hk rfl) _) fun b hb => by omega
          generalize w18.setCell ⟨vb, 5, none⟩ sk8 = w19 at hK9 hr9; refine K.dl ?_; refine WD.done (by kernel_rfl) ?_; refine K.kgo ?_; refine WQ.again (i + 1, (ns ++ [t]), ks ++ [v], l6, e6) ⟨rfl, rfl, rfl, rfl, rfl, rfl, trivial⟩ ⟨hin, by simp only [List.length_append, List.length_cons, List.length_nil]; omega, by simp only [List.length_append, List.length_cons, List.length_nil]; omega, ⟨sn8, sk8, _, hK9⟩, hr9, fun p l' e' ho => ?_⟩ (by show n - (i + 1) < n - i; omega); refine hcont p l' e' (Out.congr (hot.bind (g := fun s r => (rdV m r).bind fun v r' => rdK (rdV m) true (n - (i + 1)) (ns ++ [s]) (ks ++ [v]) r') (ho6.bind (g := fun v r' => rdK (rdV m) true (n - (i + 1)) (ns ++ [t]) (ks ++ [v]) r') ho)) ?_); rw [rdK, if_pos rfl]
        · refine K.kgo ?_
          exact WQ.meet (.mk c 0 0 noT ns ks, _, li, ei) ⟨rfl, rfl, trivial⟩ (hend hK hr (hcont _ _ _ (.ofBad hei)))
      · obtain rfl : i = n := by omega
        refine K.kgo ?_; exact WQ.meet (.mk c 0 0 noT ns ks, _, li, ei) ⟨rfl, rfl, trivial⟩ (hend hK hr (hcont _ _ _ (Out.congr (Out.pure _) (by rw [Nat.sub_self]; rfl))))
  · have hg : GV m c = fun _ => .bad 3 := by
      funext r; unfold GV; rw [if_neg k1, if_neg k2, if_neg k3, if_neg k4, if_neg k5, if_neg k67, if_neg k89]
    refine K.kgo ?_; refine WL.store rfl rfl rfl rfl rfl rfl (by kernel_rfl) (hr3.cell 1 (by simp)) (hr3.free 1) ?_; have h4 := h3.setE 3; have hk4 : KeepR rb w (w3.setCell ⟨rb, 1, none⟩ (.int .i64 3)) := hk3.trans (KeepR.set _ _ _ _); have hblk4 : VBlk 60 (w3.setCell ⟨rb, 1, none⟩ (.int .i64 3)) vb _ := hblk3.other _ _ (by show vb ≠ rb; omega); refine K.kgo ?_; refine WQ.meet (.mk c 0 0 noT [] [], _, l2, 3) ⟨rfl, rfl, trivial⟩ ⟨hblk4, isVo_leaf (by omega) (by omega) (by omega) (by decide), h4, hk4, ho2.gv ?_⟩; rw [hg]; have := Out.fail (l := l2) (e := e2) (a := V.mk c 0 0 noT [] []) 3 (by omega)
    rwa [if_pos he2] at this

theorem value7_any : ∀ (m : Nat) {B rb : Nat} {w : World} {l : List Int} {e : Int} (d : Int), d = 17 - (m : Int) → m ≤ 16 → RS7 B w rb l e → B ≤ w.heap.size → Calls Try.prog 76 #[.pointer (some ⟨rb, 0, none⟩), .int .i64 d] w (ValPost7 m B rb w l e)
  | 0, B, rb, w, l, e, d, hd, _, h, hB => by
    refine enter (args := [.pointer (some ⟨rb, 0, none⟩), .int .i64 d]) Try.func76 rfl Try.ntmps76 rfl ?_; refine K.kgo ?_; refine WL.alloc (z := .agg zeroC.toArray) rfl rfl rfl rfl (fun _ => by kernel_rfl) fun gb w1 hf => ?_; have hf' : Fresh w gb w1 60 zeroC := hf; clear hf; have hgbe := hf'.eq; have hrB := h.rlt; have h1 : RS7 B w1 rb l e := h.keep (Keep.of_below hf'.below) fun b hb => Nat.lt_of_lt_of_le hb hB; have hk1 : KeepR rb w w1 := KeepR.below hf'.below; have hg1 := hf'.blk; clear hf'; obtain ⟨sp1, cap1, hc1, -⟩ := h1.ex; have hset : ∀ (wx : World) a, Keep (fun b => b ≠ gb) wx (wx.setRow gb a) := fun wx a => Keep.setRow (Keep.refl _ wx) (fun hk => hk rfl) a; refine K.kgo ?_; refine WL.load rfl rfl rfl rfl rfl rfl (hc1.cell 1 (by simp)) ?_
    by_cases he : e = 0
    · refine K.kgo ?_
      refine WL.store rfl rfl rfl rfl rfl rfl (by kernel_rfl) (hc1.cell 1 (by simp)) (hc1.free 1) ?_; have h2 := h1.setE 9; have hk2 : KeepR rb w (w1.setCell ⟨rb, 1, none⟩ (.int .i64 9)) := hk1.trans (KeepR.set _ _ _ _); have hg2 : VBlk 60 (w1.setCell ⟨rb, 1, none⟩ (.int .i64 9)) gb zeroC := hg1.other _ _ (by show gb ≠ rb; omega); generalize w1.setCell ⟨rb, 1, none⟩ (.int .i64 9) = w2 at h2 hk2 hg2 ⊢; refine K.kgo ?_; refine WL.build zeroC rfl rfl rfl rfl rfl (by kernel_rfl) ?_; refine WL.storeRow rfl rfl rfl rfl rfl rfl hg2 rfl rfl (zero_isVo (fun _ => True) 0 w2).one ?_; refine K.kgo ?_; refine WQ.retC rfl rfl rfl rfl (hg2.setRow zeroC) ⟨.mk 0 0 0 noT [] [], zeroC, l, 9, rfl, zero_isVo _ _ _, h2.keep (hset _ _) (fun b hb => by omega), Keep.setRow hk2 (fun hk => by have := hk.1; omega) _, ?_⟩; have := Out.fail (l := l) (e := e) (a := V.mk 0 0 0 noT [] []) 9 (by omega)
      rwa [if_pos he] at this
    · refine K.kgo ?_
      refine WL.build zeroC rfl rfl rfl rfl rfl (by kernel_rfl) ?_; refine WL.storeRow rfl rfl rfl rfl rfl rfl hg1 rfl rfl (zero_isVo (fun _ => True) 0 w1).one ?_; refine K.kgo ?_; exact WQ.retC rfl rfl rfl rfl (hg1.setRow zeroC) ⟨.mk 0 0 0 noT [] [], zeroC, l, e, rfl, zero_isVo _ _ _, h1.keep (hset _ _) (fun b hb => by omega), Keep.setRow hk1 (fun hk => by have := hk.1; omega) _, .ofBad he⟩
  | m + 1, _, _, _, _, _, d, hd, hm, h, hB => value7_step m (fun d hd h hB => value7_any m d hd (by omega) h hB) d hd hm h hB
end K
end Go.Proofs.Ytdkkaliiofcflaa

namespace Go.Proofs.Ytdkkaliiofcflaa
open Go.RowKit
namespace K
structure RdSt7 (w0 : World) (vb rb xb : Nat) (l3 : List Int) (x : V) (cs : List Value) (e : Int) (wx : World) : Prop where
  rs : RS7 (rb + 1) wx rb l3 e
  vblk : VBlk 60 wx vb zCells
  xblk : VBlk 60 wx xb cs
  val : IsVo (fun b => w0.heap.size ≤ b ∧ b ≠ rb ∧ b ≠ vb) 17 wx x cs
  below : Below w0.heap.size w0 wx
  ne : vb ≠ rb ∧ xb ≠ rb ∧ w0.heap.size ≤ rb ∧ w0.heap.size ≤ vb
section
variable {w0 wx wy : World} {vb rb xb : Nat} {l3 : List Int} {x : V} {cs : List Value} {e e' : Int}
theorem RdSt7.fail (h : RdSt7 w0 vb rb xb l3 x cs e wx) (hr : RS7 (rb + 1) wy rb l3 e') (hk : KeepR rb wx wy) : RdSt7 w0 vb rb xb l3 x cs e' wy := by
  have hb := h.below.size; have hne := h.ne; exact ⟨hr, h.vblk.keep hk ⟨h.vblk.lt, hne.1⟩, h.xblk.keep hk ⟨h.xblk.lt, hne.2.1⟩, h.val.keep hk (fun b hb hlt => ⟨hlt, hb.2.1⟩) fun b hb => hb, h.below.trans (Keep.below (Keep.mono hk fun b (hb : b < w0.heap.size) => ⟨by omega, by omega⟩)), hne⟩
theorem RdSt7.step (h : RdSt7 w0 vb rb xb l3 x cs e wx) (hk : Below wx.heap.size wx wy) : RdSt7 w0 vb rb xb l3 x cs e wy := by
  obtain ⟨sp, cap, h1, h2⟩ := h.rs.ex; exact h.fail (h.rs.keep (Keep.of_below hk) fun b hb => by have := h1.lt; omega) (KeepR.below hk)
end

def DecPost7 (w : World) (l : List Int) (r : Ending) (w' : World) : Prop :=
  Below w.heap.size w w' ∧ ∃ (x : V) (cs : List Value) (e : Int), r = .returned (.tuple #[.agg cs.toArray, .int .i64 e]) ∧ IsVo (fun b => w.heap.size ≤ b) 17 w' x cs ∧
    match readV true l with
    | .ok y _ => x = y ∧ e = 0
    | .bad _ => e ≠ 0
set_option maxHeartbeats 4000000 in
theorem decode7_any {w : World} {v : Value} {l : List Int} (hs : Sl .u8 w v l) (hb : Byt l) (hl : l.length ≤ 140737488355328) :
    Calls Try.prog 63 #[v] w (DecPost7 w l) := by
  refine enter (args := [v]) Try.func63 rfl Try.ntmps63 rfl ?_; have hs0 := SlB.of_sl hs; obtain ⟨sp, cap, rfl, -⟩ := hs; refine K.kgo ?_; refine WL.alloc (z := .agg zCells.toArray) rfl rfl rfl rfl (fun _ => by kernel_rfl) fun vb w1 hf1 => ?_; have hf1' : Fresh w vb w1 60 zCells := hf1; clear hf1; refine K.kgo ?_; refine WL.build [.slice sp l.length cap, .int .i64 0] rfl rfl rfl rfl rfl (by kernel_rfl) ?_; refine WL.box rfl rfl rfl rfl rfl fun rb w2 hf2 => ?_; have hf2' : Fresh w1 rb w2 128 [.slice sp l.length cap, .int .i64 0] := hf2; clear hf2; have hz1 := hf1'.size; have hz2 := hf2'.size; have hvb := hf1'.eq; have hrb := hf2'.eq; have hw12 : Below w.heap.size w w2 := hf1'.below.trans (hf2'.below.mono (by omega)); have hr2 : RS7 (rb + 1) w2 rb l 0 := ⟨Nat.lt_succ_self _, hb, sp, cap, hf2'.blk, (hs0.keep (Keep.of_below hw12) fun b hb => hb).mono fun b hb => by omega⟩; have hblk2 : VBlk 60 w2 vb zCells := hf1'.blk.below hf2'.below hf1'.blk.lt; clear hf1' hf2'; refine K.kgo ?_; refine WL.call rfl rfl rfl rfl rfl Try.func76 rfl (by kernel_rfl) (value7_any 16 1 rfl (by omega) hr2 (by omega)) ?_; rintro _ w3 ⟨x, cs, l3, e3, rfl, hv3, hr3, hk3, ho3⟩; refine ⟨_, rfl, ?_⟩; have hblk3 := hblk2.keep hk3 ⟨hblk2.lt, by omega⟩; refine WL.alloc (z := .agg zCells.toArray) rfl rfl rfl rfl (fun _ => by kernel_rfl) fun xb w4 hf4 => ?_; have hf4' : Fresh w3 xb w4 60 zCells := hf4; clear hf4; have hcs := hv3.len; refine WL.storeRow rfl rfl rfl rfl rfl rfl hf4'.blk hcs rfl hv3.one ?_; have hz3 := hk3.size; have hxb := hf4'.eq; have hz4 := hf4'.size; have hb4 : Below w3.heap.size w3 (w4.setRow xb cs.toArray) := below_setRow hf4'.below (by omega) _; have hx4 : VBlk 60 (w4.setRow xb cs.toArray) xb cs := hf4'.blk.setRow cs; have hz5 : (w4.setRow xb cs.toArray).heap.size = w3.heap.size + 1 := by simpa using hz4
  generalize w4.setRow xb cs.toArray = w5 at hb4 hx4 hz5; have hv5 : IsVo (fun b => w.heap.size ≤ b ∧ b ≠ rb ∧ b ≠ vb) 17 w5 x cs := (hv3.there.keep (Keep.of_below hb4) (fun b _ h => h) fun b hb => hb).mono fun b hb => by have := hb.1; omega
  have hr5 : RS7 (rb + 1) w5 rb l3 e3 := hr3.keep (Keep.of_below hb4) fun b hb => by omega
  have hblk5 : VBlk 60 w5 vb zCells := hblk3.below hb4 hblk3.lt; have hw5 : Below w.heap.size w w5 := by
    refine hw12.trans (Below.trans (Keep.below (Keep.mono hk3 fun b (hb : b < w.heap.size) => ⟨by omega, by omega⟩)) (hb4.mono (by omega)))
  have hne : vb ≠ rb ∧ xb ≠ rb ∧ w.heap.size ≤ rb ∧ w.heap.size ≤ vb := by omega
  have hst : RdSt7 w vb rb xb l3 x cs e3 w5 := ⟨hr5, hblk5, hx4, hv5, hw5, hne⟩; obtain ⟨rsp, rcap, hrc, -⟩ := hr5.ex; have hlen := ho3.len; clear hf4' hv3 hk3 hr3 hr5 hblk5 hx4 hv5 hw5 hblk3 hb4 hz5 hr2 hblk2 hw12 hs0; refine K.kgo ?_; refine WL.load rfl rfl rfl rfl rfl rfl (hrc.cell 1 (by simp)) ?_; refine K.kgo ?_; refine WC.mid (fun _ : Int => [(0, .slice sp l.length cap), (2, .pointer (some ⟨vb, 0, none⟩)), (4, .pointer (some ⟨rb, 0, none⟩)), (5, .pointer (some ⟨xb, 0, none⟩))]) (fun e4 wx => e4 = (if e3 = 0 then chk 16 x else e3) ∧ RdSt7 w vb rb xb l3 x cs e4 wx) rfl ?_ ?_
  · by_cases he : e3 = 0
    · refine WC.condT rfl he ?_
      refine K.kgo ?_; refine WL.loadMid rfl rfl rfl rfl rfl rfl (VBlk.rangeAt hst.xblk) hcs ?_; refine WL.call rfl rfl rfl rfl rfl Try.func66 rfl (by kernel_rfl) (rCheck_any hst.val.isV) ?_; rintro _ w6 ⟨rfl, hb6⟩; refine ⟨_, rfl, ?_⟩; have hst6 := hst.step hb6; obtain ⟨rsp6, rcap6, hrc6, -⟩ := hst6.rs.ex; refine K.kgo ?_; refine WL.store rfl rfl rfl rfl rfl rfl (by kernel_rfl) (hrc6.cell 1 (by simp)) (hrc6.free 1) ?_; exact WL.nil (WQ.meet _ ⟨rfl, rfl, rfl, rfl, trivial⟩ ⟨by rw [if_pos he], hst6.fail (hst6.rs.setE _) (KeepR.set _ _ _ _)⟩)
    · refine WC.condF rfl he ?_
      refine K.kgo ?_; exact WQ.meet _ ⟨rfl, rfl, rfl, rfl, trivial⟩ ⟨by rw [if_neg he], hst⟩
  rintro e4 w6 ⟨he4, hst6⟩; clear hrc hst; obtain ⟨rsp, rcap, hrc, -⟩ := hst6.rs.ex; refine K.kgn ?_; refine WL.mid (fun b : Bool => [(0, .slice sp l.length cap), (2, .pointer (some ⟨vb, 0, none⟩)), (4, .pointer (some ⟨rb, 0, none⟩)), (5, .pointer (some ⟨xb, 0, none⟩)), (33, .bool b)]) (fun b wx => b = decide (e4 = 0 ∧ 0 < l3.length) ∧ wx = w6) rfl ?_ ?_
  · have c0 := hrc.cell 0 (by simp)
    refine K.kgo ?_; refine WL.load rfl rfl rfl rfl rfl rfl (hrc.cell 1 (by simp)) ?_
    by_cases he : e4 = 0
    · by_cases h0 : 0 < l3.length
      · refine K.kgl ?_
        exact WQ.meet true ⟨rfl, rfl, rfl, rfl, rfl, trivial⟩ ⟨by simp [he, h0], rfl⟩
      · refine K.kgl ?_
        exact WQ.meet false ⟨rfl, rfl, rfl, rfl, rfl, trivial⟩ ⟨by simp [h0], rfl⟩
    · refine K.kgo ?_
      exact WQ.meet false ⟨rfl, rfl, rfl, rfl, rfl, trivial⟩ ⟨by simp [he], rfl⟩
  rintro b _ ⟨hb5, rfl⟩; refine WC.mid (fun _ : Int => [(0, .slice sp l.length cap), (2, .pointer (some ⟨vb, 0, none⟩)), (4, .pointer (some ⟨rb, 0, none⟩)), (5, .pointer (some ⟨xb, 0, none⟩))]) (fun e5 wx => e5 = (if e4 = 0 then (if 0 < l3.length then 3 else 0) else e4) ∧ RdSt7 w vb rb xb l3 x cs e5 wx) rfl ?_ ?_
  · cases b with
    | true =>
      obtain ⟨q1, q2⟩ := of_decide_eq_true hb5.symm; refine K.kgo ?_; refine WL.store rfl rfl rfl rfl rfl rfl (by kernel_rfl) (hrc.cell 1 (by simp)) (hrc.free 1) ?_; exact WL.nil (WQ.meet _ ⟨rfl, rfl, rfl, rfl, trivial⟩ ⟨by rw [if_pos q1, if_pos q2], hst6.fail (hst6.rs.setE _) (KeepR.set _ _ _ _)⟩)
    | false =>
      have hq := of_decide_eq_false hb5.symm; refine K.kgo ?_; refine WQ.meet e4 ⟨rfl, rfl, rfl, rfl, trivial⟩ ⟨?_, hst6⟩
      by_cases q1 : e4 = 0
      · rw [if_pos q1, if_neg (fun q2 => hq ⟨q1, q2⟩), q1]
      · rw [if_neg q1]
  rintro e5 w7 ⟨he5, hst7⟩; clear hrc hst6 hb5; obtain ⟨rsp, rcap, hrc, -⟩ := hst7.rs.ex; refine K.kgn ?_; refine WL.mid (fun b : Bool => [(0, .slice sp l.length cap), (2, .pointer (some ⟨vb, 0, none⟩)), (4, .pointer (some ⟨rb, 0, none⟩)), (5, .pointer (some ⟨xb, 0, none⟩)), (46, .bool b)]) (fun b wx => b = decide (e5 = 0 ∧ 65536 < l.length) ∧ wx = w7) rfl ?_ ?_
  · refine K.kgo ?_
    refine WL.load rfl rfl rfl rfl rfl rfl (hrc.cell 1 (by simp)) ?_
    by_cases he : e5 = 0
    · by_cases h0 : 65536 < l.length
      · refine K.kgo ?_
        exact WQ.meet true ⟨rfl, rfl, rfl, rfl, rfl, trivial⟩ ⟨by simp [he, h0], rfl⟩
      · refine K.kgo ?_
        exact WQ.meet false ⟨rfl, rfl, rfl, rfl, rfl, trivial⟩ ⟨by simp [h0], rfl⟩
    · refine K.kgo ?_
      exact WQ.meet false ⟨rfl, rfl, rfl, rfl, rfl, trivial⟩ ⟨by simp [he], rfl⟩
  rintro b _ ⟨hb5, rfl⟩; refine WC.mid (fun _ : Int => [(0, .slice sp l.length cap), (2, .pointer (some ⟨vb, 0, none⟩)), (4, .pointer (some ⟨rb, 0, none⟩)), (5, .pointer (some ⟨xb, 0, none⟩))]) (fun e6 wx => e6 = (if e5 = 0 then (if 65536 < l.length then 5 else 0) else e5) ∧ RdSt7 w vb rb xb l3 x cs e6 wx) rfl ?_ ?_
  · cases b with
    | true =>
      obtain ⟨q1, q2⟩ := of_decide_eq_true hb5.symm; refine K.kgo ?_; refine WL.store rfl rfl rfl rfl rfl rfl (by kernel_rfl) (hrc.cell 1 (by simp)) (hrc.free 1) ?_; exact WL.nil (WQ.meet _ ⟨rfl, rfl, rfl, rfl, trivial⟩ ⟨by rw [if_pos q1, if_pos q2], hst7.fail (hst7.rs.setE _) (KeepR.set _ _ _ _)⟩)
    | false =>
      have hq := of_decide_eq_false hb5.symm; refine K.kgo ?_; refine WQ.meet e5 ⟨rfl, rfl, rfl, rfl, trivial⟩ ⟨?_, hst7⟩
      by_cases q1 : e5 = 0
      · rw [if_pos q1, if_neg (fun q2 => hq ⟨q1, q2⟩), q1]
      · rw [if_neg q1]
  rintro e6 w8 ⟨he6, hst8⟩; clear hrc hst7 hb5; obtain ⟨rsp, rcap, hrc, -⟩ := hst8.rs.ex
  -- what is told
  have hout : match readV true l with
      | .ok y _ => e6 = 0 ∧ x = y
      | .bad _ => e6 ≠ 0 := by
    have h3 := ho3.ok rfl; unfold readV; cases hq : rdV 16 l with
    | bad z =>
      rw [hq] at h3; obtain ⟨rfl, hz⟩ := h3; rw [if_neg hz] at he4; subst he4; rw [if_neg hz] at he5; subst he5; rw [if_neg hz] at he6; subst he6; exact hz
    | ok y q =>
      rw [hq] at h3; obtain ⟨rfl, rfl, rfl⟩ := h3; rw [if_pos rfl] at he4; simp only
      by_cases hc : chk 16 x = 0
      · rw [if_neg (by simpa using hc)]
        rw [he4, if_pos hc] at he5
        by_cases h1 : 0 < l3.length
        · rw [if_pos h1] at he5
          rw [if_pos ⟨trivial, h1⟩]; rw [he5] at he6; simp at he6
          show e6 ≠ 0
          omega
        · rw [if_neg h1] at he5
          rw [if_neg (fun q => h1 q.2)]; rw [he5, if_pos rfl] at he6
          by_cases h2 : 65536 < l.length - l3.length
          · rw [if_pos h2]
            rw [if_pos (by omega)] at he6
            show e6 ≠ 0
            omega
          · rw [if_neg h2]
            rw [if_neg (by omega)] at he6; exact ⟨he6, rfl⟩
      · rw [if_pos hc]
        rw [he4, if_neg hc] at he5; rw [he5, if_neg hc] at he6
        show e6 ≠ 0
        rw [he6]; exact hc
  refine K.kgo ?_; refine WL.load rfl rfl rfl rfl rfl rfl (hrc.cell 1 (by simp)) ?_
  by_cases h6 : e6 = 0
  · refine K.kgo ?_
    refine WL.loadMid rfl rfl rfl rfl rfl rfl (VBlk.rangeAt hst8.xblk) hcs ?_; refine WL.storeRow rfl rfl rfl rfl rfl rfl hst8.vblk hcs rfl hst8.val.one ?_; refine K.kgo ?_; have hset : Keep (fun b => b ≠ vb) w8 (w8.setRow vb cs.toArray) := Keep.setRow (Keep.refl _ w8) (fun hk => hk rfl) _; refine WQ.retCT rfl rfl rfl rfl hcs (hst8.vblk.setRow cs) ⟨Keep.below (Keep.setRow (Keep.of_below hst8.below) (fun hk => by omega) _), x, cs, 0, rfl, (hst8.val.keep hset (fun b hb _ => hb.2.2) fun b hb => hb.1), ?_⟩; cases hq : readV true l with
    | ok y q => rw [hq] at hout; exact ⟨hout.2, rfl⟩
    | bad z => rw [hq] at hout; exact absurd h6 hout
  · refine K.kgo ?_
    refine WC.drawn 6 (fun wx => VBlk 128 wx rb [.slice rsp l3.length rcap, .int .i64 e6]) fun w9 hd9 => ?_; have hst9 := hst8.step (hd9.below _); have hS : VBlk 128 w9 rb [.slice rsp l3.length rcap, .int .i64 e6] := hrc.below (hd9.below _) hrc.lt; refine WD.build zCells 0 rfl (by kernel_rfl) rfl rfl (fun _ _ _ _ _ h => h) rfl rfl rfl (by kernel_rfl) (.inr hS) ?_; refine K.fr [1, 2, 3] hS ?_; refine K.wl 4 [6] rfl rfl rfl rfl rfl rfl rfl (fun wx hx => hx.cell 1 (by simp)) hS ?_; refine K.wo 5 ?_; refine WL.storeRow rfl rfl rfl rfl rfl rfl hst9.vblk rfl rfl (zV_is (fun _ => True) 0 w9).one ?_; have hne2 := hst9.ne; have hS2 : VBlk 128 (w9.setRow vb zCells.toArray) rb [.slice rsp l3.length rcap, .int .i64 e6] := hS.setRow_other _ (by omega); have hvb2 := hst9.vblk.setRow zCells; have hbel2 : Below w.heap.size w (w9.setRow vb zCells.toArray) := Keep.below (Keep.setRow (Keep.of_below hst9.below) (fun hk => by omega) _); generalize w9.setRow vb zCells.toArray = w10 at hS2 hvb2 hbel2; refine K.di hS2 ?_; refine K.wo 6 ?_; refine WL.pure rfl rfl rfl rfl ?_; refine K.dl ?_; refine WD.done (by kernel_rfl) ?_; refine K.kgo ?_; refine WQ.retCT rfl rfl rfl rfl rfl hvb2 ⟨hbel2, zV, zCells, e6, rfl, zV_is _ _ _, ?_⟩; cases hq : readV true l with
    | ok y q => rw [hq] at hout; exact absurd hout.1 h6
    | bad z => exact h6
end K
end Go.Proofs.Ytdkkaliiofcflaa

namespace Go.Proofs.Ytdkkaliiofcflaa
open Go.RowKit
namespace K
variable {n : NN} {Q : Exit → Act → World → Prop} {l : Env} {w w' : World} {ops : Array Oper} {o : Oper} {rest : List Oper} {d : Nat}
theorem all_run {a : Act} {t e s m b off : Nat} {x : Operand} (ho : o.op = .slice t x none none none) (ht : tyOf ty t = some (.arr m e s)) (hx : a.eval x = .pointer (some ⟨b, off, none⟩)) : (execOp a.eval o).run Try.prog w = .ok (.value (.slice (some ⟨b, off, none⟩) m m)) w := by
  obtain ⟨hu, hse, -⟩ := TyOk.of tyOk ht; have h1 : Try.prog.elem t = e := by simp [Program.elem, hu]
  have h2 : Try.prog.arrayLen t = m := by simp [Program.arrayLen, hu]
  have hs : (sizeOf e).run Try.prog w = .ok s w := by
    cases hq : Try.prog.info? e with
    | none => rw [hq] at hse; cases hse
    | some q => rw [hq] at hse; simp at hse; simp [sizeOf, typeInfo, hq, hse]
  have hr := run_sliceAt_array_all (P := Try.prog) w t ⟨b, off, none⟩ (by rw [h1, h2]; exact hu); unfold execOp; rw [ho]; have ha : slicedAt ⟨b, off, none⟩ 0 m m s = .slice (some ⟨b, off, none⟩) m m := by
    unfold slicedAt
    by_cases h0 : m = 0
    · rw [if_pos h0]; simp
    · rw [if_neg h0, Nat.zero_mul]; rfl
  simp [hx, hr, h1, h2, hs, ha]
theorem WL.all {t e s m b off : Nat} {x : Operand} (hg : o.guard = none) (hd : o.dst = some d) (hn : Nat.blt d n.n = true) (ho : o.op = .slice t x none none none) (ht : tyOf ty t = some (.arr m e s)) (hx : evl l x = some (.pointer (some ⟨b, off, none⟩)))
    (h : WL n ops Q rest ((d, .slice (some ⟨b, off, none⟩) m m) :: l) w) : WL n ops Q (o :: rest) l w := WL.step hg hd hn (fun _ ha => all_run ho ht (ha.eval hx)) h
section
variable {S : World → Prop} {m fuel : Nat} {listed : Array Bool}
theorem WD.all {oi : Oper} {t e s mm b off : Nat} {x : Operand} (i : Nat) (hi : ops[i]? = some oi) (hs : mayB ops listed i m = true) (hd : oi.dst = some d) (hn : Nat.blt d n.n = true) (hQ : Passes Q) (hw : wants ops l oi = some true)
    (ho : oi.op = .slice t x none none none) (ht : tyOf ty t = some (.arr mm e s)) (hx : evl l x = some (.pointer (some ⟨b, off, none⟩))) (hS : listed.getD m false = true ∨ S w)
    (h : WD n ops Q S m fuel (listed.setIfInBounds i true) ((d, .slice (some ⟨b, off, none⟩) mm mm) :: l) w) : WD n ops Q S m (fuel + 1) listed l w :=
  WD.first i hi hs hd hn hQ (fun _ ha => .inl ⟨wants_run ha hw, fun _ _ => all_run ho ht (ha.eval hx)⟩) hS h
end
end K
end Go.Proofs.Ytdkkaliiofcflaa

namespace Go.Proofs.Ytdkkaliiofcflaa
open Go.RowKit
namespace K
variable {n : NN} {Q : Exit → Act → World → Prop} {l : Env} {w w' : World} {ops : Array Oper} {o : Oper} {rest : List Oper} {d : Nat}
theorem arr_facts {t e s m : Nat} (ht : tyOf ty t = some (.arr m e s)) : Try.prog.underlying t = some (.array (Try.prog.arrayLen t) (Try.prog.elem t)) ∧ Try.prog.arrayLen t = m ∧ ∀ w, (sizeOf (Try.prog.elem t)).run Try.prog w = .ok s w := by
  obtain ⟨hu, hse, -⟩ := TyOk.of tyOk ht; have h1 : Try.prog.elem t = e := by simp [Program.elem, hu]
  have h2 : Try.prog.arrayLen t = m := by simp [Program.arrayLen, hu]
  refine ⟨by rw [h1, h2]; exact hu, h2, fun w => ?_⟩; rw [h1]; cases hq : Try.prog.info? e with
  | none => rw [hq] at hse; cases hse
  | some q => rw [hq] at hse; simp at hse; simp [sizeOf, typeInfo, hq, hse]
theorem idxA_run {a : Act} {t e s m b off : Nat} {x i : Operand} {k : IntKind} {z : Int} {j : Nat} (ho : o.op = .indexAddr t x i) (ht : tyOf ty t = some (.arr m e s)) (hx : a.eval x = .pointer (some ⟨b, off, none⟩)) (hi : a.eval i = .int k z) (hz : z = (j : Int)) (hj : j < m) :
    (execOp a.eval o).run Try.prog w = .ok (.value (.pointer (some ⟨b, off + j * s, none⟩))) w := by
  obtain ⟨hu, hm, hs⟩ := arr_facts ht; unfold execOp; rw [ho]; simp only [hx, hi, Sem.run_bind, run_indexAt_array w t _ k z hu]; rw [if_pos (by rw [hm]; omega), hs, hz]; simp [Addr.add_mid]
theorem WL.idxA {t e s m b off : Nat} {x i : Operand} {k : IntKind} {z : Int} (j q : Nat) (hg : o.guard = none) (hd : o.dst = some d) (hn : Nat.blt d n.n = true) (ho : o.op = .indexAddr t x i) (ht : tyOf ty t = some (.arr m e s))
    (hx : evl l x = some (.pointer (some ⟨b, off, none⟩))) (hi : evl l i = some (.int k z)) (hz : z = (j : Int)) (hj : j < m) (hq : off + j * s = q) (h : WL n ops Q rest ((d, .pointer (some ⟨b, q, none⟩)) :: l) w) : WL n ops Q (o :: rest) l w :=
  WL.step hg hd hn (fun _ ha => by rw [← hq]; exact idxA_run ho ht (ha.eval hx) (ha.eval hi) hz hj) h
section
variable {S : World → Prop} {m fuel : Nat} {listed : Array Bool}
end
end K
end Go.Proofs.Ytdkkaliiofcflaa

namespace Go.Proofs.Ytdkkaliiofcflaa
namespace Crc

def P : BitVec 32 := 0xedb88320#32
def step (c : BitVec 32) : BitVec 32 := (c >>> 1) ^^^ (if c.getLsbD 0 then P else 0#32)
def tab : List Nat := [0x00000000, 0x1db71064, 0x3b6e20c8, 0x26d930ac, 0x76dc4190, 0x6b6b51f4, 0x4db26158, 0x5005713c, 0xedb88320, 0xf00f9344, 0xd6d6a3e8, 0xcb61b38c, 0x9b64c2b0, 0x86d3d2d4, 0xa00ae278, 0xbdbdf21c]
def nib (c : BitVec 32) : BitVec 32 := (c >>> 4) ^^^ BitVec.ofNat 32 (tab.getD (c.toNat % 16) 0)
theorem step_xor (a b : BitVec 32) : step (a ^^^ b) = step a ^^^ step b := by
  unfold step; rw [BitVec.getLsbD_xor, BitVec.ushiftRight_xor_distrib]; cases a.getLsbD 0 <;> cases b.getLsbD 0
  · simp
  · simp [BitVec.xor_assoc]
  · simp only [Bool.xor_false, if_true, Bool.false_eq_true, if_false, BitVec.xor_zero]
    rw [BitVec.xor_assoc, BitVec.xor_assoc, BitVec.xor_comm (b >>> 1)]
  · simp only [Bool.xor_true, Bool.not_true, Bool.false_eq_true, if_false, if_true, BitVec.xor_zero]
    rw [BitVec.xor_assoc, ← BitVec.xor_assoc P, BitVec.xor_comm P, BitVec.xor_assoc, BitVec.xor_self, BitVec.xor_zero]
theorem step_even (c : BitVec 32) (h : c.getLsbD 0 = false) : step c = c >>> 1 := by unfold step; rw [h]; simp
theorem low_high (c : BitVec 32) : c = (c &&& 0xfffffff0#32) ^^^ (c &&& 15#32) := by
  apply BitVec.eq_of_getLsbD_eq
  intro i hi; rw [BitVec.getLsbD_xor, BitVec.getLsbD_and, BitVec.getLsbD_and]; have : ∀ i : Fin 32, (0xfffffff0#32).getLsbD i.val = !((15#32).getLsbD i.val) := by decide
  rw [this ⟨i, hi⟩]; cases c.getLsbD i <;> cases (15#32).getLsbD i <;> rfl
theorem step4_high (c : BitVec 32) : step (step (step (step (c &&& 0xfffffff0#32)))) = (c >>> 4) := by
  have h0 : (c &&& 0xfffffff0#32).getLsbD 0 = false := by rw [BitVec.getLsbD_and]; simp
  have h1 : ((c &&& 0xfffffff0#32) >>> 1).getLsbD 0 = false := by rw [BitVec.getLsbD_ushiftRight, BitVec.getLsbD_and]; simp
  have h2 : ((c &&& 0xfffffff0#32) >>> 1 >>> 1).getLsbD 0 = false := by rw [BitVec.getLsbD_ushiftRight, BitVec.getLsbD_ushiftRight, BitVec.getLsbD_and]; simp
  have h3 : ((c &&& 0xfffffff0#32) >>> 1 >>> 1 >>> 1).getLsbD 0 = false := by rw [BitVec.getLsbD_ushiftRight, BitVec.getLsbD_ushiftRight, BitVec.getLsbD_ushiftRight, BitVec.getLsbD_and]; simp
  rw [step_even _ h0, step_even _ h1, step_even _ h2, step_even _ h3]
  apply BitVec.eq_of_getLsbD_eq
  intro i hi; simp only [BitVec.getLsbD_ushiftRight, BitVec.getLsbD_and]; have : ∀ i : Fin 32, (0xfffffff0#32).getLsbD (1 + (1 + (1 + (1 + i.val)))) = decide (4 + i.val < 32) := by decide
  rw [this ⟨i, hi⟩]; have e : 1 + (1 + (1 + (1 + i))) = 4 + i := by omega
  rw [e]
  by_cases h : 4 + i < 32
  · simp [h]
  · rw [BitVec.getLsbD_of_ge c (4 + i) (by omega)]; simp
theorem step4_low : ∀ k : Fin 16, step (step (step (step (BitVec.ofNat 32 k.val)))) = BitVec.ofNat 32 (tab.getD k.val 0) := by decide
theorem step4 (c : BitVec 32) : step (step (step (step c))) = nib c := by
  have hl : c &&& 15#32 = BitVec.ofNat 32 (c.toNat % 16) := by
    apply BitVec.eq_of_toNat_eq
    rw [BitVec.toNat_and, BitVec.toNat_ofNat]; have h15 : (15 % 2 ^ 32 : Nat) = 2 ^ 4 - 1 := by decide
    rw [BitVec.toNat_ofNat, h15, Nat.and_two_pow_sub_one_eq_mod]; omega
  have h16 : c.toNat % 16 < 16 := Nat.mod_lt _ (by omega)
  conv => lhs; rw [low_high c]
  rw [step_xor, step_xor, step_xor, step_xor, step4_high, hl]; have := step4_low ⟨c.toNat % 16, h16⟩; simp only at this; rw [this]
  rfl
def step8 (c : BitVec 32) : BitVec 32 := step (step (step (step (step (step (step (step c)))))))
theorem step8_nib (c : BitVec 32) : step8 c = nib (nib c) := by
  unfold step8; rw [step4, step4]
def run (c : BitVec 32) : List Int → BitVec 32
  | [] => c
  | x :: r => run (step8 (c ^^^ BitVec.ofInt 32 x)) r
def sum (l : List Int) : BitVec 32 := ~~~ (run (0xffffffff#32) l)
theorem run_app (c : BitVec 32) (a b : List Int) : run c (a ++ b) = run (run c a) b := by
  induction a generalizing c with
  | nil => rfl
  | cons x r ih => exact ih _
def crcN (l : List Int) : Nat := (sum l).toNat
theorem crcN_lt (l : List Int) : crcN l < 4294967296 := (sum l).isLt
def be4 (n : Nat) : List Int := [((n / 16777216 % 256 : Nat) : Int), ((n / 65536 % 256 : Nat) : Int), ((n / 256 % 256 : Nat) : Int), ((n % 256 : Nat) : Int)]
def num4 : List Int → Nat
  | a :: b :: c :: d :: _ => a.toNat * 16777216 + b.toNat * 65536 + c.toNat * 256 + d.toNat
  | _ => 0
theorem num4_be4 {n : Nat} (h : n < 4294967296) (r : List Int) : num4 (be4 n ++ r) = n := by
  show (((n / 16777216 % 256 : Nat) : Int)).toNat * 16777216 + (((n / 65536 % 256 : Nat) : Int)).toNat * 65536 + (((n / 256 % 256 : Nat) : Int)).toNat * 256 + (((n % 256 : Nat) : Int)).toNat = n
  simp only [Int.toNat_natCast]; omega
theorem be4_byt (n : Nat) : ∀ c ∈ be4 n, 0 ≤ c ∧ c ≤ 255 := by
  intro c hc; unfold be4 at hc; simp only [List.mem_cons, List.not_mem_nil, or_false] at hc; rcases hc with rfl | rfl | rfl | rfl <;> omega
theorem be4_num4 {a b c d : Int} (ha : 0 ≤ a ∧ a ≤ 255) (hb : 0 ≤ b ∧ b ≤ 255) (hc : 0 ≤ c ∧ c ≤ 255) (hd : 0 ≤ d ∧ d ≤ 255) (r : List Int) : be4 (num4 (a :: b :: c :: d :: r)) = [a, b, c, d] ∧ num4 (a :: b :: c :: d :: r) < 4294967296 := by
  refine ⟨?_, by show a.toNat * 16777216 + b.toNat * 65536 + c.toNat * 256 + d.toNat < 4294967296; omega⟩
  show be4 (a.toNat * 16777216 + b.toNat * 65536 + c.toNat * 256 + d.toNat) = _
  unfold be4; have h1 : ((a.toNat * 16777216 + b.toNat * 65536 + c.toNat * 256 + d.toNat) / 16777216 % 256 : Nat) = a.toNat := by omega
  have h2 : ((a.toNat * 16777216 + b.toNat * 65536 + c.toNat * 256 + d.toNat) / 65536 % 256 : Nat) = b.toNat := by omega
  have h3 : ((a.toNat * 16777216 + b.toNat * 65536 + c.toNat * 256 + d.toNat) / 256 % 256 : Nat) = c.toNat := by omega
  have h4 : ((a.toNat * 16777216 + b.toNat * 65536 + c.toNat * 256 + d.toNat) % 256 : Nat) = d.toNat := by omega
  rw [h1, h2, h3, h4, Int.toNat_of_nonneg ha.1, Int.toNat_of_nonneg hb.1, Int.toNat_of_nonneg hc.1, Int.toNat_of_nonneg hd.1]
theorem num4_lt (l : List Int) (h : ∀ c ∈ l, 0 ≤ c ∧ c ≤ 255) : num4 l < 4294967296 := by
  match l, h with
  | [], _ => simp [num4]
  | [_], _ => simp [num4]
  | [_, _], _ => simp [num4]
  | [_, _, _], _ => simp [num4]
  | a :: b :: c :: d :: r, h => exact (be4_num4 (h a (by simp)) (h b (by simp)) (h c (by simp)) (h d (by simp)) r).2
end Crc
end Go.Proofs.Ytdkkaliiofcflaa

namespace Go.Proofs.Ytdkkaliiofcflaa
open Go.RowKit
namespace K
theorem xor32 (c : BitVec 32) (x : Int) : bits .xor .u32 (c.toNat : Int) x = ((c ^^^ BitVec.ofInt 32 x).toNat : Int) := by
  show IntKind.u32.wrap ((BitVec.ofInt 32 (c.toNat : Int) ^^^ BitVec.ofInt 32 x).toNat : Int) = _
  have h := (c ^^^ BitVec.ofInt 32 x).isLt; rw [BitVec.ofInt_natCast, BitVec.ofNat_toNat, BitVec.setWidth_eq, IntKind.wrap_u32]; omega
theorem and15_32 (c : BitVec 32) : bits .and .u32 (c.toNat : Int) 15 = ((c.toNat % 16 : Nat) : Int) := by
  have h := c.isLt; have := Go.bits_mask .u32 32 (by decide) (fun n h0 h1 => by rw [IntKind.wrap_u32]; omega) 4 (by decide) (c.toNat : Int) (by omega) (by omega); rw [show ((2 : Int) ^ 4 - 1) = 15 by decide, show ((2 : Int) ^ 4) = 16 by decide] at this; omega
theorem nib32 (c : BitVec 32) : bits .xor .u32 ((c.toNat : Int) / ((2 ^ min 4 IntKind.u32.bits : Nat) : Int)) ((Crc.tab.getD (c.toNat % 16) 0 : Nat) : Int) = ((Crc.nib c).toNat : Int) := by
  have h := c.isLt; have e : ((c.toNat : Int) / ((2 ^ min 4 IntKind.u32.bits : Nat) : Int)) = ((c >>> 4).toNat : Int) := by
    rw [show ((2 ^ min 4 IntKind.u32.bits : Nat) : Int) = 16 from rfl, BitVec.toNat_ushiftRight, Nat.shiftRight_eq_div_pow]; omega
  rw [e, xor32, BitVec.ofInt_natCast]
  rfl
def tabC : List Value := Crc.tab.map fun (n : Nat) => Value.int .u32 (n : Int)
theorem tab_cell {w : World} {g : Nat} {T : TypeId} (h : VBlk T w g tabC) (k : Nat) (hk : k < 16) : w.cell? ⟨g, k, none⟩ = some (.int .u32 ((Crc.tab.getD k 0 : Nat) : Int)) := by
  have hr : w.rangeAt g 0 tabC := VBlk.rangeAt h; have := hr k (.int .u32 ((Crc.tab.getD k 0 : Nat) : Int)) (by
    unfold tabC; have : k < Crc.tab.length := hk; simp [this])
  simpa using this
theorem nth_mem' (l : List Int) (i : Nat) (h : i < l.length) : nth l i ∈ l := by simp [nth, h]
theorem take_succ' (l : List Int) (i : Nat) (h : i < l.length) : l.take (i + 1) = l.take i ++ [nth l i] := by rw [List.take_add_one]; simp [nth, h]
theorem sum_any {w : World} {v : Value} {l : List Int} (hv : Sl .u8 w v l) (hb : ∀ c ∈ l, 0 ≤ c ∧ c ≤ 255) (hl : l.length ≤ 140737488355328) :
    Calls Try.prog 49 #[v] w fun e w' => e = .returned (.int .u32 (Crc.crcN l : Nat)) ∧ Below w.heap.size w w' := by
  obtain ⟨sp, cap, rfl, -⟩ := id hv; refine enter (args := [.slice sp l.length cap]) Try.func49 rfl Try.ntmps49 rfl ?_; refine K.kgo ?_; refine WL.build tabC rfl rfl rfl rfl rfl (by kernel_rfl) ?_; refine WL.alloc (z := .agg (List.replicate 16 (Value.int .u32 0)).toArray) rfl rfl rfl rfl (fun _ => by kernel_rfl) fun g w1 hf0 => ?_; have hf : Fresh w g w1 112 (List.replicate 16 (Value.int .u32 0)) := hf0; clear hf0; refine K.kgo ?_; refine WL.storeRow rfl rfl rfl rfl rfl rfl hf.blk rfl rfl (by intro u hu; unfold tabC at hu; simp only [List.mem_map] at hu; obtain ⟨a, -, rfl⟩ := hu; rfl) ?_; have hB : Below w.heap.size w (w1.setRow g tabC.toArray) := below_setRow hf.below (by have := hf.eq; omega) _; have hT := hf.blk.setRow tabC; have hsl : Sl .u8 (w1.setRow g tabC.toArray) (.slice sp l.length cap) l := hv.of_below hB; generalize w1.setRow g tabC.toArray = w2 at hB hT hsl ⊢; clear hf hv; refine K.kgo ?_; refine WC.loop (fun i : Nat × BitVec 32 => [(3, .pointer (some ⟨g, 0, none⟩)), (4, .int .u32 (i.2.toNat : Int)), (8, .slice sp l.length cap), (9, .int .i64 l.length), (10, .int .i64 i.1)])
    (fun i w' => i.1 ≤ l.length ∧ i.2 = Crc.run 0xffffffff#32 (l.take i.1) ∧ w' = w2) (fun i => l.length - i.1) (0, 0xffffffff#32) ⟨rfl, rfl, rfl, rfl, rfl, trivial⟩ ⟨Nat.zero_le _, rfl, rfl⟩ ?_
  rintro ⟨i, c⟩ _ ⟨hi, hc, rfl⟩; simp only at hi hc ⊢
  by_cases h : i < l.length
  · have hbc := hb (nth l i) (nth_mem' l i h)
    have hu : IntKind.u32.wrap (nth l i) = nth l i := by rw [IntKind.wrap_u32]; omega
    refine K.kgo ?_; refine WL.idxI i rfl rfl rfl rfl rfl rfl hsl rfl rfl h fun p hp => ?_; refine K.kgl ?_; have e1 : bits .xor .u32 (c.toNat : Int) (IntKind.u32.wrap (nth l i)) = ((c ^^^ BitVec.ofInt 32 (nth l i)).toNat : Int) := by rw [hu]; exact xor32 c _
    have hnext : Crc.run 0xffffffff#32 (l.take (i + 1)) = Crc.nib (Crc.nib (c ^^^ BitVec.ofInt 32 (nth l i))) := by
      rw [take_succ' l i h, Crc.run_app, ← hc, ← Crc.step8_nib]; rfl
    generalize hd : c ^^^ BitVec.ofInt 32 (nth l i) = d at e1 hnext; have hd16 : d.toNat % 16 < 16 := by omega
    have hn16 : (Crc.nib d).toNat % 16 < 16 := by omega
    refine WL.as 4 (.int .u32 (d.toNat : Int)) rfl (congrArg (Value.int .u32) e1) ?_; refine WL.as 19 (.int .u32 ((d.toNat : Int) / ((2 ^ min 4 IntKind.u32.bits : Nat) : Int))) rfl (congrArg (fun z => Value.int .u32 (z / ((2 ^ min 4 IntKind.u32.bits : Nat) : Int))) e1) ?_; refine WL.as 21 (.int .u32 ((d.toNat % 16 : Nat) : Int)) rfl (by rw [e1, and15_32]) ?_; refine WL.idxA (d.toNat % 16) (d.toNat % 16) rfl rfl rfl rfl rfl rfl rfl rfl hd16 (by omega) ?_; have hcell := tab_cell hT (d.toNat % 16) hd16; refine K.kgl ?_; refine WL.as 4 (.int .u32 ((Crc.nib d).toNat : Int)) rfl (congrArg (Value.int .u32) (nib32 d)) ?_; refine WL.as 26 (.int .u32 (((Crc.nib d).toNat : Int) / ((2 ^ min 4 IntKind.u32.bits : Nat) : Int))) rfl (congrArg (fun z => Value.int .u32 (z / ((2 ^ min 4 IntKind.u32.bits : Nat) : Int))) (nib32 d)) ?_; refine WL.as 28 (.int .u32 (((Crc.nib d).toNat % 16 : Nat) : Int)) rfl (by rw [nib32, and15_32]) ?_; refine WL.idxA ((Crc.nib d).toNat % 16) ((Crc.nib d).toNat % 16) rfl rfl rfl rfl rfl rfl rfl rfl hn16 (by omega) ?_; have hcell2 := tab_cell hT ((Crc.nib d).toNat % 16) hn16; refine K.kgl ?_; refine WQ.again (i + 1, Crc.nib (Crc.nib d)) ⟨rfl, congrArg (fun z => some (Value.int .u32 z)) (nib32 (Crc.nib d)), rfl, rfl, rfl, trivial⟩ ⟨by show i + 1 ≤ l.length; omega, hnext.symm, rfl⟩ (by show l.length - (i + 1) < l.length - i; omega)
  · have hfin : bits .xor .u32 (if IntKind.u32.signed = true then -1 else IntKind.u32.max) (c.toNat : Int) = ((Crc.crcN l : Nat) : Int) := by
      rw [List.take_of_length_le (by omega)] at hc
      show bits .xor .u32 4294967295 (c.toNat : Int) = ((Crc.sum l).toNat : Int)
      have := xor32 0xffffffff#32 (c.toNat : Int); rw [show (((0xffffffff#32).toNat : Nat) : Int) = 4294967295 from rfl] at this; rw [this, BitVec.ofInt_natCast, BitVec.ofNat_toNat, BitVec.setWidth_eq]; unfold Crc.sum; rw [← hc, show (0xffffffff#32 : BitVec 32) = BitVec.allOnes 32 by decide, BitVec.allOnes_xor]
    refine K.kgo ?_; exact WQ.ret1 (v := .int .u32 (Crc.crcN l : Nat)) rfl (congrArg (fun z => some (Value.int .u32 z)) hfin) ⟨rfl, hB⟩
end K
end Go.Proofs.Ytdkkaliiofcflaa

namespace Go.Proofs.Ytdkkaliiofcflaa
namespace Frm
open Crc
abbrev Byt (l : List Int) : Prop := ∀ c ∈ l, 0 ≤ c ∧ c ≤ 255
def headF (n : Nat) : List Int := be4 n ++ be4 (crcN (be4 n))
def frameL (p : List Int) : List Int := headF p.length ++ (p ++ be4 (crcN (headF p.length ++ p)))
def decF (l : List Int) : Int × List Int × Nat :=
  if l.length < 8 then (2, [], 0)
  else if num4 (l.drop 4) ≠ crcN (be4 (num4 l)) then (4, [], 0)
  else if 524288 < num4 l then (5, [], 0)
  else if l.length < num4 l + 12 then (2, [], 0)
  else if num4 (l.drop (8 + num4 l)) ≠ crcN (l.take (8 + num4 l)) then (4, [], 0)
  else (0, (l.take (8 + num4 l)).drop 8, num4 l + 12)
theorem headF_len (n : Nat) : (headF n).length = 8 := rfl
theorem frameL_len (p : List Int) : (frameL p).length = p.length + 12 := by
  unfold frameL; rw [List.length_append, headF_len, List.length_append]
  show 8 + (p.length + 4) = _
  omega
theorem num4_head {n : Nat} (h : n < 4294967296) (r : List Int) : num4 (headF n ++ r) = n := by
  unfold headF; rw [List.append_assoc]; exact num4_be4 h _
theorem num4_sum (n : Nat) (r : List Int) : num4 ((headF n ++ r).drop 4) = crcN (be4 n) := by
  show num4 (be4 (crcN (be4 n)) ++ r) = _
  exact num4_be4 (crcN_lt _) r
theorem four {X : List Int} (h : X.length = 4) : ∃ a b c d, X = [a, b, c, d] := by
  match X, h with
  | [a, b, c, d], _ => exact ⟨a, b, c, d, rfl⟩
theorem decF_enc {p : List Int} (hp : p.length ≤ 524288) (r : List Int) : decF (frameL p ++ r) = (0, p, p.length + 12) := by
  have e1 : frameL p ++ r = headF p.length ++ (p ++ (be4 (crcN (headF p.length ++ p)) ++ r)) := by unfold frameL; simp [List.append_assoc]
  have hl : (frameL p ++ r).length = p.length + 12 + r.length := by rw [List.length_append, frameL_len]
  have h1 : num4 (frameL p ++ r) = p.length := by rw [e1]; exact num4_head (by omega) _
  have h2 : num4 ((frameL p ++ r).drop 4) = crcN (be4 p.length) := by rw [e1]; exact num4_sum _ _
  have e2 : frameL p ++ r = (headF p.length ++ p) ++ (be4 (crcN (headF p.length ++ p)) ++ r) := by rw [e1, List.append_assoc]
  have h8 : (headF p.length ++ p).length = 8 + p.length := by rw [List.length_append, headF_len]
  have h3 : (frameL p ++ r).take (8 + p.length) = headF p.length ++ p := by rw [e2, ← h8, List.take_left']; rfl
  have h4 : num4 ((frameL p ++ r).drop (8 + p.length)) = crcN (headF p.length ++ p) := by
    rw [e2, ← h8, List.drop_left' rfl]; exact num4_be4 (crcN_lt _) r
  unfold decF; rw [if_neg (by omega), h1, if_neg (by rw [h2]; simp), if_neg (by omega), if_neg (by omega), if_neg (by rw [h4, h3]; simp), h3]
  rfl
end Frm
end Go.Proofs.Ytdkkaliiofcflaa

namespace Go.Proofs.Ytdkkaliiofcflaa
open Go.RowKit
namespace K
def Makes (w : World) (l : List Int) : Ending → World → Prop := fun e w' => ∃ b, e = .returned b ∧ Bu w' b l ∧ Below w.heap.size w w' ∧ ∀ g, b.ownBlock = some g → w.heap.size ≤ g
theorem short_any (n : Nat) (w : World) : Calls Try.prog 48 #[.int .u32 (n : Int)] w (Makes w (Crc.be4 n)) := by
  refine enter (args := [.int .u32 (n : Int)]) Try.func48 rfl Try.ntmps48 rfl ?_; have h4 : [IntKind.u8.wrap ((n : Int) / ((2 ^ min 24 IntKind.u32.bits : Nat) : Int)), IntKind.u8.wrap ((n : Int) / ((2 ^ min 16 IntKind.u32.bits : Nat) : Int)), IntKind.u8.wrap ((n : Int) / ((2 ^ min 8 IntKind.u32.bits : Nat) : Int)), IntKind.u8.wrap (n : Int)] = Crc.be4 n := by
    unfold Crc.be4; rw [show ((2 ^ min 24 IntKind.u32.bits : Nat) : Int) = 16777216 from rfl, show ((2 ^ min 16 IntKind.u32.bits : Nat) : Int) = 65536 from rfl, show ((2 ^ min 8 IntKind.u32.bits : Nat) : Int) = 256 from rfl]; simp only [IntKind.wrap_u8]; simp
  refine K.kgo ?_; refine WL.lit rfl rfl rfl rfl rfl rfl rfl fun v w1 h1 h2 h3 => ?_; rw [h4] at h1; refine K.kgo ?_; exact WQ.ret1 rfl rfl ⟨v, rfl, h1, h2, h3⟩
theorem wraps_u32 (n : Int) (h0 : 0 ≤ n) (h1 : n < 2 ^ 32) : IntKind.u32.wrap n = n := by rw [IntKind.wrap_u32]; omega
theorem wraps_u64 (n : Int) (h0 : 0 ≤ n) (h1 : n < 2 ^ 64) : IntKind.u64.wrap n = n := by rw [IntKind.wrap_u64]; omega
theorem four32 (a b c d : Int) (ha : 0 ≤ a ∧ a ≤ 255) (hb : 0 ≤ b ∧ b ≤ 255) (hc : 0 ≤ c ∧ c ≤ 255) (hd : 0 ≤ d ∧ d ≤ 255) :
    bits .or .u32 (bits .or .u32 (bits .or .u32 (IntKind.u32.wrap (IntKind.u32.wrap a * ((2 ^ min 24 IntKind.u32.bits : Nat) : Int))) (IntKind.u32.wrap (IntKind.u32.wrap b * ((2 ^ min 16 IntKind.u32.bits : Nat) : Int))))
      (IntKind.u32.wrap (IntKind.u32.wrap c * ((2 ^ min 8 IntKind.u32.bits : Nat) : Int)))) (IntKind.u32.wrap d) = a * 16777216 + b * 65536 + c * 256 + d := by
  rw [show ((2 ^ min 24 IntKind.u32.bits : Nat) : Int) = 16777216 from rfl, show ((2 ^ min 16 IntKind.u32.bits : Nat) : Int) = 65536 from rfl, show ((2 ^ min 8 IntKind.u32.bits : Nat) : Int) = 256 from rfl]; rw [wraps_u32 a (by omega) (by omega), wraps_u32 b (by omega) (by omega), wraps_u32 c (by omega) (by omega), wraps_u32 d (by omega) (by omega), wraps_u32 (a * 16777216) (by omega) (by omega), wraps_u32 (b * 65536) (by omega) (by omega), wraps_u32 (c * 256) (by omega) (by omega)]; rw [bits_join .u32 32 (by decide) wraps_u32 24 (a * 16777216) (b * 65536) (by omega) (by omega) (by omega) (by omega) (by omega) (by omega)]; rw [bits_join .u32 32 (by decide) wraps_u32 16 (a * 16777216 + b * 65536) (c * 256) (by omega) (by omega) (by omega) (by omega) (by omega) (by omega)]; rw [bits_join .u32 32 (by decide) wraps_u32 8 (a * 16777216 + b * 65536 + c * 256) d (by omega) (by omega) (by omega) (by omega) (by omega) (by omega)]
theorem two64 (h l : Nat) (hh : h < 4294967296) (hl : l < 4294967296) : bits .or .u64 (IntKind.u64.wrap (IntKind.u64.wrap (h : Int) * ((2 ^ min 32 IntKind.u64.bits : Nat) : Int))) (IntKind.u64.wrap (l : Int)) = ((h * 4294967296 + l : Nat) : Int) := by
  rw [show ((2 ^ min 32 IntKind.u64.bits : Nat) : Int) = 4294967296 from rfl, wraps_u64 (h : Int) (by omega) (by omega), wraps_u64 (l : Int) (by omega) (by omega), wraps_u64 ((h : Int) * 4294967296) (by omega) (by omega)]; rw [bits_join .u64 64 (by decide) wraps_u64 32 ((h : Int) * 4294967296) (l : Int) (by omega) (by omega) (by omega) (by omega) (by omega) (by omega)]; omega
theorem num4_nth {l : List Int} (hl : 4 ≤ l.length) (hb : Frm.Byt l) : nth l 0 * 16777216 + nth l 1 * 65536 + nth l 2 * 256 + nth l 3 = ((Crc.num4 l : Nat) : Int) := by
  match l, hl, hb with
  | a :: b :: c :: d :: r, _, hb =>
    have h1 := hb a (by simp); have h2 := hb b (by simp); have h3 := hb c (by simp); have h4 := hb d (by simp)
    show a * 16777216 + b * 65536 + c * 256 + d = ((a.toNat * 16777216 + b.toNat * 65536 + c.toNat * 256 + d.toNat : Nat) : Int)
    omega
def rsV (l : List Int) : List Value := if l.length < 4 then [.int .u32 0, .int .i64 2] else [.int .u32 (Crc.num4 l : Nat), .int .i64 0]
theorem readShort_any {w : World} {v : Value} {l : List Int} (hv : Sl .u8 w v l) (hb : Frm.Byt l) :
    Calls Try.prog 70 #[v] w fun e w' => e = .returned (.tuple (rsV l).toArray) ∧ Below w.heap.size w w' := by
  obtain ⟨sp, cap, rfl, h1, h2, -⟩ := id hv; refine enter (args := [.slice sp l.length cap]) Try.func70 rfl Try.ntmps70 rfl ?_; unfold rsV
  by_cases h : l.length < 4
  · rw [if_pos h]
    refine K.kgo ?_; exact WQ.ret2 rfl rfl rfl ⟨rfl, Below.refl _ _⟩
  rw [if_neg h]; have hfin := num4_nth (by omega) hb; have a0 := hb _ (nth_mem' l 0 (by omega)); have a1 := hb _ (nth_mem' l 1 (by omega)); have a2 := hb _ (nth_mem' l 2 (by omega)); have a3 := hb _ (nth_mem' l 3 (by omega)); have h32 := four32 _ _ _ _ a0 a1 a2 a3; rw [hfin] at h32; clear hfin a0 a1 a2 a3; refine K.kgo ?_; refine WC.drawn 21 (fun wx => wx.heap = w.heap) fun w2 hd => ?_; have hb2 : Below w.heap.size w w2 := hd.below _; have hS : w2.heap = w.heap := hd.heap; clear hd; refine K.fr [0, 5, 11, 17] hS ?_; refine WD.idxI 1 0 rfl (by kernel_rfl) rfl rfl (fun _ _ _ _ _ h => h) rfl rfl rfl rfl hv rfl rfl (by omega) (.inr hS) fun p0 q0 => ?_; refine K.wl 2 [3, 4, 10, 16, 21, 22, 23] rfl rfl rfl rfl rfl rfl rfl (fun wx hx => (heap_cell hx _).trans q0) hS ?_; refine WD.idxI 6 1 rfl (by kernel_rfl) rfl rfl (fun _ _ _ _ _ h => h) rfl rfl rfl rfl hv rfl rfl (by omega) (.inr hS) fun p1 q1 => ?_; refine K.wl 7 [8, 9, 10, 16, 21, 22, 23] rfl rfl rfl rfl rfl rfl rfl (fun wx hx => (heap_cell hx _).trans q1) hS ?_; refine WD.idxI 12 2 rfl (by kernel_rfl) rfl rfl (fun _ _ _ _ _ h => h) rfl rfl rfl rfl hv rfl rfl (by omega) (.inr hS) fun p2 q2 => ?_; refine K.wl 13 [14, 15, 16, 21, 22, 23] rfl rfl rfl rfl rfl rfl rfl (fun wx hx => (heap_cell hx _).trans q2) hS ?_; refine WD.idxI 18 3 rfl (by kernel_rfl) rfl rfl (fun _ _ _ _ _ h => h) rfl rfl rfl rfl hv rfl rfl (by omega) (.inr hS) fun p3 q3 => ?_; refine K.wl 19 [20, 21, 22, 23] rfl rfl rfl rfl rfl rfl rfl (fun wx hx => (heap_cell hx _).trans q3) hS ?_; refine K.fr [3, 4, 8, 9, 10, 14, 15, 16, 20] hS ?_; refine K.wo 21 ?_; refine WL.pure rfl rfl rfl rfl ?_; refine WL.as 28 (.int .u32 ((Crc.num4 l : Nat) : Int)) rfl (congrArg (Value.int .u32) h32) ?_; refine K.dl ?_
  (refine K.fzl 22 rfl (q := ?_); refine K.fzl 23 rfl (q := ?_))
  refine WD.done (by kernel_rfl) ?_; refine K.kgo ?_; exact WQ.ret2 rfl rfl rfl ⟨rfl, hb2⟩
def rbV (l : List Int) : List Value := if l.length < 8 then [.int .u64 0, .int .i64 2] else [.int .u64 ((Crc.num4 l * 4294967296 + Crc.num4 (l.drop 4) : Nat) : Int), .int .i64 0]
theorem readBig_any {w : World} {v : Value} {l : List Int} (hv : Sl .u8 w v l) (hb : Frm.Byt l) :
    Calls Try.prog 69 #[v] w fun e w' => e = .returned (.tuple (rbV l).toArray) ∧ Below w.heap.size w w' := by
  obtain ⟨sp, cap, rfl, h1, h2, -⟩ := id hv; refine enter (args := [.slice sp l.length cap]) Try.func69 rfl Try.ntmps69 rfl ?_; unfold rbV
  by_cases h : l.length < 8
  · rw [if_pos h]
    refine K.kgo ?_; exact WQ.ret2 rfl rfl rfl ⟨rfl, Below.refl _ _⟩
  rw [if_neg h]; have e1 : rsV l = [.int .u32 (Crc.num4 l : Nat), .int .i64 0] := by unfold rsV; rw [if_neg (by omega)]
  have e2 : rsV (l.drop 4) = [.int .u32 (Crc.num4 (l.drop 4) : Nat), .int .i64 0] := by unfold rsV; rw [if_neg (by rw [List.length_drop]; omega)]
  have hbd : Frm.Byt (l.drop 4) := fun c hc => hb c (List.mem_of_mem_drop hc); have h64 := two64 (Crc.num4 l) (Crc.num4 (l.drop 4)) (Crc.num4_lt _ hb) (Crc.num4_lt _ hbd); refine K.kgo ?_; refine WL.call rfl rfl rfl rfl rfl Try.func70 rfl (by kernel_rfl) (readShort_any hv hb) ?_; rintro _ w1 ⟨rfl, k1⟩; refine ⟨_, rfl, ?_⟩; rw [e1]; refine K.kgo ?_; refine WL.from rfl rfl rfl rfl rfl rfl rfl (by omega) (by omega) (hv.of_below k1) fun v2 hv2 => ?_
  refine WL.call rfl rfl rfl rfl rfl Try.func70 rfl (by kernel_rfl) (readShort_any hv2 hbd) ?_; rintro _ w2 ⟨rfl, k2⟩; refine ⟨_, rfl, ?_⟩; rw [show (4 : Int).toNat = 4 from rfl, e2]; refine K.kgo ?_; exact WQ.ret2 rfl (congrArg (fun z => some (Value.int .u64 z)) h64) rfl ⟨rfl, k1.trans (k2.mono k1.size)⟩
theorem big_any (n : Nat) (w : World) : Calls Try.prog 46 #[.int .u64 (n : Int)] w (Makes w (Crc.be4 (n / 4294967296 % 4294967296) ++ Crc.be4 (n % 4294967296))) := by
  refine enter (args := [.int .u64 (n : Int)]) Try.func46 rfl Try.ntmps46 rfl ?_; have x1 : IntKind.u32.wrap ((n : Int) / ((2 ^ min 32 IntKind.u64.bits : Nat) : Int)) = ((n / 4294967296 % 4294967296 : Nat) : Int) := by
    rw [show ((2 ^ min 32 IntKind.u64.bits : Nat) : Int) = 4294967296 from rfl, IntKind.wrap_u32]; simp
  have x2 : IntKind.u32.wrap (n : Int) = ((n % 4294967296 : Nat) : Int) := by rw [IntKind.wrap_u32]; simp
  refine K.kgo ?_; refine WL.as 5 (.int .u32 ((n / 4294967296 % 4294967296 : Nat) : Int)) rfl (congrArg (Value.int .u32) x1) ?_; refine WL.call rfl rfl rfl rfl rfl Try.func48 rfl (by kernel_rfl) (short_any _ w) ?_; rintro _ w1 ⟨b1, rfl, h1, k1, o1⟩; refine ⟨_, rfl, ?_⟩; refine K.kgo ?_; refine WL.as 8 (.int .u32 ((n % 4294967296 : Nat) : Int)) rfl (congrArg (Value.int .u32) x2) ?_; refine WL.call rfl rfl rfl rfl rfl Try.func48 rfl (by kernel_rfl) (short_any _ w1) ?_; rintro _ w2 ⟨b2, rfl, h2, k2, o2⟩; refine ⟨_, rfl, ?_⟩; have h1' := h1.below k2; refine WL.app rfl rfl rfl rfl rfl h1' rfl h2.sl (by show 4 + 4 ≤ _; omega) fun b3 w3 h3 g3 => ?_; refine K.kgo ?_; have hw2 : Below w.heap.size w w2 := k1.trans (k2.mono k1.size); have o1' : ∀ g, b1.ownBlock = some g → w.heap.size ≤ g := o1; exact WQ.ret1 rfl rfl ⟨b3, rfl, h3, hw2.trans (g3.old hw2.size o1'), fun g hg => g3.own hw2.size o1' g hg⟩
theorem head_any (n : Nat) (hn : n < 4294967296) (w : World) : Calls Try.prog 47 #[.int .u32 (n : Int)] w fun e w' => e = .returned (.int .u64 ((n * 4294967296 + Crc.crcN (Crc.be4 n) : Nat) : Int)) ∧ Below w.heap.size w w' := by
  refine enter (args := [.int .u32 (n : Int)]) Try.func47 rfl Try.ntmps47 rfl ?_; have h64 := two64 n (Crc.crcN (Crc.be4 n)) hn (Crc.crcN_lt _); refine K.kgo ?_; refine WL.call rfl rfl rfl rfl rfl Try.func48 rfl (by kernel_rfl) (short_any _ w) ?_; rintro _ w1 ⟨b1, rfl, h1, k1, o1⟩; refine ⟨_, rfl, ?_⟩; refine WL.call rfl rfl rfl rfl rfl Try.func49 rfl (by kernel_rfl) (sum_any h1.sl (Crc.be4_byt n) (by show 4 ≤ _; omega)) ?_; rintro _ w2 ⟨rfl, k2⟩; refine ⟨_, rfl, ?_⟩; refine K.kgo ?_; exact WQ.ret1 rfl (congrArg (fun z => some (Value.int .u64 z)) h64) ⟨rfl, k1.trans (k2.mono k1.size)⟩
end K
end Go.Proofs.Ytdkkaliiofcflaa

namespace Go.Proofs.Ytdkkaliiofcflaa
open Go.RowKit
namespace K
section
variable {n : NN} {Q : Exit → Act → World → Prop} {l : Env} {w w' : World} {ops : Array Oper} {o : Oper} {rest : List Oper} {d : Nat}
theorem WL.nilB {x y : Operand} {t t2 e sz m c : Nat} {sp : Option Addr} (hg : o.guard = none) (hd : o.dst = some d) (hn : Nat.blt d n.n = true) (ho : o.op = .binOp .eql t x y t2) (ht : tyOf ty t = some (.slice e sz)) (hx : evl l x = some (.slice sp m c)) (hy : evl l y = some (.slice none 0 0))
    (h : WL n ops Q rest ((d, .bool sp.isNone) :: l) w) : WL n ops Q (o :: rest) l w :=
  WL.step hg hd hn (fun a ha => by
    unfold execOp; rw [ho]; obtain ⟨hu, -⟩ := TyOk.of tyOk ht; have := Lib.run_eql_slice_nil w t e sp m c 0 0 hu; have hq : (eqGuard .eql t x y (.slice sp m c) (.slice none 0 0)).run Try.prog w = .ok () w := by simp [eqGuard]
    simp only [ha.eval hx, ha.eval hy, Sem.run_bind, hq, Result.andThen_ok, this]
    rfl) h
end
section
variable {n : Nat} {l : Env} {w : World} {fn : Func} {R : Ending → World → Prop}
theorem WQ.ret3w {kn : Nat} {md : Option (Option Nat)} {t t2 t3 : Nat} {v v2 v3 : Value} (hr : fn.results = #[.tmp t, .tmp t2, .tmp t3]) (hl : look l t = some v) (hl2 : look l t2 = some v2) (hl3 : look l t3 = some v3) (h : R (.returned (.tuple #[v, v2, v3])) w) : WQ ⟨kn, [], md⟩ (bodyPost Try.prog fn R) .ret l w :=
  ⟨fun a ha => ⟨ha.defers, _, by rw [results_tmp3 hr, ha.getD hl, ha.getD hl2, ha.getD hl3], h⟩⟩
end
theorem bclone_any {w : World} {v : Value} {l : List Int} (hv : Sl .u8 w v l) (hl : l.length ≤ 140737488355328) : Calls Try.prog 71 #[v] w (Makes w l) := by
  obtain ⟨sp, cap, rfl, h1, h2, h3, h4⟩ := id hv; refine enter (args := [.slice sp l.length cap]) Try.func71 rfl Try.ntmps71 rfl ?_; refine K.kgo ?_; refine WL.nilB rfl rfl rfl rfl rfl rfl rfl ?_; cases sp with
  | none =>
    have hc := h4 rfl; obtain rfl : l = [] := List.eq_nil_of_length_eq_zero (by omega); refine K.kgo ?_; exact WQ.ret1 rfl rfl ⟨_, rfl, Bu.nil w, Below.refl _ _, fun g h => by cases h⟩
  | some p =>
    refine K.kgo ?_; refine WL.empty rfl rfl rfl rfl rfl fun g w1 hf => ?_; have hB := hf.below; have hg := hf.eq; refine K.kgo ?_; refine WL.app rfl rfl rfl rfl rfl (Bu.ofFresh hf) rfl (hv.of_below hB) (by simpa using hl) fun b w2 hb gr => ?_; refine K.kgo ?_; have hg' : ∀ g', (Value.slice (some ⟨g, 0, none⟩) 0 0).ownBlock = some g' → w.heap.size ≤ g' := fun g' h => by cases h; show w.heap.size ≤ g; omega
    exact WQ.ret1 rfl rfl ⟨b, rfl, hb, hB.trans (gr.old hB.size hg'), fun g' h => gr.own hB.size hg' g' h⟩
def FrmOut (w : World) (p : List Int) : Ending → World → Prop := fun e w' => ∃ b, e = .returned (.tuple #[b, .int .i64 (if 524288 < p.length then 5 else 0)]) ∧ Bu w' b (if 524288 < p.length then [] else Frm.frameL p) ∧ Below w.heap.size w w' ∧ ∀ g, b.ownBlock = some g → w.heap.size ≤ g
theorem fenc_any {w : World} {v : Value} {p : List Int} (hv : Sl .u8 w v p) (hp : Frm.Byt p) (hl : p.length ≤ 140737488355328) : Calls Try.prog 25 #[v] w (FrmOut w p) := by
  obtain ⟨sp, cap, rfl, h1, h2, -⟩ := id hv; refine enter (args := [.slice sp p.length cap]) Try.func25 rfl Try.ntmps25 rfl ?_; unfold FrmOut
  by_cases h : 524288 < p.length
  · rw [if_pos h, if_pos h]
    refine K.kgo ?_; exact WQ.ret2 rfl rfl rfl ⟨_, rfl, Bu.nil w, Below.refl _ _, fun g h => by cases h⟩
  rw [if_neg h, if_neg h]; have hw32 : IntKind.u32.wrap (p.length : Int) = (p.length : Int) := wraps_u32 _ (by omega) (by omega); refine K.kgo ?_; refine WL.as 10 (.int .u32 (p.length : Int)) rfl (congrArg (Value.int .u32) hw32) ?_; refine WL.call rfl rfl rfl rfl rfl Try.func47 rfl (by kernel_rfl) (head_any p.length (by omega) w) ?_; rintro _ w1 ⟨rfl, k1⟩; refine ⟨_, rfl, ?_⟩; refine WL.call rfl rfl rfl rfl rfl Try.func46 rfl (by kernel_rfl) (big_any _ w1) ?_; rintro _ w2 ⟨b2, rfl, q2, k2, o2⟩; refine ⟨_, rfl, ?_⟩; have hhd : Crc.be4 ((p.length * 4294967296 + Crc.crcN (Crc.be4 p.length)) / 4294967296 % 4294967296) ++ Crc.be4 ((p.length * 4294967296 + Crc.crcN (Crc.be4 p.length)) % 4294967296) = Frm.headF p.length := by
    have hc := Crc.crcN_lt (Crc.be4 p.length); rw [show (p.length * 4294967296 + Crc.crcN (Crc.be4 p.length)) / 4294967296 % 4294967296 = p.length by omega, show (p.length * 4294967296 + Crc.crcN (Crc.be4 p.length)) % 4294967296 = Crc.crcN (Crc.be4 p.length) by omega]
    rfl
  rw [hhd] at q2; have hw2 : Below w.heap.size w w2 := k1.trans (k2.mono k1.size); have o2' : ∀ g, b2.ownBlock = some g → w.heap.size ≤ g := fun g hg => Nat.le_trans k1.size (o2 g hg); refine K.kgo ?_; refine WL.app rfl rfl rfl rfl rfl q2 rfl (hv.of_below hw2) (by rw [Frm.headF_len]; omega) fun b3 w3 q3 g3 => ?_; have hw3 : Below w.heap.size w w3 := hw2.trans (g3.old hw2.size o2'); have o3 : ∀ g, b3.ownBlock = some g → w.heap.size ≤ g := fun g hg => g3.own hw2.size o2' g hg; clear g3; have hH : Frm.Byt (Frm.headF p.length ++ p) := fun c hc => (List.mem_append.1 hc).elim (fun h => by unfold Frm.headF at h; exact (List.mem_append.1 h).elim (Crc.be4_byt _ c) (Crc.be4_byt _ c)) (hp c); have hHl : (Frm.headF p.length ++ p).length = p.length + 8 := by rw [List.length_append, Frm.headF_len]; omega
  refine K.kgo ?_; refine WL.call rfl rfl rfl rfl rfl Try.func49 rfl (by kernel_rfl) (sum_any q3.sl hH (by omega)) ?_; rintro _ w4 ⟨rfl, k4⟩; refine ⟨_, rfl, ?_⟩; refine WL.call rfl rfl rfl rfl rfl Try.func48 rfl (by kernel_rfl) (short_any _ w4) ?_; rintro _ w5 ⟨b5, rfl, q5, k5, o5⟩; refine ⟨_, rfl, ?_⟩; have k45 : Below w3.heap.size w3 w5 := k4.trans (k5.mono k4.size); refine WL.app rfl rfl rfl rfl rfl (q3.below k45) rfl q5.sl (by rw [hHl]; show p.length + 8 + 4 ≤ _; omega) fun b6 w6 q6 g6 => ?_; refine K.kgo ?_; have hw5 : Below w.heap.size w w5 := hw3.trans (k45.mono hw3.size); refine WQ.ret2 rfl rfl rfl ⟨b6, rfl, ?_, hw5.trans (g6.old hw5.size o3), fun g hg => g6.own hw5.size o3 g hg⟩; have : Frm.frameL p = Frm.headF p.length ++ p ++ Crc.be4 (Crc.crcN (Frm.headF p.length ++ p)) := by unfold Frm.frameL; rw [List.append_assoc]
  rw [this]; exact q6
def FdcOut (w : World) (l : List Int) : Ending → World → Prop := fun e w' => ∃ b, e = .returned (.tuple #[b, .int .i64 ((Frm.decF l).2.2 : Nat), .int .i64 (Frm.decF l).1]) ∧ Bu w' b (Frm.decF l).2.1 ∧ Below w.heap.size w w' ∧ ∀ g, b.ownBlock = some g → w.heap.size ≤ g
theorem FdcOut.bad {w w' : World} {l : List Int} {x : Int} (h : Frm.decF l = (x, [], 0)) (hB : Below w.heap.size w w') : FdcOut w l (.returned (.tuple #[.slice none 0 0, .int .i64 0, .int .i64 x])) w' := by
  unfold FdcOut; rw [h]; exact ⟨_, rfl, Bu.nil w', hB, fun g h => by cases h⟩
theorem head_any2 (n : Nat) (hn : n < 4294967296) {B : Int} (hB : B = ((n * 4294967296 + Crc.crcN (Crc.be4 n) : Nat) : Int)) (w : World) : Calls Try.prog 47 #[.int .u32 (n : Int)] w fun e w' => e = .returned (.int .u64 B) ∧ Below w.heap.size w w' := by
  subst hB; exact head_any n hn w
set_option maxHeartbeats 400000 in
theorem fdec_any {w : World} {v : Value} {l : List Int} (hv : Sl .u8 w v l) (hb : Frm.Byt l) (hl : l.length ≤ 140737488355328) : Calls Try.prog 55 #[v] w (FdcOut w l) := by
  obtain ⟨sp, cap, rfl, h1, h2, -⟩ := id hv; refine enter (args := [.slice sp l.length cap]) Try.func55 rfl Try.ntmps55 rfl ?_; refine K.kgo ?_; refine WL.call rfl rfl rfl rfl rfl Try.func69 rfl (by kernel_rfl) (readBig_any hv hb) ?_; rintro _ w1 ⟨rfl, k1⟩; refine ⟨_, rfl, ?_⟩; have hv1 := hv.of_below k1
  by_cases c8 : l.length < 8
  · have e1 : rbV l = [.int .u64 0, .int .i64 2] := by unfold rbV; rw [if_pos c8]
    have e2 : Frm.decF l = (2, [], 0) := by unfold Frm.decF; rw [if_pos c8]
    rw [e1]; refine K.kgo ?_; exact WQ.ret3w rfl rfl rfl rfl (FdcOut.bad e2 k1)
  obtain ⟨A, hA⟩ : ∃ A : Int, A = ((Crc.num4 l * 4294967296 + Crc.num4 (l.drop 4) : Nat) : Int) := ⟨_, rfl⟩; have e1 : rbV l = [.int .u64 A, .int .i64 0] := by unfold rbV; rw [if_neg c8, hA]
  rw [e1]; have hbd : Frm.Byt (l.drop 4) := fun c hc => hb c (List.mem_of_mem_drop hc); have hn := Crc.num4_lt l hb; have hm := Crc.num4_lt _ hbd; have hcs := Crc.crcN_lt (Crc.be4 (Crc.num4 l)); have hdef : Frm.decF l = (if Crc.num4 (l.drop 4) ≠ Crc.crcN (Crc.be4 (Crc.num4 l)) then (4, [], 0)
    else if 524288 < Crc.num4 l then (5, [], 0)
    else if l.length < Crc.num4 l + 12 then (2, [], 0)
    else if Crc.num4 (l.drop (8 + Crc.num4 l)) ≠ Crc.crcN (l.take (8 + Crc.num4 l)) then (4, [], 0)
    else (0, (l.take (8 + Crc.num4 l)).drop 8, Crc.num4 l + 12)) := by
    conv => lhs; unfold Frm.decF
    rw [if_neg c8]
  generalize hN : Crc.num4 l = N at hA hn hcs hdef ⊢; generalize hM : Crc.num4 (l.drop 4) = M at hA hm hdef ⊢; have x1 : IntKind.u32.wrap (A / ((2 ^ min 32 IntKind.u64.bits : Nat) : Int)) = (N : Int) := by
    rw [hA]; rw [show ((2 ^ min 32 IntKind.u64.bits : Nat) : Int) = 4294967296 from rfl, IntKind.wrap_u32]; omega
  refine K.kgo ?_; refine WL.as 7 (.int .u32 (N : Int)) rfl (congrArg (Value.int .u32) x1) ?_; refine WL.as 24 (.int .u32 (N : Int)) rfl (congrArg (Value.int .u32) x1) ?_; obtain ⟨B, hB⟩ : ∃ B : Int, B = ((N * 4294967296 + Crc.crcN (Crc.be4 N) : Nat) : Int) := ⟨_, rfl⟩; have hhd := head_any2 N hn hB w1; refine K.kgo ?_; refine WL.call rfl rfl rfl rfl rfl Try.func47 rfl (by kernel_rfl) hhd ?_; rintro _ w2 ⟨rfl, k2⟩; refine ⟨_, rfl, ?_⟩; have hw2 : Below w.heap.size w w2 := k1.trans (k2.mono k1.size); have hv2 := hv.of_below hw2; clear k1 k2 hv1; generalize hC : Crc.crcN (Crc.be4 N) = C at hB hcs hdef ⊢
  by_cases c1 : ¬ M = C
  · rw [if_pos c1] at hdef
    have hne : A ≠ B := by omega
    clear hA hB; refine K.kgo ?_; exact WQ.ret3w rfl rfl rfl rfl (FdcOut.bad hdef hw2)
  rw [if_neg c1] at hdef; replace c1 : M = C := by omega
  have heq : A = B := by rw [hA, hB, c1]
  clear hA hB hhd x1
  by_cases c2 : 524288 < N
  · rw [if_pos c2] at hdef
    refine K.kgo ?_; exact WQ.ret3w rfl rfl rfl rfl (FdcOut.bad hdef hw2)
  rw [if_neg c2] at hdef
  by_cases c3 : l.length < N + 12
  · rw [if_pos c3] at hdef
    refine K.kgo ?_; exact WQ.ret3w rfl rfl rfl rfl (FdcOut.bad hdef hw2)
  rw [if_neg c3] at hdef; refine K.kgo ?_; refine WL.upto rfl rfl rfl rfl rfl rfl rfl (by omega) (by omega) hv2 fun v3 hv3 => ?_; have hz3 : ((8 : Int) + (N : Int)).toNat = 8 + N := by omega
  rw [hz3] at hv3; have hl3 : (l.take (8 + N)).length = 8 + N := by rw [List.length_take]; omega
  obtain ⟨sp3, cap3, rfl, -⟩ := id hv3; refine K.kgo ?_; refine WL.from rfl rfl rfl rfl rfl rfl rfl (by omega) (by rw [hl3]; omega) hv2 fun v4 hv4 => ?_
  have hz4 : (((l.take (8 + N)).length : Nat) : Int).toNat = 8 + N := by omega
  rw [hz4] at hv4; have hbd4 : Frm.Byt (l.drop (8 + N)) := fun c hc => hb c (List.mem_of_mem_drop hc); refine WL.call rfl rfl rfl rfl rfl Try.func70 rfl (by kernel_rfl) (readShort_any hv4 hbd4) ?_; rintro _ w3 ⟨rfl, k3⟩; refine ⟨_, rfl, ?_⟩; have e4 : rsV (l.drop (8 + N)) = [.int .u32 (Crc.num4 (l.drop (8 + N)) : Nat), .int .i64 0] := by unfold rsV; rw [if_neg (by rw [List.length_drop]; omega)]
  rw [e4]; have hw3 : Below w.heap.size w w3 := hw2.trans (k3.mono hw2.size); have hv33 := hv3.of_below k3; refine K.kgo ?_; have hbt : Frm.Byt (l.take (8 + N)) := fun c hc => hb c (List.mem_of_mem_take hc); refine WL.call rfl rfl rfl rfl rfl Try.func49 rfl (by kernel_rfl) (sum_any hv33 hbt (by omega)) ?_; rintro _ w4 ⟨rfl, k4⟩; refine ⟨_, rfl, ?_⟩; have hw4 : Below w.heap.size w w4 := hw3.trans (k4.mono hw3.size); have hv34 := hv33.of_below k4; generalize Crc.num4 (l.drop (8 + N)) = x at hdef ⊢; generalize Crc.crcN (l.take (8 + N)) = y at hdef ⊢
  by_cases c4 : x ≠ y
  · rw [if_pos c4] at hdef
    refine K.kgo ?_; exact WQ.ret3w rfl rfl rfl rfl (FdcOut.bad hdef hw4)
  rw [if_neg c4] at hdef; refine K.kgo ?_; refine WL.from rfl rfl rfl rfl rfl rfl rfl (by omega) (by rw [hl3]; omega) hv34 fun v5 hv5 => ?_
  rw [show (8 : Int).toNat = 8 from rfl] at hv5; have hl5 : ((l.take (8 + N)).drop 8).length = N := by rw [List.length_drop]; omega
  refine WL.call rfl rfl rfl rfl rfl Try.func71 rfl (by kernel_rfl) (bclone_any hv5 (by omega)) ?_; rintro _ w5 ⟨b5, rfl, q5, k5, o5⟩; refine ⟨_, rfl, ?_⟩; refine K.kgo ?_; refine WQ.ret3w rfl rfl rfl rfl ?_; unfold FdcOut; rw [hdef]; refine ⟨b5, ?_, q5, hw4.trans (k5.mono hw4.size), fun g hg => Nat.le_trans hw4.size (o5 g hg)⟩; have hfin : (((l.take (8 + N)).length : Nat) : Int) + 4 = ((N + 12 : Nat) : Int) := by omega
  show Ending.returned (.tuple #[b5, .int .i64 ((((l.take (8 + N)).length : Nat) : Int) + 4), .int .i64 0]) = _
  rw [hfin]
end K
end Go.Proofs.Ytdkkaliiofcflaa
