/- Texts for LawClTr, part 4 of 6. -/
import Derived.Test.YtpfkcfaifleliaaGreatZLawClTr3
import Derived.Laws.OwnMore
namespace Go.Proofs.YtpfkcfaifleliaaGreat
open Go.RowKit
namespace K
open Vl (formC formB_eq okN fields_iff)

theorem chk_bad {m : Nat} {v : V} {x : Int} (h : shp v = x) (h0 : ¬ x = 0) : chk (m + 1) v = x := by
  unfold chk; rw [if_neg (by rw [h]; exact h0)]; exact h
theorem shp_form3 {v : V} (h : formB v = false) : shp v = 3 := by unfold shp; rw [if_pos h]
theorem text_ne (v : V) : (!(v.t.toList == (ByteArray.mk #[]).toList)) = !noTextB v := by
  have h0 : (ByteArray.mk #[]).toList = [] := by decide +kernel
  have hl : v.t.toList.length = v.t.size := by rw [ByteArray.toList_eq]; rfl
  rw [h0]; unfold noTextB; cases h : v.t.toList with
  | nil => rw [h] at hl; simp at hl; simp [← hl]
  | cons a r => rw [h] at hl; simp at hl; simp [← hl]
theorem ret_i64 {x y : Int} (h : x = y) : Ending.returned (.int .i64 x) = .returned (.int .i64 y) := by rw [h]


set_option maxRecDepth 100000 in
set_option maxHeartbeats 16000000 in
theorem rchk_k1 {f : Nat} {w : World} {v : V} {cs : List Value} {m : Nat} {d : Int} (hv : IsV (f + 1) w v cs) (q : v.k = 1) (_hd1 : d ≤ 16) (_hd0 : 0 ≤ d) :
    Calls Tryz.prog 114 #[.agg cs.toArray, .int .i64 d] w fun e w' => e = .returned (.int .i64 (chk (m + 1) v)) ∧ Below w.heap.size w w' := by
  obtain ⟨sn, sk, rfl, -, hn64, -, htz, ⟨np, nc, rfl, nl, nc2, nsz, nr⟩, ⟨sp, cap, rfl, hcap1, hcap2, hrow⟩⟩ := hv; have hn : -9223372036854775808 ≤ v.n ∧ v.n ≤ 9223372036854775807 := by simp [Lit.wf, IntKind.min, IntKind.max, IntKind.bits, IntKind.signed] at hn64; omega
  clear hn64; refine enter (args := [.agg (six v (.slice np v.names.length nc) (.slice sp v.kids.length cap)).toArray, .int .i64 d]) Tryz.func114 rfl Tryz.ntmps114 rfl ?_; refine K.kgo ?_; refine WL.box rfl rfl rfl rfl rfl fun g w1 hf => ?_; have hR : VBlk 82 w1 g (six v (.slice np v.names.length nc) (.slice sp v.kids.length cap)) := hf.blk; have hbel : Below w.heap.size w w1 := hf.below; have c0 : w1.cell? ⟨g, 0, none⟩ = some (.int .i64 v.k) := hR.cell 0 (by simp); have c1 : w1.cell? ⟨g, 1, none⟩ = some (.int .i64 v.n) := hR.cell 1 (by simp); have c2 : w1.cell? ⟨g, 2, none⟩ = some (.int .i64 v.s) := hR.cell 2 (by simp); have c3 : w1.cell? ⟨g, 3, none⟩ = some (.string v.t) := hR.cell 3 (by simp); have c4 : w1.cell? ⟨g, 4, none⟩ = some (.slice np v.names.length nc) := hR.cell 4 (by simp); have c5 : w1.cell? ⟨g, 5, none⟩ = some (.slice sp v.kids.length cap) := hR.cell 5 (by simp); clear hf; have hfc := formB_eq v; have hB : bareB v = (decide (v.n = 0) && decide (v.s = 0)) := rfl; have hP : plainB v = (decide (v.names.length = 0) && decide (v.kids.length = 0)) := rfl; have hE := text_ne v; have bad3 : formB v = false → Ending.returned (.int .i64 3) = .returned (.int .i64 (chk (m + 1) v)) ∧ Below w.heap.size w w1 := fun h => ⟨ret_i64 (chk_bad (shp_form3 h) (by decide)).symm, hbel⟩; refine K.kgb ?_; refine WL.as 5 (.bool (!noTextB v)) rfl (congrArg Value.bool hE) ?_; refine WL.mid (fun _ : Unit => [(1, .int .i64 d), (2, .pointer (some ⟨g, 0, none⟩)), (5, .bool (!noTextB v)), (6, .bool (!plainB v))]) (fun _ w' => w1 = w') rfl ?_ ?_
  · by_cases hK : v.kids.length = 0
    · have hK0 : ¬ (0 : Int) < v.kids.length := by omega
      refine WL.as 19 (.bool false) rfl (congrArg Value.bool (decide_eq_false hK0)) ?_
      by_cases hN : v.names.length = 0
      · refine K.kgl ?_
        exact WQ.meet () ⟨rfl, rfl, rfl, congrArg (fun b => some (Value.bool b)) (by rw [hP]; simp [hN, hK]), trivial⟩ rfl
      · refine K.kgl ?_
        exact WQ.meet () ⟨rfl, rfl, rfl, congrArg (fun b => some (Value.bool b)) (by rw [hP]; simp [hN]), trivial⟩ rfl
    · have hK0 : (0 : Int) < v.kids.length := by omega
      refine WL.as 19 (.bool true) rfl (congrArg Value.bool (decide_eq_true hK0)) ?_; refine K.kgl ?_; exact WQ.meet () ⟨rfl, rfl, rfl, congrArg (fun b => some (Value.bool b)) (by rw [hP]; simp [hK]), trivial⟩ rfl
  rintro _ _ rfl; have shp5 : formB v = true → (16384 < v.t.size ∨ 200 < v.kids.length) → shp v = 5 := fun h1 h2 => by unfold shp; rw [if_neg (by rw [h1]; exact Bool.noConfusion), if_pos h2]
  have shp0 : formB v = true → v.t.size ≤ 16384 → v.kids.length ≤ 200 → (v.k = 9 → fieldsB v = true) → shp v = 0 := fun h1 h2 h3 h4 => by
    unfold shp; rw [if_neg (by rw [h1]; exact Bool.noConfusion), if_neg (by omega), if_neg (fun h => by have := h4 h.1; rw [this] at h; exact Bool.noConfusion h.2)]
  have hEt : noTextB v = true → v.t.size = 0 := fun h => of_decide_eq_true h; have hPk : plainB v = true → v.kids.length = 0 := fun h => by rw [hP] at h; rw [Bool.and_eq_true] at h; exact of_decide_eq_true h.2
  have chk0 : shp v = 0 → v.kids.length = 0 → chk (m + 1) v = 0 := fun h1 h2 => by
    unfold chk; rw [if_pos h1, List.eq_nil_of_length_eq_zero h2]
    rfl
  clear hE hP

  by_cases a1 : v.n = 0
  · skip
    by_cases a2 : v.s = 0
    · skip
      cases hE1 : noTextB v with
      | false =>
        rw [hE1] at hfc; refine K.kgl ?_; exact WQ.ret1 rfl rfl (bad3 (by rw [hfc]; simp [formC, *]))
      | true =>
        rw [hE1] at hfc; cases hP1 : plainB v with
        | false =>
          rw [hP1] at hfc; refine K.kgl ?_; exact WQ.ret1 rfl rfl (bad3 (by rw [hfc]; simp [formC, *]))
        | true =>
          rw [hP1] at hfc; have h0 : shp v = 0 := shp0 (by rw [hfc]; simp [formC, *]) (by have := hEt hE1; omega) (by have := hPk hP1; omega) (fun h => by omega); have hk0 : v.kids.length = 0 := hPk hP1; refine K.kgl ?_; refine WC.loop (fun _ : Unit => [(1, .int .i64 d), (2, .pointer (some ⟨g, 0, none⟩)), (8, .int .i64 0)]) (fun _ w' => w1 = w') (fun _ => 0) () ⟨rfl, rfl, rfl, trivial⟩ rfl ?_; rintro _ _ rfl; refine K.kgl ?_; exact WQ.ret1 rfl rfl ⟨ret_i64 (chk0 h0 hk0).symm, hbel⟩
    · skip
      refine K.kgl ?_; exact WQ.ret1 rfl rfl (bad3 (by rw [hfc]; simp [formC, *]))
  · skip
    refine K.kgl ?_; exact WQ.ret1 rfl rfl (bad3 (by rw [hfc]; simp [formC, *]))

set_option maxRecDepth 100000 in
set_option maxHeartbeats 16000000 in
theorem rchk_k2 {f : Nat} {w : World} {v : V} {cs : List Value} {m : Nat} {d : Int} (hv : IsV (f + 1) w v cs) (q : v.k = 2) (_hd1 : d ≤ 16) (_hd0 : 0 ≤ d) :
    Calls Tryz.prog 114 #[.agg cs.toArray, .int .i64 d] w fun e w' => e = .returned (.int .i64 (chk (m + 1) v)) ∧ Below w.heap.size w w' := by
  obtain ⟨sn, sk, rfl, -, hn64, -, htz, ⟨np, nc, rfl, nl, nc2, nsz, nr⟩, ⟨sp, cap, rfl, hcap1, hcap2, hrow⟩⟩ := hv; have hn : -9223372036854775808 ≤ v.n ∧ v.n ≤ 9223372036854775807 := by simp [Lit.wf, IntKind.min, IntKind.max, IntKind.bits, IntKind.signed] at hn64; omega
  clear hn64; refine enter (args := [.agg (six v (.slice np v.names.length nc) (.slice sp v.kids.length cap)).toArray, .int .i64 d]) Tryz.func114 rfl Tryz.ntmps114 rfl ?_; refine K.kgo ?_; refine WL.box rfl rfl rfl rfl rfl fun g w1 hf => ?_; have hR : VBlk 82 w1 g (six v (.slice np v.names.length nc) (.slice sp v.kids.length cap)) := hf.blk; have hbel : Below w.heap.size w w1 := hf.below; have c0 : w1.cell? ⟨g, 0, none⟩ = some (.int .i64 v.k) := hR.cell 0 (by simp); have c1 : w1.cell? ⟨g, 1, none⟩ = some (.int .i64 v.n) := hR.cell 1 (by simp); have c2 : w1.cell? ⟨g, 2, none⟩ = some (.int .i64 v.s) := hR.cell 2 (by simp); have c3 : w1.cell? ⟨g, 3, none⟩ = some (.string v.t) := hR.cell 3 (by simp); have c4 : w1.cell? ⟨g, 4, none⟩ = some (.slice np v.names.length nc) := hR.cell 4 (by simp); have c5 : w1.cell? ⟨g, 5, none⟩ = some (.slice sp v.kids.length cap) := hR.cell 5 (by simp); clear hf; have hfc := formB_eq v; have hB : bareB v = (decide (v.n = 0) && decide (v.s = 0)) := rfl; have hP : plainB v = (decide (v.names.length = 0) && decide (v.kids.length = 0)) := rfl; have hE := text_ne v; have bad3 : formB v = false → Ending.returned (.int .i64 3) = .returned (.int .i64 (chk (m + 1) v)) ∧ Below w.heap.size w w1 := fun h => ⟨ret_i64 (chk_bad (shp_form3 h) (by decide)).symm, hbel⟩; refine K.kgb ?_; refine WL.as 5 (.bool (!noTextB v)) rfl (congrArg Value.bool hE) ?_; refine WL.mid (fun _ : Unit => [(1, .int .i64 d), (2, .pointer (some ⟨g, 0, none⟩)), (5, .bool (!noTextB v)), (6, .bool (!plainB v))]) (fun _ w' => w1 = w') rfl ?_ ?_
  · by_cases hK : v.kids.length = 0
    · have hK0 : ¬ (0 : Int) < v.kids.length := by omega
      refine WL.as 19 (.bool false) rfl (congrArg Value.bool (decide_eq_false hK0)) ?_
      by_cases hN : v.names.length = 0
      · refine K.kgl ?_
        exact WQ.meet () ⟨rfl, rfl, rfl, congrArg (fun b => some (Value.bool b)) (by rw [hP]; simp [hN, hK]), trivial⟩ rfl
      · refine K.kgl ?_
        exact WQ.meet () ⟨rfl, rfl, rfl, congrArg (fun b => some (Value.bool b)) (by rw [hP]; simp [hN]), trivial⟩ rfl
    · have hK0 : (0 : Int) < v.kids.length := by omega
      refine WL.as 19 (.bool true) rfl (congrArg Value.bool (decide_eq_true hK0)) ?_; refine K.kgl ?_; exact WQ.meet () ⟨rfl, rfl, rfl, congrArg (fun b => some (Value.bool b)) (by rw [hP]; simp [hK]), trivial⟩ rfl
  rintro _ _ rfl; have shp5 : formB v = true → (16384 < v.t.size ∨ 200 < v.kids.length) → shp v = 5 := fun h1 h2 => by unfold shp; rw [if_neg (by rw [h1]; exact Bool.noConfusion), if_pos h2]
  have shp0 : formB v = true → v.t.size ≤ 16384 → v.kids.length ≤ 200 → (v.k = 9 → fieldsB v = true) → shp v = 0 := fun h1 h2 h3 h4 => by
    unfold shp; rw [if_neg (by rw [h1]; exact Bool.noConfusion), if_neg (by omega), if_neg (fun h => by have := h4 h.1; rw [this] at h; exact Bool.noConfusion h.2)]
  have hEt : noTextB v = true → v.t.size = 0 := fun h => of_decide_eq_true h; have hPk : plainB v = true → v.kids.length = 0 := fun h => by rw [hP] at h; rw [Bool.and_eq_true] at h; exact of_decide_eq_true h.2
  have chk0 : shp v = 0 → v.kids.length = 0 → chk (m + 1) v = 0 := fun h1 h2 => by
    unfold chk; rw [if_pos h1, List.eq_nil_of_length_eq_zero h2]
    rfl
  clear hE hP

  by_cases a1 : 0 ≤ v.n
  · skip
    by_cases a2 : v.n ≤ 1
    · skip
      have x2 : v.n / 2 = 0 := by omega
      by_cases a4 : v.s = 0
      · skip
        cases hE1 : noTextB v with
        | false =>
          rw [hE1] at hfc; refine K.kgl ?_; exact WQ.ret1 rfl rfl (bad3 (by rw [hfc]; simp [formC, *]))
        | true =>
          rw [hE1] at hfc; cases hP1 : plainB v with
          | false =>
            rw [hP1] at hfc; refine K.kgl ?_; exact WQ.ret1 rfl rfl (bad3 (by rw [hfc]; simp [formC, *]))
          | true =>
            rw [hP1] at hfc; have h0 : shp v = 0 := shp0 (by rw [hfc]; simp [formC, *]) (by have := hEt hE1; omega) (by have := hPk hP1; omega) (fun h => by omega); have hk0 : v.kids.length = 0 := hPk hP1; refine K.kgl ?_; refine WC.loop (fun _ : Unit => [(1, .int .i64 d), (2, .pointer (some ⟨g, 0, none⟩)), (8, .int .i64 0)]) (fun _ w' => w1 = w') (fun _ => 0) () ⟨rfl, rfl, rfl, trivial⟩ rfl ?_; rintro _ _ rfl; refine K.kgl ?_; exact WQ.ret1 rfl rfl ⟨ret_i64 (chk0 h0 hk0).symm, hbel⟩
      · skip
        refine K.kgl ?_; exact WQ.ret1 rfl rfl (bad3 (by rw [hfc]; simp [formC, *]))
    · skip
      have x2 : ¬ v.n / 2 = 0 := by omega
      refine K.kgl ?_; exact WQ.ret1 rfl rfl (bad3 (by rw [hfc]; simp [formC, *]))
  · skip
    have x2 : ¬ v.n / 2 = 0 := by omega
    refine K.kgl ?_; exact WQ.ret1 rfl rfl (bad3 (by rw [hfc]; simp [formC, *]))

set_option maxRecDepth 100000 in
set_option maxHeartbeats 16000000 in
theorem rchk_k3 {f : Nat} {w : World} {v : V} {cs : List Value} {m : Nat} {d : Int} (hv : IsV (f + 1) w v cs) (q : v.k = 3) (_hd1 : d ≤ 16) (_hd0 : 0 ≤ d) :
    Calls Tryz.prog 114 #[.agg cs.toArray, .int .i64 d] w fun e w' => e = .returned (.int .i64 (chk (m + 1) v)) ∧ Below w.heap.size w w' := by
  obtain ⟨sn, sk, rfl, -, hn64, -, htz, ⟨np, nc, rfl, nl, nc2, nsz, nr⟩, ⟨sp, cap, rfl, hcap1, hcap2, hrow⟩⟩ := hv; have hn : -9223372036854775808 ≤ v.n ∧ v.n ≤ 9223372036854775807 := by simp [Lit.wf, IntKind.min, IntKind.max, IntKind.bits, IntKind.signed] at hn64; omega
  clear hn64; refine enter (args := [.agg (six v (.slice np v.names.length nc) (.slice sp v.kids.length cap)).toArray, .int .i64 d]) Tryz.func114 rfl Tryz.ntmps114 rfl ?_; refine K.kgo ?_; refine WL.box rfl rfl rfl rfl rfl fun g w1 hf => ?_; have hR : VBlk 82 w1 g (six v (.slice np v.names.length nc) (.slice sp v.kids.length cap)) := hf.blk; have hbel : Below w.heap.size w w1 := hf.below; have c0 : w1.cell? ⟨g, 0, none⟩ = some (.int .i64 v.k) := hR.cell 0 (by simp); have c1 : w1.cell? ⟨g, 1, none⟩ = some (.int .i64 v.n) := hR.cell 1 (by simp); have c2 : w1.cell? ⟨g, 2, none⟩ = some (.int .i64 v.s) := hR.cell 2 (by simp); have c3 : w1.cell? ⟨g, 3, none⟩ = some (.string v.t) := hR.cell 3 (by simp); have c4 : w1.cell? ⟨g, 4, none⟩ = some (.slice np v.names.length nc) := hR.cell 4 (by simp); have c5 : w1.cell? ⟨g, 5, none⟩ = some (.slice sp v.kids.length cap) := hR.cell 5 (by simp); clear hf; have hfc := formB_eq v; have hB : bareB v = (decide (v.n = 0) && decide (v.s = 0)) := rfl; have hP : plainB v = (decide (v.names.length = 0) && decide (v.kids.length = 0)) := rfl; have hE := text_ne v; have bad3 : formB v = false → Ending.returned (.int .i64 3) = .returned (.int .i64 (chk (m + 1) v)) ∧ Below w.heap.size w w1 := fun h => ⟨ret_i64 (chk_bad (shp_form3 h) (by decide)).symm, hbel⟩; refine K.kgb ?_; refine WL.as 5 (.bool (!noTextB v)) rfl (congrArg Value.bool hE) ?_; refine WL.mid (fun _ : Unit => [(1, .int .i64 d), (2, .pointer (some ⟨g, 0, none⟩)), (5, .bool (!noTextB v)), (6, .bool (!plainB v))]) (fun _ w' => w1 = w') rfl ?_ ?_
  · by_cases hK : v.kids.length = 0
    · have hK0 : ¬ (0 : Int) < v.kids.length := by omega
      refine WL.as 19 (.bool false) rfl (congrArg Value.bool (decide_eq_false hK0)) ?_
      by_cases hN : v.names.length = 0
      · refine K.kgl ?_
        exact WQ.meet () ⟨rfl, rfl, rfl, congrArg (fun b => some (Value.bool b)) (by rw [hP]; simp [hN, hK]), trivial⟩ rfl
      · refine K.kgl ?_
        exact WQ.meet () ⟨rfl, rfl, rfl, congrArg (fun b => some (Value.bool b)) (by rw [hP]; simp [hN]), trivial⟩ rfl
    · have hK0 : (0 : Int) < v.kids.length := by omega
      refine WL.as 19 (.bool true) rfl (congrArg Value.bool (decide_eq_true hK0)) ?_; refine K.kgl ?_; exact WQ.meet () ⟨rfl, rfl, rfl, congrArg (fun b => some (Value.bool b)) (by rw [hP]; simp [hK]), trivial⟩ rfl
  rintro _ _ rfl; have shp5 : formB v = true → (16384 < v.t.size ∨ 200 < v.kids.length) → shp v = 5 := fun h1 h2 => by unfold shp; rw [if_neg (by rw [h1]; exact Bool.noConfusion), if_pos h2]
  have shp0 : formB v = true → v.t.size ≤ 16384 → v.kids.length ≤ 200 → (v.k = 9 → fieldsB v = true) → shp v = 0 := fun h1 h2 h3 h4 => by
    unfold shp; rw [if_neg (by rw [h1]; exact Bool.noConfusion), if_neg (by omega), if_neg (fun h => by have := h4 h.1; rw [this] at h; exact Bool.noConfusion h.2)]
  have hEt : noTextB v = true → v.t.size = 0 := fun h => of_decide_eq_true h; have hPk : plainB v = true → v.kids.length = 0 := fun h => by rw [hP] at h; rw [Bool.and_eq_true] at h; exact of_decide_eq_true h.2
  have chk0 : shp v = 0 → v.kids.length = 0 → chk (m + 1) v = 0 := fun h1 h2 => by
    unfold chk; rw [if_pos h1, List.eq_nil_of_length_eq_zero h2]
    rfl
  clear hE hP

  by_cases a1 : v.s = 0
  · skip
    cases hE1 : noTextB v with
    | false =>
      rw [hE1] at hfc; refine K.kgl ?_; exact WQ.ret1 rfl rfl (bad3 (by rw [hfc]; simp [formC, *]))
    | true =>
      rw [hE1] at hfc; cases hP1 : plainB v with
      | false =>
        rw [hP1] at hfc; refine K.kgl ?_; exact WQ.ret1 rfl rfl (bad3 (by rw [hfc]; simp [formC, *]))
      | true =>
        rw [hP1] at hfc; have h0 : shp v = 0 := shp0 (by rw [hfc]; simp [formC, *]) (by have := hEt hE1; omega) (by have := hPk hP1; omega) (fun h => by omega); have hk0 : v.kids.length = 0 := hPk hP1; refine K.kgl ?_; refine WC.loop (fun _ : Unit => [(1, .int .i64 d), (2, .pointer (some ⟨g, 0, none⟩)), (8, .int .i64 0)]) (fun _ w' => w1 = w') (fun _ => 0) () ⟨rfl, rfl, rfl, trivial⟩ rfl ?_; rintro _ _ rfl; refine K.kgl ?_; exact WQ.ret1 rfl rfl ⟨ret_i64 (chk0 h0 hk0).symm, hbel⟩
  · skip
    refine K.kgl ?_; exact WQ.ret1 rfl rfl (bad3 (by rw [hfc]; simp [formC, *]))

set_option maxRecDepth 100000 in
set_option maxHeartbeats 16000000 in
theorem rchk_k4 {f : Nat} {w : World} {v : V} {cs : List Value} {m : Nat} {d : Int} (hv : IsV (f + 1) w v cs) (q : v.k = 4) (_hd1 : d ≤ 16) (_hd0 : 0 ≤ d) :
    Calls Tryz.prog 114 #[.agg cs.toArray, .int .i64 d] w fun e w' => e = .returned (.int .i64 (chk (m + 1) v)) ∧ Below w.heap.size w w' := by
  obtain ⟨sn, sk, rfl, -, hn64, -, htz, ⟨np, nc, rfl, nl, nc2, nsz, nr⟩, ⟨sp, cap, rfl, hcap1, hcap2, hrow⟩⟩ := hv; have hn : -9223372036854775808 ≤ v.n ∧ v.n ≤ 9223372036854775807 := by simp [Lit.wf, IntKind.min, IntKind.max, IntKind.bits, IntKind.signed] at hn64; omega
  clear hn64; refine enter (args := [.agg (six v (.slice np v.names.length nc) (.slice sp v.kids.length cap)).toArray, .int .i64 d]) Tryz.func114 rfl Tryz.ntmps114 rfl ?_; refine K.kgo ?_; refine WL.box rfl rfl rfl rfl rfl fun g w1 hf => ?_; have hR : VBlk 82 w1 g (six v (.slice np v.names.length nc) (.slice sp v.kids.length cap)) := hf.blk; have hbel : Below w.heap.size w w1 := hf.below; have c0 : w1.cell? ⟨g, 0, none⟩ = some (.int .i64 v.k) := hR.cell 0 (by simp); have c1 : w1.cell? ⟨g, 1, none⟩ = some (.int .i64 v.n) := hR.cell 1 (by simp); have c2 : w1.cell? ⟨g, 2, none⟩ = some (.int .i64 v.s) := hR.cell 2 (by simp); have c3 : w1.cell? ⟨g, 3, none⟩ = some (.string v.t) := hR.cell 3 (by simp); have c4 : w1.cell? ⟨g, 4, none⟩ = some (.slice np v.names.length nc) := hR.cell 4 (by simp); have c5 : w1.cell? ⟨g, 5, none⟩ = some (.slice sp v.kids.length cap) := hR.cell 5 (by simp); clear hf; have hfc := formB_eq v; have hB : bareB v = (decide (v.n = 0) && decide (v.s = 0)) := rfl; have hP : plainB v = (decide (v.names.length = 0) && decide (v.kids.length = 0)) := rfl; have hE := text_ne v; have bad3 : formB v = false → Ending.returned (.int .i64 3) = .returned (.int .i64 (chk (m + 1) v)) ∧ Below w.heap.size w w1 := fun h => ⟨ret_i64 (chk_bad (shp_form3 h) (by decide)).symm, hbel⟩; refine K.kgb ?_; refine WL.as 5 (.bool (!noTextB v)) rfl (congrArg Value.bool hE) ?_; refine WL.mid (fun _ : Unit => [(1, .int .i64 d), (2, .pointer (some ⟨g, 0, none⟩)), (5, .bool (!noTextB v)), (6, .bool (!plainB v))]) (fun _ w' => w1 = w') rfl ?_ ?_
  · by_cases hK : v.kids.length = 0
    · have hK0 : ¬ (0 : Int) < v.kids.length := by omega
      refine WL.as 19 (.bool false) rfl (congrArg Value.bool (decide_eq_false hK0)) ?_
      by_cases hN : v.names.length = 0
      · refine K.kgl ?_
        exact WQ.meet () ⟨rfl, rfl, rfl, congrArg (fun b => some (Value.bool b)) (by rw [hP]; simp [hN, hK]), trivial⟩ rfl
      · refine K.kgl ?_
        exact WQ.meet () ⟨rfl, rfl, rfl, congrArg (fun b => some (Value.bool b)) (by rw [hP]; simp [hN]), trivial⟩ rfl
    · have hK0 : (0 : Int) < v.kids.length := by omega
      refine WL.as 19 (.bool true) rfl (congrArg Value.bool (decide_eq_true hK0)) ?_; refine K.kgl ?_; exact WQ.meet () ⟨rfl, rfl, rfl, congrArg (fun b => some (Value.bool b)) (by rw [hP]; simp [hK]), trivial⟩ rfl
  rintro _ _ rfl; have shp5 : formB v = true → (16384 < v.t.size ∨ 200 < v.kids.length) → shp v = 5 := fun h1 h2 => by unfold shp; rw [if_neg (by rw [h1]; exact Bool.noConfusion), if_pos h2]
  have shp0 : formB v = true → v.t.size ≤ 16384 → v.kids.length ≤ 200 → (v.k = 9 → fieldsB v = true) → shp v = 0 := fun h1 h2 h3 h4 => by
    unfold shp; rw [if_neg (by rw [h1]; exact Bool.noConfusion), if_neg (by omega), if_neg (fun h => by have := h4 h.1; rw [this] at h; exact Bool.noConfusion h.2)]
  have hEt : noTextB v = true → v.t.size = 0 := fun h => of_decide_eq_true h; have hPk : plainB v = true → v.kids.length = 0 := fun h => by rw [hP] at h; rw [Bool.and_eq_true] at h; exact of_decide_eq_true h.2
  have chk0 : shp v = 0 → v.kids.length = 0 → chk (m + 1) v = 0 := fun h1 h2 => by
    unfold chk; rw [if_pos h1, List.eq_nil_of_length_eq_zero h2]
    rfl
  clear hE hP

  by_cases a1 : 1 ≤ v.s
  · skip
    by_cases a2 : v.s ≤ 18
    · skip
      by_cases a3 : ¬ v.n.tmod 10 = 0
      · skip
        cases hE1 : noTextB v with
        | false =>
          rw [hE1] at hfc; refine K.kgl ?_; exact WQ.ret1 rfl rfl (bad3 (by rw [hfc]; simp [formC, *]))
        | true =>
          rw [hE1] at hfc; cases hP1 : plainB v with
          | false =>
            rw [hP1] at hfc; refine K.kgl ?_; exact WQ.ret1 rfl rfl (bad3 (by rw [hfc]; simp [formC, *]))
          | true =>
            rw [hP1] at hfc; have h0 : shp v = 0 := shp0 (by rw [hfc]; simp [formC, *]) (by have := hEt hE1; omega) (by have := hPk hP1; omega) (fun h => by omega); have hk0 : v.kids.length = 0 := hPk hP1; refine K.kgl ?_; refine WC.loop (fun _ : Unit => [(1, .int .i64 d), (2, .pointer (some ⟨g, 0, none⟩)), (8, .int .i64 0)]) (fun _ w' => w1 = w') (fun _ => 0) () ⟨rfl, rfl, rfl, trivial⟩ rfl ?_; rintro _ _ rfl; refine K.kgl ?_; exact WQ.ret1 rfl rfl ⟨ret_i64 (chk0 h0 hk0).symm, hbel⟩
      · skip
        refine K.kgl ?_; exact WQ.ret1 rfl rfl (bad3 (by rw [hfc]; simp [formC, *]))
    · skip
      refine K.kgl ?_; exact WQ.ret1 rfl rfl (bad3 (by rw [hfc]; simp [formC, *]))
  · skip
    refine K.kgl ?_; exact WQ.ret1 rfl rfl (bad3 (by rw [hfc]; simp [formC, *]))

set_option maxRecDepth 100000 in
set_option maxHeartbeats 16000000 in
theorem rchk_k5 {f : Nat} {w : World} {v : V} {cs : List Value} {m : Nat} {d : Int} (hv : IsV (f + 1) w v cs) (q : v.k = 5) (_hd1 : d ≤ 16) (_hd0 : 0 ≤ d) :
    Calls Tryz.prog 114 #[.agg cs.toArray, .int .i64 d] w fun e w' => e = .returned (.int .i64 (chk (m + 1) v)) ∧ Below w.heap.size w w' := by
  obtain ⟨sn, sk, rfl, -, hn64, -, htz, ⟨np, nc, rfl, nl, nc2, nsz, nr⟩, ⟨sp, cap, rfl, hcap1, hcap2, hrow⟩⟩ := hv; have hn : -9223372036854775808 ≤ v.n ∧ v.n ≤ 9223372036854775807 := by simp [Lit.wf, IntKind.min, IntKind.max, IntKind.bits, IntKind.signed] at hn64; omega
  clear hn64; refine enter (args := [.agg (six v (.slice np v.names.length nc) (.slice sp v.kids.length cap)).toArray, .int .i64 d]) Tryz.func114 rfl Tryz.ntmps114 rfl ?_; refine K.kgo ?_; refine WL.box rfl rfl rfl rfl rfl fun g w1 hf => ?_; have hR : VBlk 82 w1 g (six v (.slice np v.names.length nc) (.slice sp v.kids.length cap)) := hf.blk; have hbel : Below w.heap.size w w1 := hf.below; have c0 : w1.cell? ⟨g, 0, none⟩ = some (.int .i64 v.k) := hR.cell 0 (by simp); have c1 : w1.cell? ⟨g, 1, none⟩ = some (.int .i64 v.n) := hR.cell 1 (by simp); have c2 : w1.cell? ⟨g, 2, none⟩ = some (.int .i64 v.s) := hR.cell 2 (by simp); have c3 : w1.cell? ⟨g, 3, none⟩ = some (.string v.t) := hR.cell 3 (by simp); have c4 : w1.cell? ⟨g, 4, none⟩ = some (.slice np v.names.length nc) := hR.cell 4 (by simp); have c5 : w1.cell? ⟨g, 5, none⟩ = some (.slice sp v.kids.length cap) := hR.cell 5 (by simp); clear hf; have hfc := formB_eq v; have hB : bareB v = (decide (v.n = 0) && decide (v.s = 0)) := rfl; have hP : plainB v = (decide (v.names.length = 0) && decide (v.kids.length = 0)) := rfl; have hE := text_ne v; have bad3 : formB v = false → Ending.returned (.int .i64 3) = .returned (.int .i64 (chk (m + 1) v)) ∧ Below w.heap.size w w1 := fun h => ⟨ret_i64 (chk_bad (shp_form3 h) (by decide)).symm, hbel⟩; refine K.kgb ?_; refine WL.as 5 (.bool (!noTextB v)) rfl (congrArg Value.bool hE) ?_; refine WL.mid (fun _ : Unit => [(1, .int .i64 d), (2, .pointer (some ⟨g, 0, none⟩)), (5, .bool (!noTextB v)), (6, .bool (!plainB v))]) (fun _ w' => w1 = w') rfl ?_ ?_
  · by_cases hK : v.kids.length = 0
    · have hK0 : ¬ (0 : Int) < v.kids.length := by omega
      refine WL.as 19 (.bool false) rfl (congrArg Value.bool (decide_eq_false hK0)) ?_
      by_cases hN : v.names.length = 0
      · refine K.kgl ?_
        exact WQ.meet () ⟨rfl, rfl, rfl, congrArg (fun b => some (Value.bool b)) (by rw [hP]; simp [hN, hK]), trivial⟩ rfl
      · refine K.kgl ?_
        exact WQ.meet () ⟨rfl, rfl, rfl, congrArg (fun b => some (Value.bool b)) (by rw [hP]; simp [hN]), trivial⟩ rfl
    · have hK0 : (0 : Int) < v.kids.length := by omega
      refine WL.as 19 (.bool true) rfl (congrArg Value.bool (decide_eq_true hK0)) ?_; refine K.kgl ?_; exact WQ.meet () ⟨rfl, rfl, rfl, congrArg (fun b => some (Value.bool b)) (by rw [hP]; simp [hK]), trivial⟩ rfl
  rintro _ _ rfl; have shp5 : formB v = true → (16384 < v.t.size ∨ 200 < v.kids.length) → shp v = 5 := fun h1 h2 => by unfold shp; rw [if_neg (by rw [h1]; exact Bool.noConfusion), if_pos h2]
  have shp0 : formB v = true → v.t.size ≤ 16384 → v.kids.length ≤ 200 → (v.k = 9 → fieldsB v = true) → shp v = 0 := fun h1 h2 h3 h4 => by
    unfold shp; rw [if_neg (by rw [h1]; exact Bool.noConfusion), if_neg (by omega), if_neg (fun h => by have := h4 h.1; rw [this] at h; exact Bool.noConfusion h.2)]
  have hEt : noTextB v = true → v.t.size = 0 := fun h => of_decide_eq_true h; have hPk : plainB v = true → v.kids.length = 0 := fun h => by rw [hP] at h; rw [Bool.and_eq_true] at h; exact of_decide_eq_true h.2
  have chk0 : shp v = 0 → v.kids.length = 0 → chk (m + 1) v = 0 := fun h1 h2 => by
    unfold chk; rw [if_pos h1, List.eq_nil_of_length_eq_zero h2]
    rfl
  clear hE hP

  by_cases a1 : 0 ≤ v.n
  · skip
    by_cases a2 : v.n ≤ 9007199254740992
    · skip
      by_cases a3 : v.s = 0
      · skip
        cases hE1 : noTextB v with
        | false =>
          rw [hE1] at hfc; refine K.kgl ?_; exact WQ.ret1 rfl rfl (bad3 (by rw [hfc]; simp [formC, *]))
        | true =>
          rw [hE1] at hfc; cases hP1 : plainB v with
          | false =>
            rw [hP1] at hfc; refine K.kgl ?_; exact WQ.ret1 rfl rfl (bad3 (by rw [hfc]; simp [formC, *]))
          | true =>
            rw [hP1] at hfc; have h0 : shp v = 0 := shp0 (by rw [hfc]; simp [formC, *]) (by have := hEt hE1; omega) (by have := hPk hP1; omega) (fun h => by omega); have hk0 : v.kids.length = 0 := hPk hP1; refine K.kgl ?_; refine WC.loop (fun _ : Unit => [(1, .int .i64 d), (2, .pointer (some ⟨g, 0, none⟩)), (8, .int .i64 0)]) (fun _ w' => w1 = w') (fun _ => 0) () ⟨rfl, rfl, rfl, trivial⟩ rfl ?_; rintro _ _ rfl; refine K.kgl ?_; exact WQ.ret1 rfl rfl ⟨ret_i64 (chk0 h0 hk0).symm, hbel⟩
      · skip
        refine K.kgl ?_; exact WQ.ret1 rfl rfl (bad3 (by rw [hfc]; simp [formC, *]))
    · skip
      refine K.kgl ?_; exact WQ.ret1 rfl rfl (bad3 (by rw [hfc]; simp [formC, *]))
  · skip
    refine K.kgl ?_; exact WQ.ret1 rfl rfl (bad3 (by rw [hfc]; simp [formC, *]))

set_option maxRecDepth 100000 in
set_option maxHeartbeats 16000000 in
theorem rchk_k67 {f : Nat} {w : World} {v : V} {cs : List Value} {m : Nat} {d : Int} (hv : IsV (f + 1) w v cs) (q : v.k = 6 ∨ v.k = 7) (_hd1 : d ≤ 16) (_hd0 : 0 ≤ d) :
    Calls Tryz.prog 114 #[.agg cs.toArray, .int .i64 d] w fun e w' => e = .returned (.int .i64 (chk (m + 1) v)) ∧ Below w.heap.size w w' := by
  obtain ⟨sn, sk, rfl, -, hn64, -, htz, ⟨np, nc, rfl, nl, nc2, nsz, nr⟩, ⟨sp, cap, rfl, hcap1, hcap2, hrow⟩⟩ := hv; have hn : -9223372036854775808 ≤ v.n ∧ v.n ≤ 9223372036854775807 := by simp [Lit.wf, IntKind.min, IntKind.max, IntKind.bits, IntKind.signed] at hn64; omega
  clear hn64; refine enter (args := [.agg (six v (.slice np v.names.length nc) (.slice sp v.kids.length cap)).toArray, .int .i64 d]) Tryz.func114 rfl Tryz.ntmps114 rfl ?_; refine K.kgo ?_; refine WL.box rfl rfl rfl rfl rfl fun g w1 hf => ?_; have hR : VBlk 82 w1 g (six v (.slice np v.names.length nc) (.slice sp v.kids.length cap)) := hf.blk; have hbel : Below w.heap.size w w1 := hf.below; have c0 : w1.cell? ⟨g, 0, none⟩ = some (.int .i64 v.k) := hR.cell 0 (by simp); have c1 : w1.cell? ⟨g, 1, none⟩ = some (.int .i64 v.n) := hR.cell 1 (by simp); have c2 : w1.cell? ⟨g, 2, none⟩ = some (.int .i64 v.s) := hR.cell 2 (by simp); have c3 : w1.cell? ⟨g, 3, none⟩ = some (.string v.t) := hR.cell 3 (by simp); have c4 : w1.cell? ⟨g, 4, none⟩ = some (.slice np v.names.length nc) := hR.cell 4 (by simp); have c5 : w1.cell? ⟨g, 5, none⟩ = some (.slice sp v.kids.length cap) := hR.cell 5 (by simp); clear hf; have hfc := formB_eq v; have hB : bareB v = (decide (v.n = 0) && decide (v.s = 0)) := rfl; have hP : plainB v = (decide (v.names.length = 0) && decide (v.kids.length = 0)) := rfl; have hE := text_ne v; have bad3 : formB v = false → Ending.returned (.int .i64 3) = .returned (.int .i64 (chk (m + 1) v)) ∧ Below w.heap.size w w1 := fun h => ⟨ret_i64 (chk_bad (shp_form3 h) (by decide)).symm, hbel⟩; refine K.kgb ?_; refine WL.as 5 (.bool (!noTextB v)) rfl (congrArg Value.bool hE) ?_; refine WL.mid (fun _ : Unit => [(1, .int .i64 d), (2, .pointer (some ⟨g, 0, none⟩)), (5, .bool (!noTextB v)), (6, .bool (!plainB v))]) (fun _ w' => w1 = w') rfl ?_ ?_
  · by_cases hK : v.kids.length = 0
    · have hK0 : ¬ (0 : Int) < v.kids.length := by omega
      refine WL.as 19 (.bool false) rfl (congrArg Value.bool (decide_eq_false hK0)) ?_
      by_cases hN : v.names.length = 0
      · refine K.kgl ?_
        exact WQ.meet () ⟨rfl, rfl, rfl, congrArg (fun b => some (Value.bool b)) (by rw [hP]; simp [hN, hK]), trivial⟩ rfl
      · refine K.kgl ?_
        exact WQ.meet () ⟨rfl, rfl, rfl, congrArg (fun b => some (Value.bool b)) (by rw [hP]; simp [hN]), trivial⟩ rfl
    · have hK0 : (0 : Int) < v.kids.length := by omega
      refine WL.as 19 (.bool true) rfl (congrArg Value.bool (decide_eq_true hK0)) ?_; refine K.kgl ?_; exact WQ.meet () ⟨rfl, rfl, rfl, congrArg (fun b => some (Value.bool b)) (by rw [hP]; simp [hK]), trivial⟩ rfl
  rintro _ _ rfl; have shp5 : formB v = true → (16384 < v.t.size ∨ 200 < v.kids.length) → shp v = 5 := fun h1 h2 => by unfold shp; rw [if_neg (by rw [h1]; exact Bool.noConfusion), if_pos h2]
  have shp0 : formB v = true → v.t.size ≤ 16384 → v.kids.length ≤ 200 → (v.k = 9 → fieldsB v = true) → shp v = 0 := fun h1 h2 h3 h4 => by
    unfold shp; rw [if_neg (by rw [h1]; exact Bool.noConfusion), if_neg (by omega), if_neg (fun h => by have := h4 h.1; rw [this] at h; exact Bool.noConfusion h.2)]
  have hEt : noTextB v = true → v.t.size = 0 := fun h => of_decide_eq_true h; have hPk : plainB v = true → v.kids.length = 0 := fun h => by rw [hP] at h; rw [Bool.and_eq_true] at h; exact of_decide_eq_true h.2
  have chk0 : shp v = 0 → v.kids.length = 0 → chk (m + 1) v = 0 := fun h1 h2 => by
    unfold chk; rw [if_pos h1, List.eq_nil_of_length_eq_zero h2]
    rfl
  clear hE hP

  clear nr nsz hrow; have q9 : ¬ v.k = 9 := by omega
  rcases q with q | q
  · skip
    by_cases a1 : v.n = 0
    · skip
      by_cases a2 : v.s = 0
      · skip
        cases hP1 : plainB v with
        | false =>
          rw [hP1] at hfc; refine K.kgl ?_; exact WQ.ret1 rfl rfl (bad3 (by rw [hfc]; simp [formC, *]))
        | true =>
          rw [hP1] at hfc
          by_cases a3 : 16384 < v.t.size
          · refine K.kgl ?_
            exact WQ.ret1 rfl rfl ⟨ret_i64 (chk_bad (shp5 (by rw [hfc]; simp [formC, *]) (.inl a3)) (by decide)).symm, hbel⟩
          · skip
            have h0 : shp v = 0 := shp0 (by rw [hfc]; simp [formC, *]) (by omega) (by have := hPk hP1; omega) (fun h => by omega); have hk0 : v.kids.length = 0 := hPk hP1; refine K.kgl ?_; refine WC.loop (fun _ : Unit => [(1, .int .i64 d), (2, .pointer (some ⟨g, 0, none⟩)), (8, .int .i64 0)]) (fun _ w' => w1 = w') (fun _ => 0) () ⟨rfl, rfl, rfl, trivial⟩ rfl ?_; rintro _ _ rfl; refine K.kgl ?_; exact WQ.ret1 rfl rfl ⟨ret_i64 (chk0 h0 hk0).symm, hbel⟩
      · skip
        refine K.kgl ?_; exact WQ.ret1 rfl rfl (bad3 (by rw [hfc]; simp [formC, *]))
    · skip
      refine K.kgl ?_; exact WQ.ret1 rfl rfl (bad3 (by rw [hfc]; simp [formC, *]))
  · skip
    by_cases a1 : v.n = 0
    · skip
      by_cases a2 : v.s = 0
      · skip
        cases hP1 : plainB v with
        | false =>
          rw [hP1] at hfc; refine K.kgl ?_; exact WQ.ret1 rfl rfl (bad3 (by rw [hfc]; simp [formC, *]))
        | true =>
          rw [hP1] at hfc
          by_cases a3 : 16384 < v.t.size
          · refine K.kgl ?_
            exact WQ.ret1 rfl rfl ⟨ret_i64 (chk_bad (shp5 (by rw [hfc]; simp [formC, *]) (.inl a3)) (by decide)).symm, hbel⟩
          · skip
            have h0 : shp v = 0 := shp0 (by rw [hfc]; simp [formC, *]) (by omega) (by have := hPk hP1; omega) (fun h => by omega); have hk0 : v.kids.length = 0 := hPk hP1; refine K.kgl ?_; refine WC.loop (fun _ : Unit => [(1, .int .i64 d), (2, .pointer (some ⟨g, 0, none⟩)), (8, .int .i64 0)]) (fun _ w' => w1 = w') (fun _ => 0) () ⟨rfl, rfl, rfl, trivial⟩ rfl ?_; rintro _ _ rfl; refine K.kgl ?_; exact WQ.ret1 rfl rfl ⟨ret_i64 (chk0 h0 hk0).symm, hbel⟩
      · skip
        refine K.kgl ?_; exact WQ.ret1 rfl rfl (bad3 (by rw [hfc]; simp [formC, *]))
    · skip
      refine K.kgl ?_; exact WQ.ret1 rfl rfl (bad3 (by rw [hfc]; simp [formC, *]))

set_option maxRecDepth 100000 in
set_option maxHeartbeats 16000000 in
theorem rchk_kx {f : Nat} {w : World} {v : V} {cs : List Value} {m : Nat} {d : Int} (hv : IsV (f + 1) w v cs) (q : ¬ (1 ≤ v.k ∧ v.k ≤ 9)) (_hd1 : d ≤ 16) (_hd0 : 0 ≤ d) :
    Calls Tryz.prog 114 #[.agg cs.toArray, .int .i64 d] w fun e w' => e = .returned (.int .i64 (chk (m + 1) v)) ∧ Below w.heap.size w w' := by
  obtain ⟨sn, sk, rfl, -, hn64, -, htz, ⟨np, nc, rfl, nl, nc2, nsz, nr⟩, ⟨sp, cap, rfl, hcap1, hcap2, hrow⟩⟩ := hv; have hn : -9223372036854775808 ≤ v.n ∧ v.n ≤ 9223372036854775807 := by simp [Lit.wf, IntKind.min, IntKind.max, IntKind.bits, IntKind.signed] at hn64; omega
  clear hn64; refine enter (args := [.agg (six v (.slice np v.names.length nc) (.slice sp v.kids.length cap)).toArray, .int .i64 d]) Tryz.func114 rfl Tryz.ntmps114 rfl ?_; refine K.kgo ?_; refine WL.box rfl rfl rfl rfl rfl fun g w1 hf => ?_; have hR : VBlk 82 w1 g (six v (.slice np v.names.length nc) (.slice sp v.kids.length cap)) := hf.blk; have hbel : Below w.heap.size w w1 := hf.below; have c0 : w1.cell? ⟨g, 0, none⟩ = some (.int .i64 v.k) := hR.cell 0 (by simp); have c1 : w1.cell? ⟨g, 1, none⟩ = some (.int .i64 v.n) := hR.cell 1 (by simp); have c2 : w1.cell? ⟨g, 2, none⟩ = some (.int .i64 v.s) := hR.cell 2 (by simp); have c3 : w1.cell? ⟨g, 3, none⟩ = some (.string v.t) := hR.cell 3 (by simp); have c4 : w1.cell? ⟨g, 4, none⟩ = some (.slice np v.names.length nc) := hR.cell 4 (by simp); have c5 : w1.cell? ⟨g, 5, none⟩ = some (.slice sp v.kids.length cap) := hR.cell 5 (by simp); clear hf; have hfc := formB_eq v; have hB : bareB v = (decide (v.n = 0) && decide (v.s = 0)) := rfl; have hP : plainB v = (decide (v.names.length = 0) && decide (v.kids.length = 0)) := rfl; have hE := text_ne v; have bad3 : formB v = false → Ending.returned (.int .i64 3) = .returned (.int .i64 (chk (m + 1) v)) ∧ Below w.heap.size w w1 := fun h => ⟨ret_i64 (chk_bad (shp_form3 h) (by decide)).symm, hbel⟩; refine K.kgb ?_; refine WL.as 5 (.bool (!noTextB v)) rfl (congrArg Value.bool hE) ?_; refine WL.mid (fun _ : Unit => [(1, .int .i64 d), (2, .pointer (some ⟨g, 0, none⟩)), (5, .bool (!noTextB v)), (6, .bool (!plainB v))]) (fun _ w' => w1 = w') rfl ?_ ?_
  · by_cases hK : v.kids.length = 0
    · have hK0 : ¬ (0 : Int) < v.kids.length := by omega
      refine WL.as 19 (.bool false) rfl (congrArg Value.bool (decide_eq_false hK0)) ?_
      by_cases hN : v.names.length = 0
      · refine K.kgl ?_
        exact WQ.meet () ⟨rfl, rfl, rfl, congrArg (fun b => some (Value.bool b)) (by rw [hP]; simp [hN, hK]), trivial⟩ rfl
      · refine K.kgl ?_
        exact WQ.meet () ⟨rfl, rfl, rfl, congrArg (fun b => some (Value.bool b)) (by rw [hP]; simp [hN]), trivial⟩ rfl
    · have hK0 : (0 : Int) < v.kids.length := by omega
      refine WL.as 19 (.bool true) rfl (congrArg Value.bool (decide_eq_true hK0)) ?_; refine K.kgl ?_; exact WQ.meet () ⟨rfl, rfl, rfl, congrArg (fun b => some (Value.bool b)) (by rw [hP]; simp [hK]), trivial⟩ rfl
  rintro _ _ rfl; have shp5 : formB v = true → (16384 < v.t.size ∨ 200 < v.kids.length) → shp v = 5 := fun h1 h2 => by unfold shp; rw [if_neg (by rw [h1]; exact Bool.noConfusion), if_pos h2]
  have shp0 : formB v = true → v.t.size ≤ 16384 → v.kids.length ≤ 200 → (v.k = 9 → fieldsB v = true) → shp v = 0 := fun h1 h2 h3 h4 => by
    unfold shp; rw [if_neg (by rw [h1]; exact Bool.noConfusion), if_neg (by omega), if_neg (fun h => by have := h4 h.1; rw [this] at h; exact Bool.noConfusion h.2)]
  have hEt : noTextB v = true → v.t.size = 0 := fun h => of_decide_eq_true h; have hPk : plainB v = true → v.kids.length = 0 := fun h => by rw [hP] at h; rw [Bool.and_eq_true] at h; exact of_decide_eq_true h.2
  have chk0 : shp v = 0 → v.kids.length = 0 → chk (m + 1) v = 0 := fun h1 h2 => by
    unfold chk; rw [if_pos h1, List.eq_nil_of_length_eq_zero h2]
    rfl
  clear hE hP

  clear nr nsz hrow; have hff : formB v = false := by
    rw [hfc]; unfold formC; rw [if_neg (show ¬ v.k = 1 by omega), if_neg (show ¬ v.k = 2 by omega), if_neg (show ¬ v.k = 3 by omega), if_neg (show ¬ v.k = 4 by omega), if_neg (show ¬ v.k = 5 by omega), if_neg (show ¬ (v.k = 6 ∨ v.k = 7) by omega), if_neg (show ¬ v.k = 8 by omega), if_neg (show ¬ v.k = 9 by omega)]
  refine K.kgl ?_; exact WQ.ret1 rfl rfl (bad3 hff)
end K
end Go.Proofs.YtpfkcfaifleliaaGreat

namespace Go.Proofs.YtpfkcfaifleliaaGreat
open Go.RowKit
namespace K
open Vl (formC formB_eq okN fields_iff)


set_option maxRecDepth 100000 in
set_option maxHeartbeats 16000000 in
theorem rchk_k8 {f : Nat} {w : World} {v : V} {cs : List Value} {m : Nat} {d : Int} (ih : ∀ {w : World} {v : V} {cs : List Value} (d : Int), IsV f w v cs → d = 17 - (m : Int) → Calls Tryz.prog 114 #[.agg cs.toArray, .int .i64 d] w fun e w' => e = .returned (.int .i64 (chk m v)) ∧ Below w.heap.size w w') (hd : d + 1 = 17 - (m : Int)) (hv : IsV (f + 1) w v cs) (q : v.k = 8) (_hd1 : d ≤ 16) (_hd0 : 0 ≤ d) :
    Calls Tryz.prog 114 #[.agg cs.toArray, .int .i64 d] w fun e w' => e = .returned (.int .i64 (chk (m + 1) v)) ∧ Below w.heap.size w w' := by
  obtain ⟨sn, sk, rfl, -, hn64, -, htz, ⟨np, nc, rfl, nl, nc2, nsz, nr⟩, ⟨sp, cap, rfl, hcap1, hcap2, hrow⟩⟩ := hv; have hn : -9223372036854775808 ≤ v.n ∧ v.n ≤ 9223372036854775807 := by simp [Lit.wf, IntKind.min, IntKind.max, IntKind.bits, IntKind.signed] at hn64; omega
  clear hn64; refine enter (args := [.agg (six v (.slice np v.names.length nc) (.slice sp v.kids.length cap)).toArray, .int .i64 d]) Tryz.func114 rfl Tryz.ntmps114 rfl ?_; refine K.kgo ?_; refine WL.box rfl rfl rfl rfl rfl fun g w1 hf => ?_; have hR : VBlk 82 w1 g (six v (.slice np v.names.length nc) (.slice sp v.kids.length cap)) := hf.blk; have hbel : Below w.heap.size w w1 := hf.below; have c0 : w1.cell? ⟨g, 0, none⟩ = some (.int .i64 v.k) := hR.cell 0 (by simp); have c1 : w1.cell? ⟨g, 1, none⟩ = some (.int .i64 v.n) := hR.cell 1 (by simp); have c2 : w1.cell? ⟨g, 2, none⟩ = some (.int .i64 v.s) := hR.cell 2 (by simp); have c3 : w1.cell? ⟨g, 3, none⟩ = some (.string v.t) := hR.cell 3 (by simp); have c4 : w1.cell? ⟨g, 4, none⟩ = some (.slice np v.names.length nc) := hR.cell 4 (by simp); have c5 : w1.cell? ⟨g, 5, none⟩ = some (.slice sp v.kids.length cap) := hR.cell 5 (by simp); clear hf; have hfc := formB_eq v; have hB : bareB v = (decide (v.n = 0) && decide (v.s = 0)) := rfl; have hP : plainB v = (decide (v.names.length = 0) && decide (v.kids.length = 0)) := rfl; have hE := text_ne v; have bad3 : formB v = false → Ending.returned (.int .i64 3) = .returned (.int .i64 (chk (m + 1) v)) ∧ Below w.heap.size w w1 := fun h => ⟨ret_i64 (chk_bad (shp_form3 h) (by decide)).symm, hbel⟩; refine K.kgb ?_; refine WL.as 5 (.bool (!noTextB v)) rfl (congrArg Value.bool hE) ?_; refine WL.mid (fun _ : Unit => [(1, .int .i64 d), (2, .pointer (some ⟨g, 0, none⟩)), (5, .bool (!noTextB v)), (6, .bool (!plainB v))]) (fun _ w' => w1 = w') rfl ?_ ?_
  · by_cases hK : v.kids.length = 0
    · have hK0 : ¬ (0 : Int) < v.kids.length := by omega
      refine WL.as 19 (.bool false) rfl (congrArg Value.bool (decide_eq_false hK0)) ?_
      by_cases hN : v.names.length = 0
      · refine K.kgl ?_
        exact WQ.meet () ⟨rfl, rfl, rfl, congrArg (fun b => some (Value.bool b)) (by rw [hP]; simp [hN, hK]), trivial⟩ rfl
      · refine K.kgl ?_
        exact WQ.meet () ⟨rfl, rfl, rfl, congrArg (fun b => some (Value.bool b)) (by rw [hP]; simp [hN]), trivial⟩ rfl
    · have hK0 : (0 : Int) < v.kids.length := by omega
      refine WL.as 19 (.bool true) rfl (congrArg Value.bool (decide_eq_true hK0)) ?_; refine K.kgl ?_; exact WQ.meet () ⟨rfl, rfl, rfl, congrArg (fun b => some (Value.bool b)) (by rw [hP]; simp [hK]), trivial⟩ rfl
  rintro _ _ rfl; have shp5 : formB v = true → (16384 < v.t.size ∨ 200 < v.kids.length) → shp v = 5 := fun h1 h2 => by unfold shp; rw [if_neg (by rw [h1]; exact Bool.noConfusion), if_pos h2]
  have shp0 : formB v = true → v.t.size ≤ 16384 → v.kids.length ≤ 200 → (v.k = 9 → fieldsB v = true) → shp v = 0 := fun h1 h2 h3 h4 => by
    unfold shp; rw [if_neg (by rw [h1]; exact Bool.noConfusion), if_neg (by omega), if_neg (fun h => by have := h4 h.1; rw [this] at h; exact Bool.noConfusion h.2)]
  have hEt : noTextB v = true → v.t.size = 0 := fun h => of_decide_eq_true h; have hPk : plainB v = true → v.kids.length = 0 := fun h => by rw [hP] at h; rw [Bool.and_eq_true] at h; exact of_decide_eq_true h.2
  have chk0 : shp v = 0 → v.kids.length = 0 → chk (m + 1) v = 0 := fun h1 h2 => by
    unfold chk; rw [if_pos h1, List.eq_nil_of_length_eq_zero h2]
    rfl
  clear hE hP

  clear nr nsz
  by_cases a1 : v.n = 0
  · skip
    by_cases a2 : v.s = 0
    · skip
      cases hE1 : noTextB v with
      | false =>
        rw [hE1] at hfc; refine K.kgl ?_; exact WQ.ret1 rfl rfl (bad3 (by rw [hfc]; simp [formC, *]))
      | true =>
        rw [hE1] at hfc
        by_cases a3 : v.names.length = 0
        · skip
          by_cases a4 : 200 < v.kids.length
          · refine K.kgl ?_
            exact WQ.ret1 rfl rfl ⟨ret_i64 (chk_bad (shp5 (by rw [hfc]; simp [formC, *]) (.inr a4)) (by decide)).symm, hbel⟩
          have h0 : shp v = 0 := shp0 (by rw [hfc]; simp [formC, *]) (by have := hEt hE1; omega) (by omega) (fun h => by omega); have hchk : chk (m + 1) v = firstBad (v.kids.map (chk m)) := by
            conv => lhs; unfold chk
            rw [if_pos h0]
          have hb1 : Below w1.heap.size w1 w1 := Below.refl _ _; refine K.kgl ?_; refine WC.loop (fun i : Nat => [(1, .int .i64 d), (2, .pointer (some ⟨g, 0, none⟩)), (8, .int .i64 i)]) (fun i w' => i ≤ v.kids.length ∧ Below w1.heap.size w1 w' ∧ ∀ j, j < i → chk m (v.kids.getD j noV) = 0) (fun i => v.kids.length - i) 0 ⟨rfl, rfl, rfl, trivial⟩ ⟨Nat.zero_le _, hb1, fun j hj => absurd hj (by omega)⟩ ?_; clear hb1 c0 c1 c2 c3 c4 c5; rintro i wr ⟨hi, hbr, hall⟩; have hgw : g < w1.heap.size := hR.lt; have c5 : wr.cell? ⟨g, 5, none⟩ = some (.slice sp v.kids.length cap) := (hR.below hbr hgw).cell 5 (by simp); have hbelr : Below w.heap.size w wr := hbel.trans (hbr.mono hbel.size)
          by_cases hik : i < v.kids.length
          · obtain ⟨kb, ko, rfl, hkb, hcells⟩ := hrow (by omega)
            obtain ⟨c, hc6, hci, hcr⟩ := hcells i hik; clear hrow hcells; have hcr' : wr.rangeAt kb (ko + i * 6) c := fun j u hu => by rw [hbelr.cell (p := ⟨kb, ko + i * 6 + j, none⟩) hkb]; exact hcr j u hu
            refine K.kgl ?_; refine WL.idx i (ko + i * 6) rfl rfl rfl rfl rfl rfl rfl rfl hik rfl ?_; refine WL.loadMid rfl rfl rfl rfl rfl rfl hcr' hc6 ?_; refine K.kgo ?_; refine WL.call rfl rfl rfl rfl rfl Tryz.func114 rfl (by kernel_rfl) (ih (d + 1) (hci.below hbelr) hd) ?_; rintro e w4 ⟨rfl, hb4⟩; refine ⟨_, rfl, ?_⟩; have hb4' : Below w1.heap.size w1 w4 := hbr.trans (hb4.mono hbr.size)
            by_cases h0 : chk m (v.kids.getD i noV) = 0
            · refine K.kgo ?_
              refine WQ.again (i + 1) ⟨rfl, rfl, rfl, trivial⟩ ⟨hik, hb4', fun j hj => (Nat.lt_succ_iff_lt_or_eq.1 hj).elim (hall j) (fun e => by rw [e]; exact h0)⟩ (by show v.kids.length - (i + 1) < v.kids.length - i; omega)
            · have hfb : chk (m + 1) v = chk m (v.kids.getD i noV) := by
                rw [hchk, firstBad_take (i := i) (by rw [List.length_map]; exact hik) (fun j hj => by rw [chk_map m v.kids j (by omega)]; exact hall j hj) (by rw [chk_map m v.kids i hik]; exact h0), chk_map m v.kids i hik]
              refine K.kgo ?_; exact WQ.ret1 rfl rfl ⟨ret_i64 hfb.symm, hbel.trans (hb4'.mono hbel.size)⟩
          · obtain rfl : i = v.kids.length := by omega
            refine K.kgl ?_; refine WQ.ret1 rfl rfl ⟨ret_i64 ?_, hbelr⟩; rw [hchk]; exact (firstBad_all fun j hj => by rw [List.length_map] at hj; rw [chk_map m v.kids j hj]; exact hall j hj).symm
        · skip
          refine K.kgl ?_; exact WQ.ret1 rfl rfl (bad3 (by rw [hfc]; simp [formC, *]))
    · skip
      refine K.kgl ?_; exact WQ.ret1 rfl rfl (bad3 (by rw [hfc]; simp [formC, *]))
  · skip
    refine K.kgl ?_; exact WQ.ret1 rfl rfl (bad3 (by rw [hfc]; simp [formC, *]))

set_option maxRecDepth 100000 in
set_option maxHeartbeats 16000000 in
theorem rchk_k9 {f : Nat} {w : World} {v : V} {cs : List Value} {m : Nat} {d : Int} (ih : ∀ {w : World} {v : V} {cs : List Value} (d : Int), IsV f w v cs → d = 17 - (m : Int) → Calls Tryz.prog 114 #[.agg cs.toArray, .int .i64 d] w fun e w' => e = .returned (.int .i64 (chk m v)) ∧ Below w.heap.size w w') (hd : d + 1 = 17 - (m : Int)) (hv : IsV (f + 1) w v cs) (q : v.k = 9) (_hd1 : d ≤ 16) (_hd0 : 0 ≤ d) :
    Calls Tryz.prog 114 #[.agg cs.toArray, .int .i64 d] w fun e w' => e = .returned (.int .i64 (chk (m + 1) v)) ∧ Below w.heap.size w w' := by
  obtain ⟨sn, sk, rfl, -, hn64, -, htz, ⟨np, nc, rfl, nl, nc2, nsz, nr⟩, ⟨sp, cap, rfl, hcap1, hcap2, hrow⟩⟩ := hv; have hn : -9223372036854775808 ≤ v.n ∧ v.n ≤ 9223372036854775807 := by simp [Lit.wf, IntKind.min, IntKind.max, IntKind.bits, IntKind.signed] at hn64; omega
  clear hn64; refine enter (args := [.agg (six v (.slice np v.names.length nc) (.slice sp v.kids.length cap)).toArray, .int .i64 d]) Tryz.func114 rfl Tryz.ntmps114 rfl ?_; refine K.kgo ?_; refine WL.box rfl rfl rfl rfl rfl fun g w1 hf => ?_; have hR : VBlk 82 w1 g (six v (.slice np v.names.length nc) (.slice sp v.kids.length cap)) := hf.blk; have hbel : Below w.heap.size w w1 := hf.below; have c0 : w1.cell? ⟨g, 0, none⟩ = some (.int .i64 v.k) := hR.cell 0 (by simp); have c1 : w1.cell? ⟨g, 1, none⟩ = some (.int .i64 v.n) := hR.cell 1 (by simp); have c2 : w1.cell? ⟨g, 2, none⟩ = some (.int .i64 v.s) := hR.cell 2 (by simp); have c3 : w1.cell? ⟨g, 3, none⟩ = some (.string v.t) := hR.cell 3 (by simp); have c4 : w1.cell? ⟨g, 4, none⟩ = some (.slice np v.names.length nc) := hR.cell 4 (by simp); have c5 : w1.cell? ⟨g, 5, none⟩ = some (.slice sp v.kids.length cap) := hR.cell 5 (by simp); clear hf; have hfc := formB_eq v; have hB : bareB v = (decide (v.n = 0) && decide (v.s = 0)) := rfl; have hP : plainB v = (decide (v.names.length = 0) && decide (v.kids.length = 0)) := rfl; have hE := text_ne v; have bad3 : formB v = false → Ending.returned (.int .i64 3) = .returned (.int .i64 (chk (m + 1) v)) ∧ Below w.heap.size w w1 := fun h => ⟨ret_i64 (chk_bad (shp_form3 h) (by decide)).symm, hbel⟩; refine K.kgb ?_; refine WL.as 5 (.bool (!noTextB v)) rfl (congrArg Value.bool hE) ?_; refine WL.mid (fun _ : Unit => [(1, .int .i64 d), (2, .pointer (some ⟨g, 0, none⟩)), (5, .bool (!noTextB v)), (6, .bool (!plainB v))]) (fun _ w' => w1 = w') rfl ?_ ?_
  · by_cases hK : v.kids.length = 0
    · have hK0 : ¬ (0 : Int) < v.kids.length := by omega
      refine WL.as 19 (.bool false) rfl (congrArg Value.bool (decide_eq_false hK0)) ?_
      by_cases hN : v.names.length = 0
      · refine K.kgl ?_
        exact WQ.meet () ⟨rfl, rfl, rfl, congrArg (fun b => some (Value.bool b)) (by rw [hP]; simp [hN, hK]), trivial⟩ rfl
      · refine K.kgl ?_
        exact WQ.meet () ⟨rfl, rfl, rfl, congrArg (fun b => some (Value.bool b)) (by rw [hP]; simp [hN]), trivial⟩ rfl
    · have hK0 : (0 : Int) < v.kids.length := by omega
      refine WL.as 19 (.bool true) rfl (congrArg Value.bool (decide_eq_true hK0)) ?_; refine K.kgl ?_; exact WQ.meet () ⟨rfl, rfl, rfl, congrArg (fun b => some (Value.bool b)) (by rw [hP]; simp [hK]), trivial⟩ rfl
  rintro _ _ rfl; have shp5 : formB v = true → (16384 < v.t.size ∨ 200 < v.kids.length) → shp v = 5 := fun h1 h2 => by unfold shp; rw [if_neg (by rw [h1]; exact Bool.noConfusion), if_pos h2]
  have shp0 : formB v = true → v.t.size ≤ 16384 → v.kids.length ≤ 200 → (v.k = 9 → fieldsB v = true) → shp v = 0 := fun h1 h2 h3 h4 => by
    unfold shp; rw [if_neg (by rw [h1]; exact Bool.noConfusion), if_neg (by omega), if_neg (fun h => by have := h4 h.1; rw [this] at h; exact Bool.noConfusion h.2)]
  have hEt : noTextB v = true → v.t.size = 0 := fun h => of_decide_eq_true h; have hPk : plainB v = true → v.kids.length = 0 := fun h => by rw [hP] at h; rw [Bool.and_eq_true] at h; exact of_decide_eq_true h.2
  have chk0 : shp v = 0 → v.kids.length = 0 → chk (m + 1) v = 0 := fun h1 h2 => by
    unfold chk; rw [if_pos h1, List.eq_nil_of_length_eq_zero h2]
    rfl
  clear hE hP

  by_cases a1 : v.n = 0
  · skip
    by_cases a2 : v.s = 0
    · skip
      cases hE1 : noTextB v with
      | false =>
        rw [hE1] at hfc; refine K.kgl ?_; exact WQ.ret1 rfl rfl (bad3 (by rw [hfc]; simp [formC, *]))
      | true =>
        rw [hE1] at hfc; have hform : formB v = true := by rw [hfc]; simp [formC, *]
        by_cases a4 : 200 < v.kids.length
        · refine K.kgl ?_
          exact WQ.ret1 rfl rfl ⟨ret_i64 (chk_bad (shp5 hform (.inr a4)) (by decide)).symm, hbel⟩
        have hfi := fields_iff v; have shp3 : fieldsB v = false → shp v = 3 := fun h => by
          unfold shp; rw [if_neg (by rw [hform]; exact Bool.noConfusion), if_neg (by have := hEt hE1; omega), if_pos ⟨q, h⟩]
        by_cases a5 : v.names.length = v.kids.length
        · refine K.kgl ?_
          refine WC.loop (fun i : Nat => [(1, .int .i64 d), (2, .pointer (some ⟨g, 0, none⟩)), (7, .int .i64 i)]) (fun i w' => i ≤ v.names.length ∧ Below w1.heap.size w1 w' ∧ ∀ j, j < i → okN v.names j = true) (fun i => v.names.length - i) 0 ⟨rfl, rfl, rfl, trivial⟩ ⟨Nat.zero_le _, Below.refl _ _, fun j hj => absurd hj (by omega)⟩ ?_; rintro i wz ⟨hi, hbz, hall⟩; have hgw : g < w1.heap.size := hR.lt; have hRz : VBlk 82 wz g (six v (.slice np v.names.length nc) (.slice sp v.kids.length cap)) := hR.below hbz hgw; have hbelz : Below w.heap.size w wz := hbel.trans (hbz.mono hbel.size); have z4 : wz.cell? ⟨g, 4, none⟩ = some (.slice np v.names.length nc) := hRz.cell 4 (by simp)
          by_cases hin : i < v.names.length
          · obtain ⟨nb, no, rfl, hnb, hnr⟩ := nr (by omega)
            have hnc := hnr i hin; have hnp := hnr (i - 1) (by omega); have hnz := nsz i hin; clear hnr nr hrow nsz; have hok : okN v.names i = (isNameB (v.names.getD i noT) && (decide (i = 0) || Op.bytesLess (v.names.getD (i - 1) noT).toList (v.names.getD i noT).toList)) := rfl; have hleq := Vl.leq_not (v.names.getD i noT).toList (v.names.getD (i - 1) noT).toList; have hnm : isNameB (v.names.getD i noT) = (decide (1 ≤ (v.names.getD i noT).size) && decide ((v.names.getD i noT).size ≤ 40)) := rfl; have badn : okN v.names i = false → Ending.returned (.int .i64 3) = .returned (.int .i64 (chk (m + 1) v)) := fun h => ret_i64 (chk_bad (shp3 (by
              cases hf : fieldsB v with
              | false => rfl
              | true => have := (hfi.1 hf).1 i hin; rw [h] at this; cases this)) (by decide)).symm
            generalize v.names.getD i noT = nm at hnc hnz hok hleq hnm; generalize v.names.getD (i - 1) noT = pm at hnp hok hleq; refine K.kgl ?_; refine WC.drawn 33 (fun wx => Below w.heap.size w wx ∧ VBlk 82 wx g (six v (.slice (some ⟨nb, no, none⟩) v.names.length nc) (.slice sp v.kids.length cap))) fun w2 hd2 => ?_; have hS : Below w.heap.size w w2 ∧ VBlk 82 w2 g (six v (.slice (some ⟨nb, no, none⟩) v.names.length nc) (.slice sp v.kids.length cap)) := ⟨hbelz.trans (hd2.below _), hRz.below (hd2.below _) hRz.lt⟩; have hb2 : Below w1.heap.size w1 w2 := hbz.trans (hd2.below _)
            by_cases x1 : nm.size < 1
            · skip
              refine K.fr [0] hS ?_; refine K.wl 1 [3, 4, 5, 6, 7, 8, 9, 10, 11, 12, 13, 14, 15, 16, 17, 18, 19, 20, 21, 22, 23, 24, 25, 26, 27, 28, 29, 30, 31, 32, 33] rfl rfl rfl rfl rfl rfl rfl (fun wx hx => hx.2.cell 4 (by simp)) hS ?_; refine K.fr [2] hS ?_; refine K.wi 3 i (no + i) rfl rfl rfl rfl rfl rfl rfl rfl rfl (by omega) (by omega) (.inr hS) ?_; refine K.wl 4 [5, 6, 7, 8, 9, 10, 11, 12, 13, 14, 15, 16, 17, 18, 19, 20, 21, 22, 23, 24, 25, 26, 27, 28, 29, 30, 31, 32, 33] rfl rfl rfl rfl rfl rfl rfl (fun wx hx => (hx.1.cell (p := ⟨nb, no + i, none⟩) hnb).trans hnc) hS ?_; refine K.fr [5, 6, 7, 8] hS ?_; refine K.fr [9, 10, 11, 12, 13, 14, 15, 16] hS ?_; refine K.fr [17, 18, 19, 20] hS ?_; refine K.fr [21, 22, 23, 24, 25, 26, 27, 28, 29, 30, 31, 32] hS ?_; refine K.wo 33 ?_; refine WL.pure rfl rfl rfl rfl ?_; refine K.dl ?_; refine WD.done (by kernel_rfl) ?_; refine K.kgo ?_; exact WQ.ret1 rfl rfl ⟨badn (by rw [hok, hnm, decide_eq_false (by omega)]; rfl), hS.1⟩
            by_cases x2 : 40 < nm.size
            · skip
              refine K.fr [0] hS ?_; refine K.wl 1 [3, 4, 5, 6, 7, 8, 9, 10, 11, 12, 13, 14, 15, 16, 17, 18, 19, 20, 21, 22, 23, 24, 25, 26, 27, 28, 29, 30, 31, 32, 33] rfl rfl rfl rfl rfl rfl rfl (fun wx hx => hx.2.cell 4 (by simp)) hS ?_; refine K.fr [2] hS ?_; refine K.wi 3 i (no + i) rfl rfl rfl rfl rfl rfl rfl rfl rfl (by omega) (by omega) (.inr hS) ?_; refine K.wl 4 [5, 6, 7, 8, 9, 10, 11, 12, 13, 14, 15, 16, 17, 18, 19, 20, 21, 22, 23, 24, 25, 26, 27, 28, 29, 30, 31, 32, 33] rfl rfl rfl rfl rfl rfl rfl (fun wx hx => (hx.1.cell (p := ⟨nb, no + i, none⟩) hnb).trans hnc) hS ?_; refine K.fr [5, 6, 7, 8] hS ?_; refine K.wl 9 [11, 12, 13, 14, 15, 16, 17, 18, 19, 20, 21, 22, 23, 24, 25, 26, 27, 28, 29, 30, 31, 32, 33] rfl rfl rfl rfl rfl rfl rfl (fun wx hx => hx.2.cell 4 (by simp)) hS ?_; refine K.fr [10] hS ?_; refine K.wi 11 i (no + i) rfl rfl rfl rfl rfl rfl rfl rfl rfl (by omega) (by omega) (.inr hS) ?_; refine K.wl 12 [13, 14, 15, 16, 17, 18, 19, 20, 21, 22, 23, 24, 25, 26, 27, 28, 29, 30, 31, 32, 33] rfl rfl rfl rfl rfl rfl rfl (fun wx hx => (hx.1.cell (p := ⟨nb, no + i, none⟩) hnb).trans hnc) hS ?_; refine K.fr [13, 14, 15, 16] hS ?_; refine K.fr [17, 18, 19, 20] hS ?_; refine K.fr [21, 22, 23, 24, 25, 26, 27, 28, 29, 30, 31, 32] hS ?_; refine K.wo 33 ?_; refine WL.pure rfl rfl rfl rfl ?_; refine K.dl ?_; refine WD.done (by kernel_rfl) ?_; refine K.kgo ?_; exact WQ.ret1 rfl rfl ⟨badn (by rw [hok, hnm, decide_eq_false (show ¬ nm.size ≤ 40 by omega), Bool.and_false]; rfl), hS.1⟩
            have hnm1 : isNameB nm = true := by rw [hnm, decide_eq_true (by omega), decide_eq_true (by omega)]; rfl
            by_cases x3 : i = 0
            · skip
              refine K.fr [0] hS ?_; refine K.wl 1 [3, 4, 5, 6, 7, 8, 9, 10, 11, 12, 13, 14, 15, 16, 17, 18, 19, 20, 21, 22, 23, 24, 25, 26, 27, 28, 29, 30, 31, 32, 33] rfl rfl rfl rfl rfl rfl rfl (fun wx hx => hx.2.cell 4 (by simp)) hS ?_; refine K.fr [2] hS ?_; refine K.wi 3 i (no + i) rfl rfl rfl rfl rfl rfl rfl rfl rfl (by omega) (by omega) (.inr hS) ?_; refine K.wl 4 [5, 6, 7, 8, 9, 10, 11, 12, 13, 14, 15, 16, 17, 18, 19, 20, 21, 22, 23, 24, 25, 26, 27, 28, 29, 30, 31, 32, 33] rfl rfl rfl rfl rfl rfl rfl (fun wx hx => (hx.1.cell (p := ⟨nb, no + i, none⟩) hnb).trans hnc) hS ?_; refine K.fr [5, 6, 7, 8] hS ?_; refine K.wl 9 [11, 12, 13, 14, 15, 16, 17, 18, 19, 20, 21, 22, 23, 24, 25, 26, 27, 28, 29, 30, 31, 32, 33] rfl rfl rfl rfl rfl rfl rfl (fun wx hx => hx.2.cell 4 (by simp)) hS ?_; refine K.fr [10] hS ?_; refine K.wi 11 i (no + i) rfl rfl rfl rfl rfl rfl rfl rfl rfl (by omega) (by omega) (.inr hS) ?_; refine K.wl 12 [13, 14, 15, 16, 17, 18, 19, 20, 21, 22, 23, 24, 25, 26, 27, 28, 29, 30, 31, 32, 33] rfl rfl rfl rfl rfl rfl rfl (fun wx hx => (hx.1.cell (p := ⟨nb, no + i, none⟩) hnb).trans hnc) hS ?_; refine K.fr [13, 14, 15, 16] hS ?_; refine K.fr [17, 18, 19, 20] hS ?_; refine K.fr [21, 22, 23, 24, 25, 26, 27, 28, 29, 30, 31, 32] hS ?_; refine K.wo 33 ?_; refine WL.pure rfl rfl rfl rfl ?_; refine K.dl ?_; refine WD.done (by kernel_rfl) ?_; refine K.kgo ?_; refine WQ.again (i + 1) ⟨rfl, rfl, rfl, trivial⟩ ⟨hin, hb2, fun j hj => (Nat.lt_succ_iff_lt_or_eq.1 hj).elim (hall j) (fun e => by rw [e]; rw [hok, hnm1, x3]; rfl)⟩ (by show v.names.length - (i + 1) < v.names.length - i; omega)
            have hw : IntKind.i64.wrap ((i : Int) - 1) = ((i - 1 : Nat) : Int) := by rw [IntWalk.i64_in _ (by omega)]; omega
            cases hlt : Op.bytesLess pm.toList nm.toList with
            | true =>
              rw [hlt] at hleq hok; refine K.fr [0] hS ?_; refine K.wl 1 [3, 4, 5, 6, 7, 8, 9, 10, 11, 12, 13, 14, 15, 16, 17, 18, 19, 20, 21, 22, 23, 24, 25, 26, 27, 28, 29, 30, 31, 32, 33] rfl rfl rfl rfl rfl rfl rfl (fun wx hx => hx.2.cell 4 (by simp)) hS ?_; refine K.fr [2] hS ?_; refine K.wi 3 i (no + i) rfl rfl rfl rfl rfl rfl rfl rfl rfl (by omega) (by omega) (.inr hS) ?_; refine K.wl 4 [5, 6, 7, 8, 9, 10, 11, 12, 13, 14, 15, 16, 17, 18, 19, 20, 21, 22, 23, 24, 25, 26, 27, 28, 29, 30, 31, 32, 33] rfl rfl rfl rfl rfl rfl rfl (fun wx hx => (hx.1.cell (p := ⟨nb, no + i, none⟩) hnb).trans hnc) hS ?_; refine K.fr [5, 6, 7, 8] hS ?_; refine K.wl 9 [11, 12, 13, 14, 15, 16, 17, 18, 19, 20, 21, 22, 23, 24, 25, 26, 27, 28, 29, 30, 31, 32, 33] rfl rfl rfl rfl rfl rfl rfl (fun wx hx => hx.2.cell 4 (by simp)) hS ?_; refine K.fr [10] hS ?_; refine K.wi 11 i (no + i) rfl rfl rfl rfl rfl rfl rfl rfl rfl (by omega) (by omega) (.inr hS) ?_; refine K.wl 12 [13, 14, 15, 16, 17, 18, 19, 20, 21, 22, 23, 24, 25, 26, 27, 28, 29, 30, 31, 32, 33] rfl rfl rfl rfl rfl rfl rfl (fun wx hx => (hx.1.cell (p := ⟨nb, no + i, none⟩) hnb).trans hnc) hS ?_; refine K.fr [13, 14, 15, 16] hS ?_; refine K.fr [17, 18, 19, 20] hS ?_; refine K.wl 21 [23, 24, 31, 32, 33] rfl rfl rfl rfl rfl rfl rfl (fun wx hx => hx.2.cell 4 (by simp)) hS ?_; refine K.fr [22] hS ?_; refine K.wi 23 i (no + i) rfl rfl rfl rfl rfl rfl rfl rfl rfl (by omega) (by omega) (.inr hS) ?_; refine K.wl 24 [31, 32, 33] rfl rfl rfl rfl rfl rfl rfl (fun wx hx => (hx.1.cell (p := ⟨nb, no + i, none⟩) hnb).trans hnc) hS ?_; refine K.fr [25] hS ?_; refine K.wl 26 [29, 30, 31, 32, 33] rfl rfl rfl rfl rfl rfl rfl (fun wx hx => hx.2.cell 4 (by simp)) hS ?_; refine K.fr [27, 28] hS ?_; refine K.wi 29 (i - 1) (no + (i - 1)) rfl rfl rfl rfl rfl rfl rfl rfl (by omega) (by omega) (by omega) (.inr hS) ?_; refine K.wl 30 [31, 32, 33] rfl rfl rfl rfl rfl rfl rfl (fun wx hx => (hx.1.cell (p := ⟨nb, no + (i - 1), none⟩) hnb).trans hnp) hS ?_; refine K.fr [31, 32] hS ?_; refine K.wo 33 ?_; refine WL.pure rfl rfl rfl rfl ?_; refine K.dl ?_; refine WD.done (by kernel_rfl) ?_; refine K.kgn ?_; refine WC.as 215 (.bool false) rfl (congrArg Value.bool hleq) ?_; refine K.kgo ?_; refine WQ.again (i + 1) ⟨rfl, rfl, rfl, trivial⟩ ⟨hin, hb2, fun j hj => (Nat.lt_succ_iff_lt_or_eq.1 hj).elim (hall j) (fun e => by rw [e]; rw [hok, hnm1]; simp)⟩ (by show v.names.length - (i + 1) < v.names.length - i; omega)
            | false =>
              rw [hlt] at hleq hok; refine K.fr [0] hS ?_; refine K.wl 1 [3, 4, 5, 6, 7, 8, 9, 10, 11, 12, 13, 14, 15, 16, 17, 18, 19, 20, 21, 22, 23, 24, 25, 26, 27, 28, 29, 30, 31, 32, 33] rfl rfl rfl rfl rfl rfl rfl (fun wx hx => hx.2.cell 4 (by simp)) hS ?_; refine K.fr [2] hS ?_; refine K.wi 3 i (no + i) rfl rfl rfl rfl rfl rfl rfl rfl rfl (by omega) (by omega) (.inr hS) ?_; refine K.wl 4 [5, 6, 7, 8, 9, 10, 11, 12, 13, 14, 15, 16, 17, 18, 19, 20, 21, 22, 23, 24, 25, 26, 27, 28, 29, 30, 31, 32, 33] rfl rfl rfl rfl rfl rfl rfl (fun wx hx => (hx.1.cell (p := ⟨nb, no + i, none⟩) hnb).trans hnc) hS ?_; refine K.fr [5, 6, 7, 8] hS ?_; refine K.wl 9 [11, 12, 13, 14, 15, 16, 17, 18, 19, 20, 21, 22, 23, 24, 25, 26, 27, 28, 29, 30, 31, 32, 33] rfl rfl rfl rfl rfl rfl rfl (fun wx hx => hx.2.cell 4 (by simp)) hS ?_; refine K.fr [10] hS ?_; refine K.wi 11 i (no + i) rfl rfl rfl rfl rfl rfl rfl rfl rfl (by omega) (by omega) (.inr hS) ?_; refine K.wl 12 [13, 14, 15, 16, 17, 18, 19, 20, 21, 22, 23, 24, 25, 26, 27, 28, 29, 30, 31, 32, 33] rfl rfl rfl rfl rfl rfl rfl (fun wx hx => (hx.1.cell (p := ⟨nb, no + i, none⟩) hnb).trans hnc) hS ?_; refine K.fr [13, 14, 15, 16] hS ?_; refine K.fr [17, 18, 19, 20] hS ?_; refine K.wl 21 [23, 24, 31, 32, 33] rfl rfl rfl rfl rfl rfl rfl (fun wx hx => hx.2.cell 4 (by simp)) hS ?_; refine K.fr [22] hS ?_; refine K.wi 23 i (no + i) rfl rfl rfl rfl rfl rfl rfl rfl rfl (by omega) (by omega) (.inr hS) ?_; refine K.wl 24 [31, 32, 33] rfl rfl rfl rfl rfl rfl rfl (fun wx hx => (hx.1.cell (p := ⟨nb, no + i, none⟩) hnb).trans hnc) hS ?_; refine K.fr [25] hS ?_; refine K.wl 26 [29, 30, 31, 32, 33] rfl rfl rfl rfl rfl rfl rfl (fun wx hx => hx.2.cell 4 (by simp)) hS ?_; refine K.fr [27, 28] hS ?_; refine K.wi 29 (i - 1) (no + (i - 1)) rfl rfl rfl rfl rfl rfl rfl rfl (by omega) (by omega) (by omega) (.inr hS) ?_; refine K.wl 30 [31, 32, 33] rfl rfl rfl rfl rfl rfl rfl (fun wx hx => (hx.1.cell (p := ⟨nb, no + (i - 1), none⟩) hnb).trans hnp) hS ?_; refine K.fr [31, 32] hS ?_; refine K.wo 33 ?_; refine WL.pure rfl rfl rfl rfl ?_; refine K.dl ?_; refine WD.done (by kernel_rfl) ?_; refine K.kgn ?_; refine WC.as 215 (.bool true) rfl (congrArg Value.bool hleq) ?_; refine K.kgo ?_; exact WQ.ret1 rfl rfl ⟨badn (by rw [hok, hnm1, decide_eq_false x3]; rfl), hS.1⟩
          · obtain rfl : i = v.names.length := by omega
            have hff : fieldsB v = true := hfi.2 ⟨hall, a5⟩; have h0 : shp v = 0 := shp0 hform (by have := hEt hE1; omega) (by omega) (fun _ => hff); have hchk : chk (m + 1) v = firstBad (v.kids.map (chk m)) := by
              conv => lhs; unfold chk
              rw [if_pos h0]
            clear hfi hall nr nsz; refine K.kgl ?_; have hb1 := hbz; refine WC.loop (fun i : Nat => [(1, .int .i64 d), (2, .pointer (some ⟨g, 0, none⟩)), (8, .int .i64 i)]) (fun i w' => i ≤ v.kids.length ∧ Below w1.heap.size w1 w' ∧ ∀ j, j < i → chk m (v.kids.getD j noV) = 0) (fun i => v.kids.length - i) 0 ⟨rfl, rfl, rfl, trivial⟩ ⟨Nat.zero_le _, hb1, fun j hj => absurd hj (by omega)⟩ ?_; clear hb1 c0 c1 c2 c3 c4 c5; rintro i wr ⟨hi, hbr, hall⟩; have hgw : g < w1.heap.size := hR.lt; have c5 : wr.cell? ⟨g, 5, none⟩ = some (.slice sp v.kids.length cap) := (hR.below hbr hgw).cell 5 (by simp); have hbelr : Below w.heap.size w wr := hbel.trans (hbr.mono hbel.size)
            by_cases hik : i < v.kids.length
            · obtain ⟨kb, ko, rfl, hkb, hcells⟩ := hrow (by omega)
              obtain ⟨c, hc6, hci, hcr⟩ := hcells i hik; clear hrow hcells; have hcr' : wr.rangeAt kb (ko + i * 6) c := fun j u hu => by rw [hbelr.cell (p := ⟨kb, ko + i * 6 + j, none⟩) hkb]; exact hcr j u hu
              refine K.kgl ?_; refine WL.idx i (ko + i * 6) rfl rfl rfl rfl rfl rfl rfl rfl hik rfl ?_; refine WL.loadMid rfl rfl rfl rfl rfl rfl hcr' hc6 ?_; refine K.kgo ?_; refine WL.call rfl rfl rfl rfl rfl Tryz.func114 rfl (by kernel_rfl) (ih (d + 1) (hci.below hbelr) hd) ?_; rintro e w4 ⟨rfl, hb4⟩; refine ⟨_, rfl, ?_⟩; have hb4' : Below w1.heap.size w1 w4 := hbr.trans (hb4.mono hbr.size)
              by_cases h0 : chk m (v.kids.getD i noV) = 0
              · refine K.kgo ?_
                refine WQ.again (i + 1) ⟨rfl, rfl, rfl, trivial⟩ ⟨hik, hb4', fun j hj => (Nat.lt_succ_iff_lt_or_eq.1 hj).elim (hall j) (fun e => by rw [e]; exact h0)⟩ (by show v.kids.length - (i + 1) < v.kids.length - i; omega)
              · have hfb : chk (m + 1) v = chk m (v.kids.getD i noV) := by
                  rw [hchk, firstBad_take (i := i) (by rw [List.length_map]; exact hik) (fun j hj => by rw [chk_map m v.kids j (by omega)]; exact hall j hj) (by rw [chk_map m v.kids i hik]; exact h0), chk_map m v.kids i hik]
                refine K.kgo ?_; exact WQ.ret1 rfl rfl ⟨ret_i64 hfb.symm, hbel.trans (hb4'.mono hbel.size)⟩
            · obtain rfl : i = v.kids.length := by omega
              refine K.kgl ?_; refine WQ.ret1 rfl rfl ⟨ret_i64 ?_, hbelr⟩; rw [hchk]; exact (firstBad_all fun j hj => by rw [List.length_map] at hj; rw [chk_map m v.kids j hj]; exact hall j hj).symm
        · have hff : fieldsB v = false := by cases h : fieldsB v with | false => rfl | true => exact (a5 (hfi.1 h).2).elim
          refine K.kgl ?_; exact WQ.ret1 rfl rfl ⟨ret_i64 (chk_bad (shp3 hff) (by decide)).symm, hbel⟩
    · skip
      refine K.kgl ?_; exact WQ.ret1 rfl rfl (bad3 (by rw [hfc]; simp [formC, *]))
  · skip
    refine K.kgl ?_; exact WQ.ret1 rfl rfl (bad3 (by rw [hfc]; simp [formC, *]))

theorem rcheck_any : ∀ {f : Nat} {w : World} {v : V} {cs : List Value} (m : Nat) (d : Int), IsV f w v cs → m ≤ 16 → d = 17 - (m : Int) →
    Calls Tryz.prog 114 #[.agg cs.toArray, .int .i64 d] w fun e w' => e = .returned (.int .i64 (chk m v)) ∧ Below w.heap.size w w'
  | 0, _, _, _, _, _, h, _, _ => h.elim
  | f + 1, w, v, cs, 0, d, hv, _, hd => by
    refine enter (args := [.agg cs.toArray, .int .i64 d]) Tryz.func114 rfl Tryz.ntmps114 rfl ?_; have hd1 : 16 < d := by omega
    refine K.kgo ?_; refine WL.box rfl rfl rfl rfl rfl fun g w1 hf => ?_; refine K.kgo ?_; exact WQ.ret1 rfl rfl ⟨rfl, hf.below⟩
  | f + 1, w, v, cs, m + 1, d, hv, hm, hd => by
    have ih := fun {w : World} {v : V} {cs : List Value} (d : Int) (h1 : IsV f w v cs) (h2 : d = 17 - (m : Int)) => @rcheck_any f w v cs m d h1 (by omega) h2; have hd1 : d ≤ 16 := by omega
    have hd0 : 0 ≤ d := by omega
    by_cases q1 : v.k = 1
    · exact rchk_k1 hv q1 hd1 hd0
    by_cases q2 : v.k = 2
    · exact rchk_k2 hv q2 hd1 hd0
    by_cases q3 : v.k = 3
    · exact rchk_k3 hv q3 hd1 hd0
    by_cases q4 : v.k = 4
    · exact rchk_k4 hv q4 hd1 hd0
    by_cases q5 : v.k = 5
    · exact rchk_k5 hv q5 hd1 hd0
    by_cases q67 : v.k = 6 ∨ v.k = 7
    · exact rchk_k67 hv q67 hd1 hd0
    by_cases q8 : v.k = 8
    · exact rchk_k8 ih (by omega) hv q8 hd1 hd0
    by_cases q9 : v.k = 9
    · exact rchk_k9 ih (by omega) hv q9 hd1 hd0
    exact rchk_kx hv (by omega) hd1 hd0
theorem rCheck_any {f : Nat} {w : World} {v : V} {cs : List Value} (h : IsV f w v cs) :
    Calls Tryz.prog 83 #[.agg cs.toArray] w fun e w' => e = .returned (.int .i64 (chk 16 v)) ∧ Below w.heap.size w w' := by
  refine enter (args := [.agg cs.toArray]) Tryz.func83 rfl Tryz.ntmps83 rfl ?_; refine K.kgo ?_; refine WL.box rfl rfl rfl rfl rfl fun g w1 hf => ?_; have hf' : Fresh w g w1 82 cs := hf; refine K.kgo ?_; refine WL.loadMid rfl rfl rfl rfl rfl rfl (VBlk.rangeAt hf'.blk) h.len ?_; refine WL.call rfl rfl rfl rfl rfl Tryz.func114 rfl (by kernel_rfl) (rcheck_any 16 1 (h.below hf'.below) (by omega) (by omega)) ?_; rintro e w2 ⟨rfl, hb2⟩; refine ⟨_, rfl, ?_⟩; refine K.kgo ?_; exact WQ.ret1 rfl rfl ⟨rfl, hf'.below.trans (hb2.mono hf'.below.size)⟩
end K
end Go.Proofs.YtpfkcfaifleliaaGreat

namespace Go.Proofs.YtpfkcfaifleliaaGreat
open Go.RowKit
namespace K
set_option maxHeartbeats 1000000 in
theorem rreadU_any {w : World} {v : Value} {l : List Int} (hs : Sl .u8 w v l) (hb : Byt l) :
    Calls Tryz.prog 94 #[v] w fun e w' => e = .returned (.tuple (ruV l).toArray) ∧ w' = w := by
  refine enter (args := [v]) Tryz.func94 rfl Tryz.ntmps94 rfl ?_; have hs0 := hs; obtain ⟨sp, cap, rfl, hc1, hc2, -, -⟩ := hs; refine K.kgo ?_; refine WC.loop (fun i : Nat × Int => [(0, .slice sp l.length cap), (5, .int .u64 i.2), (6, .int .i64 i.1)])
    (fun i w' => w' = w ∧ ((i.1 ≤ 9 ∧ i.1 ≤ l.length ∧ ∃ a : Nat, i.2 = (a : Int) ∧ a < 128 ^ i.1 ∧ rdU l = (rdUF (10 - i.1) (decide (0 < i.1)) (l.drop i.1)).bind fun v r => .ok (a + 128 ^ i.1 * v) r) ∨ (i.1 = 10 ∧ rdU l = .bad 3))) (fun i => 10 - i.1) (0, 0) ⟨rfl, rfl, rfl, trivial⟩
    ⟨rfl, .inl ⟨by omega, by omega, 0, rfl, by simp, by
      show rdUF 10 false l = _
      cases h : rdUF 10 false l with
      | ok a r => simp [Rd.bind, h]
      | bad e => simp [Rd.bind, h]⟩⟩ ?_
  rintro ⟨i, vz⟩ wr ⟨rfl, hW⟩; simp only at hW ⊢; rcases hW with ⟨hi9, hil, a, rfl, ha, hR⟩ | ⟨rfl, hR⟩
  case inr =>
    have hfin : ruV l = [.int .u64 0, .int .i64 0, .int .i64 3] := by unfold ruV; rw [hR]
    refine K.kgo ?_; refine WQ.ret3 rfl rfl rfl rfl ⟨by rw [hfin], rfl⟩
  by_cases hik : i < l.length
  · have hdr : l.drop i = nth l i :: l.drop (i + 1) := by rw [List.drop_eq_getElem_cons hik]; simp [nth, hik]
    have hc := hb (nth l i) (by unfold nth; simp [hik]); rw [hdr] at hR; generalize hcc : nth l i = c at hR hc; rw [show 10 - i = (9 - i) + 1 by omega] at hR; unfold rdUF at hR
    by_cases hbad : (9 - i = 0 ∧ 1 < c) ∨ (decide (0 < i) = true ∧ c = 0)
    · rw [if_pos hbad] at hR
      have hfin : ruV l = [.int .u64 0, .int .i64 0, .int .i64 3] := by unfold ruV; rw [hR]; rfl
      by_cases h1 : i = 9
      · subst h1
        by_cases h2 : 127 < c
        · refine K.kgo ?_
          refine WL.idxI 9 rfl rfl rfl rfl rfl rfl hs0 rfl rfl hik fun p hp => ?_; rw [hcc] at hp; refine K.kgl ?_; refine WL.idxI 9 rfl rfl rfl rfl rfl rfl hs0 rfl rfl hik fun p hp => ?_; rw [hcc] at hp; refine K.kgl ?_; refine WQ.again (10, _) ⟨rfl, rfl, rfl, trivial⟩ ⟨rfl, .inr ⟨rfl, hR⟩⟩ (by show 10 - 10 < 10 - 9; omega)
        · by_cases h3 : 1 < c
          · refine K.kgo ?_
            refine WL.idxI 9 rfl rfl rfl rfl rfl rfl hs0 rfl rfl hik fun p hp => ?_; rw [hcc] at hp; refine K.kgl ?_; refine WL.idxI 9 rfl rfl rfl rfl rfl rfl hs0 rfl rfl hik fun p hp => ?_; rw [hcc] at hp; refine K.kgl ?_; refine WL.idxI 9 rfl rfl rfl rfl rfl rfl hs0 rfl rfl hik fun p hp => ?_; rw [hcc] at hp; refine K.kgl ?_; refine WQ.ret3 rfl rfl rfl rfl ⟨by rw [hfin], rfl⟩
          · have hc0 : c = 0 := by simp at hbad; omega
            refine K.kgo ?_; refine WL.idxI 9 rfl rfl rfl rfl rfl rfl hs0 rfl rfl hik fun p hp => ?_; rw [hcc] at hp; refine K.kgl ?_; refine WL.idxI 9 rfl rfl rfl rfl rfl rfl hs0 rfl rfl hik fun p hp => ?_; rw [hcc] at hp; refine K.kgl ?_; refine WL.idxI 9 rfl rfl rfl rfl rfl rfl hs0 rfl rfl hik fun p hp => ?_; rw [hcc] at hp; refine K.kgl ?_; refine WL.idxI 9 rfl rfl rfl rfl rfl rfl hs0 rfl rfl hik fun p hp => ?_; rw [hcc] at hp; refine K.kgl ?_; refine WQ.ret3 rfl rfl rfl rfl ⟨by rw [hfin], rfl⟩
      · have hc0 : c = 0 := by simp at hbad; omega
        have hi0 : 0 < i := by simp at hbad; omega
        refine K.kgo ?_; refine WL.idxI i rfl rfl rfl rfl rfl rfl hs0 rfl rfl hik fun p hp => ?_; rw [hcc] at hp; refine K.kgl ?_; refine WL.idxI i rfl rfl rfl rfl rfl rfl hs0 rfl rfl hik fun p hp => ?_; rw [hcc] at hp; refine K.kgl ?_; refine WL.idxI i rfl rfl rfl rfl rfl rfl hs0 rfl rfl hik fun p hp => ?_; rw [hcc] at hp; refine K.kgl ?_; refine WQ.ret3 rfl rfl rfl rfl ⟨by rw [hfin], rfl⟩
    · rw [if_neg hbad] at hR
      simp only [decide_eq_true_eq, not_or, not_and] at hbad; have e1 : bits .and .u8 c 127 = ((c.toNat % 128 : Nat) : Int) := by
        have := and127b c.toNat (by omega)
        rwa [Int.toNat_of_nonneg hc.1] at this
      have hle : 128 ^ i ≤ 128 ^ 9 := Nat.pow_le_pow_right (by decide) hi9; have hcm : c.toNat % 128 * 128 ^ i < 18446744073709551616 := by
        by_cases h9 : i = 9
        · subst h9
          have : c ≤ 1 := by have := hbad.1 (by omega); omega
          have : c.toNat % 128 ≤ 1 := by omega
          generalize c.toNat % 128 = q at this; omega
        · have : 128 ^ i ≤ 128 ^ 8 := Nat.pow_le_pow_right (by decide) (by omega)
          have h2 : c.toNat % 128 < 128 := Nat.mod_lt _ (by decide); generalize c.toNat % 128 = q at h2; generalize 128 ^ i = r at this; have := Nat.mul_le_mul (Nat.le_of_lt h2) this; omega
      have e2 : IntKind.u64.wrap (((c.toNat % 128 : Nat) : Int) * ((2 ^ min (7 * i) IntKind.u64.bits : Nat) : Int)) = ((c.toNat % 128 * 128 ^ i : Nat) : Int) := by
        rw [show min (7 * i) IntKind.u64.bits = 7 * i from Nat.min_eq_left (by show 7 * i ≤ 64; omega), Nat.pow_mul, ← Int.natCast_mul, IntKind.wrap_u64]; generalize c.toNat % 128 * 128 ^ i = q at hcm; omega
      have e3 := or_shl a (c.toNat % 128) i ha hcm (by omega); have e5 : IntKind.u64.wrap ((c.toNat % 128 : Nat) : Int) = ((c.toNat % 128 : Nat) : Int) := by rw [IntKind.wrap_u64]; omega
      have e6 : 7 * i % (2 ^ IntKind.u64.bits : Int).natAbs = 7 * i := by
        rw [show (2 ^ IntKind.u64.bits : Int).natAbs = 18446744073709551616 from rfl]; omega
      have E : bits .or .u64 (a : Int) (IntKind.u64.wrap (IntKind.u64.wrap (bits .and .u8 c 127) * ((2 ^ min (7 * i % (2 ^ IntKind.u64.bits : Int).natAbs) IntKind.u64.bits : Nat) : Int))) = ((a + 128 ^ i * (c.toNat % 128) : Nat) : Int) := by
        rw [e6, e1, e5, e2, e3]
      clear e1 e2 e3 e5 e6
      by_cases hc8 : c < 128
      · rw [if_pos hc8] at hR
        have hfin : ruV l = [.int .u64 ((a + 128 ^ i * (c.toNat % 128) : Nat) : Int), .int .i64 ((i : Int) + 1), .int .i64 0] := by
          unfold ruV; rw [hR]; simp only [Rd.bind, List.length_drop]; rw [show c.toNat % 128 = c.toNat by omega, show ((l.length - (l.length - (i + 1)) : Nat) : Int) = (i : Int) + 1 by omega]
        have hcase : (i = 9 ∧ ¬ c = 0 ∧ ¬ 1 < c) ∨ (0 < i ∧ ¬ i = 9 ∧ ¬ c = 0) ∨ i = 0 := by omega
        rcases hcase with ⟨h9, hc0, hc1⟩ | ⟨hi0, h9, hc0⟩ | h9
        · refine K.kgo ?_
          refine WL.idxI i rfl rfl rfl rfl rfl rfl hs0 rfl rfl hik fun p hp => ?_; rw [hcc] at hp; refine K.kgl ?_; refine WL.idxI i rfl rfl rfl rfl rfl rfl hs0 rfl rfl hik fun p hp => ?_; rw [hcc] at hp; refine K.kgl ?_; refine WL.idxI i rfl rfl rfl rfl rfl rfl hs0 rfl rfl hik fun p hp => ?_; rw [hcc] at hp; refine K.kgl ?_; refine WL.idxI i rfl rfl rfl rfl rfl rfl hs0 rfl rfl hik fun p hp => ?_; rw [hcc] at hp; refine K.kgl ?_; refine WQ.ret3 rfl rfl rfl rfl ⟨by rw [hfin, ← E], rfl⟩
        · refine K.kgo ?_
          refine WL.idxI i rfl rfl rfl rfl rfl rfl hs0 rfl rfl hik fun p hp => ?_; rw [hcc] at hp; refine K.kgl ?_; refine WL.idxI i rfl rfl rfl rfl rfl rfl hs0 rfl rfl hik fun p hp => ?_; rw [hcc] at hp; refine K.kgl ?_; refine WL.idxI i rfl rfl rfl rfl rfl rfl hs0 rfl rfl hik fun p hp => ?_; rw [hcc] at hp; refine K.kgl ?_; refine WQ.ret3 rfl rfl rfl rfl ⟨by rw [hfin, ← E], rfl⟩
        · refine K.kgo ?_
          refine WL.idxI i rfl rfl rfl rfl rfl rfl hs0 rfl rfl hik fun p hp => ?_; rw [hcc] at hp; refine K.kgl ?_; refine WL.idxI i rfl rfl rfl rfl rfl rfl hs0 rfl rfl hik fun p hp => ?_; rw [hcc] at hp; refine K.kgl ?_; refine WQ.ret3 rfl rfl rfl rfl ⟨by rw [hfin, ← E], rfl⟩
      · rw [if_neg hc8] at hR
        have h9 : ¬ i = 9 := fun h => by have := hbad.1 (by omega); omega
        have hc0 : ¬ c = 0 := by omega
        refine K.kgo ?_; refine WL.idxI i rfl rfl rfl rfl rfl rfl hs0 rfl rfl hik fun p hp => ?_; rw [hcc] at hp; refine K.kgl ?_; refine WL.idxI i rfl rfl rfl rfl rfl rfl hs0 rfl rfl hik fun p hp => ?_; rw [hcc] at hp; refine K.kgl ?_; refine WQ.again (i + 1, ((a + 128 ^ i * (c.toNat % 128) : Nat) : Int)) ⟨rfl, congrArg (fun z => some (Value.int .u64 z)) E, rfl, trivial⟩ ⟨rfl, .inl ⟨by show i + 1 ≤ 9; omega, hik, _, rfl, ?_, ?_⟩⟩ (by show 10 - (i + 1) < 10 - i; omega)
        · show a + 128 ^ i * (c.toNat % 128) < 128 ^ (i + 1)
          have h2 : c.toNat % 128 < 128 := Nat.mod_lt _ (by decide); rw [Nat.pow_succ]; generalize c.toNat % 128 = q at h2; have := Nat.mul_le_mul_left (128 ^ i) (show q + 1 ≤ 128 by omega); rw [Nat.mul_add] at this; omega
        · show rdU l = (rdUF (10 - (i + 1)) (decide (0 < i + 1)) (l.drop (i + 1))).bind fun v r => .ok (a + 128 ^ i * (c.toNat % 128) + 128 ^ (i + 1) * v) r
          rw [hR, show 10 - (i + 1) = 9 - i by omega, show decide (0 < i + 1) = true from decide_eq_true (by omega)]; cases rdUF (9 - i) true (l.drop (i + 1)) with
          | bad e => rfl
          | ok v r =>
            simp only [Rd.bind]; rw [show c.toNat % 128 = c.toNat - 128 by omega, Nat.pow_succ, Nat.mul_add, Nat.mul_assoc (128 ^ i) 128 v, Nat.add_assoc]
  · obtain rfl : i = l.length := by omega
    rw [List.drop_length, show 10 - l.length = (9 - l.length) + 1 by omega] at hR; have hfin : ruV l = [.int .u64 0, .int .i64 0, .int .i64 2] := by unfold ruV; rw [hR]; rfl
    refine K.kgo ?_; refine WQ.ret3 rfl rfl rfl rfl ⟨by rw [hfin], rfl⟩
theorem rzag_any (u : Nat) (h : u < 18446744073709551616) (w : World) : Calls Tryz.prog 64 #[.int .u64 u] w fun e w' => e = .returned (.int .i64 (zag u)) ∧ w' = w := by
  refine enter (args := [.int .u64 u]) Tryz.func64 rfl Tryz.ntmps64 rfl ?_; have e1 : Int.tmod (u : Int) 2 = ((u % 2 : Nat) : Int) := by rw [Int.tmod_eq_emod_of_nonneg (by omega)]; omega
  have e2 : Int.tdiv (u : Int) 2 = ((u / 2 : Nat) : Int) := by rw [Int.tdiv_eq_ediv_of_nonneg (by omega)]; omega
  have e3 : IntKind.u64.wrap (Int.tmod (u : Int) 2) = ((u % 2 : Nat) : Int) := by rw [e1, IntKind.wrap_u64]; omega
  have e4 : IntKind.i64.wrap (IntKind.u64.wrap (Int.tdiv (u : Int) 2)) = ((u / 2 : Nat) : Int) := by rw [e2, IntKind.wrap_u64, IntKind.wrap_i64]; omega
  have e5 : IntKind.i64.wrap (-((u / 2 : Nat) : Int)) = -((u / 2 : Nat) : Int) := by rw [IntKind.wrap_i64]; omega
  have e6 : IntKind.i64.wrap (-((u / 2 : Nat) : Int) - 1) = -((u / 2 : Nat) : Int) - 1 := by rw [IntKind.wrap_i64]; omega
  unfold zag
  by_cases hu : u % 2 = 0
  · rw [if_pos hu]
    refine K.kgo ?_; exact WQ.ret1 rfl rfl ⟨congrArg (fun z => Ending.returned (Value.int .i64 z)) e4, rfl⟩
  · rw [if_neg hu]
    refine K.kgo ?_; exact WQ.ret1 rfl rfl ⟨congrArg (fun z => Ending.returned (Value.int .i64 z)) (by rw [e4]; omega), rfl⟩
end K
end Go.Proofs.YtpfkcfaifleliaaGreat

namespace Go.Proofs.YtpfkcfaifleliaaGreat
open Go.RowKit
namespace K
structure RS7 (B : Nat) (w : World) (rb : Nat) (l : List Int) (e : Int) : Prop where
  rlt : rb < B
  byt : Byt l
  ex : ∃ sp cap, VBlk 204 w rb [.slice sp l.length cap, .int .i64 e] ∧ SlB (fun b => b < B ∧ b ≠ rb) w (.slice sp l.length cap) l
theorem RS7.keep {B : Nat} {w w' : World} {rb : Nat} {l : List Int} {e : Int} (h : RS7 B w rb l e) {K : Nat → Prop} (hk : Keep K w w') (hK : ∀ b, b < B → K b) : RS7 B w' rb l e := by
  obtain ⟨sp, cap, h1, h2⟩ := h.ex; exact ⟨h.rlt, h.byt, sp, cap, h1.keep hk (hK _ h.rlt), h2.keep hk fun b hb => hK b hb.1⟩
theorem RS7.setE {B : Nat} {w : World} {rb : Nat} {l : List Int} {e : Int} (h : RS7 B w rb l e) (x : Int) : RS7 B (w.setCell ⟨rb, 1, none⟩ (.int .i64 x)) rb l x := by
  obtain ⟨sp, cap, h1, h2⟩ := h.ex; exact ⟨h.rlt, h.byt, sp, cap, h1.set 1 (.int .i64 x), h2.keep (K := fun b => b ≠ rb) ((Keep.refl _ w).setCell (fun hk => hk rfl) _) fun b hb => hb.2⟩
theorem RS7.setL {B : Nat} {w : World} {rb : Nat} {l l' : List Int} {e : Int} {v' : Value} (h : RS7 B w rb l e) (hb : Byt l') (hv : SlB (fun b => b < B ∧ b ≠ rb) w v' l') : RS7 B (w.setCell ⟨rb, 0, none⟩ v') rb l' e := by
  obtain ⟨sp, cap, h1, h2⟩ := h.ex; obtain ⟨sp', cap', rfl, -⟩ := hv.sl; exact ⟨h.rlt, hb, sp', cap', h1.set 0 (.slice sp' l'.length cap'), hv.keep (K := fun b => b ≠ rb) ((Keep.refl _ w).setCell (fun hk => hk rfl) _) fun b hb => hb.2⟩
variable {B rb : Nat} {w : World} {l : List Int} {e : Int}
theorem one7_any (h : RS7 B w rb l e) :
    Calls Tryz.prog 124 #[.pointer (some ⟨rb, 0, none⟩)] w fun r w' => ∃ c l' e', r = .returned (.int .u8 c) ∧ 0 ≤ c ∧ c ≤ 255 ∧ RS7 B w' rb l' e' ∧ KeepR rb w w' ∧ Out rdB l e c l' e' ∧ (e' = 0 ∨ c = 0) := by
  refine enter (args := [.pointer (some ⟨rb, 0, none⟩)]) Tryz.func124 rfl Tryz.ntmps124 rfl ?_; obtain ⟨sp, cap, h1, h2⟩ := h.ex; refine K.kgo ?_; refine WL.load rfl rfl rfl rfl rfl rfl (h1.cell 1 (by simp)) ?_
  by_cases he : e = 0
  · subst he
    cases l with
    | nil =>
      simp only [List.length_nil] at h1 h2; refine K.kgo ?_; refine WL.load rfl rfl rfl rfl rfl rfl (h1.cell 0 (by simp)) ?_; refine K.kgo ?_; refine WL.store rfl rfl rfl rfl rfl rfl (by kernel_rfl) (h1.cell 1 (by simp)) (h1.free 1) ?_; have hr := h.setE 2; have hk : KeepR rb w (w.setCell ⟨rb, 1, none⟩ (.int .i64 2)) := KeepR.set _ _ _ _; generalize w.setCell ⟨rb, 1, none⟩ (.int .i64 2) = w2 at hr hk ⊢; obtain ⟨sp2, cap2, h3, h4⟩ := hr.ex; refine K.kgo ?_; refine WL.load rfl rfl rfl rfl rfl rfl (h3.cell 1 (by simp)) ?_; refine K.kgo ?_; exact WQ.ret1 rfl rfl ⟨0, [], 2, rfl, by omega, by omega, hr, hk, ⟨Nat.le_refl _, fun h => absurd rfl h, fun _ => ⟨rfl, by omega⟩⟩, .inr rfl⟩
    | cons c r =>
      have hc := h.byt c (by simp); have hlen : ((c :: r).length : Int) = (r.length : Int) + 1 := by simp
      refine K.kgo ?_; refine WL.load rfl rfl rfl rfl rfl rfl (h1.cell 0 (by simp)) ?_; refine K.kgo ?_; refine WL.load rfl rfl rfl rfl rfl rfl (h1.cell 1 (by simp)) ?_; refine K.kgo ?_; refine WL.load rfl rfl rfl rfl rfl rfl (h1.cell 0 (by simp)) ?_; refine WL.idxI 0 rfl rfl rfl rfl rfl rfl h2.sl rfl rfl (by simp) fun p hp => ?_; refine WL.load rfl rfl rfl rfl rfl rfl hp ?_; refine K.kgo ?_; refine WL.load rfl rfl rfl rfl rfl rfl (h1.cell 0 (by simp)) ?_; refine WL.fromB (z := 1) rfl rfl rfl rfl rfl rfl rfl (by omega) (by omega) h2 fun v' hv' => ?_; have hv : v'.oneCell' = true := by obtain ⟨_, _, rfl, -⟩ := hv'.sl; rfl
      refine K.kgo ?_; refine WL.store rfl rfl rfl rfl rfl hv (by kernel_rfl) (h1.cell 0 (by simp)) (h1.free 0) ?_; refine K.kgo ?_; exact WQ.ret1 rfl rfl ⟨c, r, 0, rfl, hc.1, hc.2, h.setL h.byt.tail hv', KeepR.set _ _ _ _, ⟨by simp, fun h => absurd rfl h, fun _ => ⟨rfl, rfl, rfl⟩⟩, .inl rfl⟩
  · refine K.kgo ?_
    refine WL.load rfl rfl rfl rfl rfl rfl (h1.cell 1 (by simp)) ?_; refine K.kgo ?_; exact WQ.ret1 rfl rfl ⟨0, l, e, rfl, by omega, by omega, h, KeepR.refl _ _, .ofBad he, .inr rfl⟩

theorem number7_any (h : RS7 B w rb l e) :
    Calls Tryz.prog 125 #[.pointer (some ⟨rb, 0, none⟩)] w fun r w' => ∃ (u : Nat) (l' : List Int) (e' : Int), r = .returned (.int .u64 u) ∧ u < 18446744073709551616 ∧ RS7 B w' rb l' e' ∧ KeepR rb w w' ∧ Out rdU l e u l' e' := by
  refine enter (args := [.pointer (some ⟨rb, 0, none⟩)]) Tryz.func125 rfl Tryz.ntmps125 rfl ?_; obtain ⟨sp, cap, h1, h2⟩ := h.ex; refine K.kgo ?_; refine WL.load rfl rfl rfl rfl rfl rfl (h1.cell 1 (by simp)) ?_
  by_cases he : e = 0
  · subst he
    refine K.kgo ?_; refine WL.load rfl rfl rfl rfl rfl rfl (h1.cell 0 (by simp)) ?_; refine WL.call rfl rfl rfl rfl rfl Tryz.func94 rfl (by kernel_rfl) (rreadU_any h2.sl h.byt) ?_; rintro _ w ⟨rfl, rfl⟩; refine ⟨_, rfl, ?_⟩; unfold ruV; cases hr : rdU l with
    | bad x =>
      have hx := rdUF_bad 10 false l x hr; refine K.kgo ?_; refine WL.store rfl rfl rfl rfl rfl rfl (by kernel_rfl) (h1.cell 1 (by simp)) (h1.free 1) ?_; have hr2 := h.setE x; have hk : KeepR rb w (w.setCell ⟨rb, 1, none⟩ (.int .i64 x)) := KeepR.set _ _ _ _; refine K.kgo ?_; exact WQ.ret1 rfl rfl ⟨0, l, x, rfl, by omega, hr2, hk, Nat.le_refl _, fun h => absurd rfl h, fun _ => by rw [hr]; exact ⟨rfl, by omega⟩⟩
    | ok u r =>
      obtain ⟨hcan, hu⟩ := rdU_can h.byt hr; have hdrop : l.drop (((l.length - r.length : Nat) : Int).toNat) = r := by rw [hcan]; simp
      have hlr : r.length ≤ l.length := by rw [hcan]; simp
      refine K.kgo ?_; refine WL.load rfl rfl rfl rfl rfl rfl (h1.cell 0 (by simp)) ?_; refine K.kgo ?_; refine WL.fromB (z := ((l.length - r.length : Nat) : Int)) rfl rfl rfl rfl rfl rfl rfl (by omega) (by omega) h2 fun v' hv' => ?_; rw [hdrop] at hv'; have hv : v'.oneCell' = true := by obtain ⟨_, _, rfl, -⟩ := hv'.sl; rfl
      refine K.kgo ?_; refine WL.store rfl rfl rfl rfl rfl hv (by kernel_rfl) (h1.cell 0 (by simp)) (h1.free 0) ?_; refine K.kgo ?_; exact WQ.ret1 rfl rfl ⟨u, r, 0, rfl, hu, h.setL (by have := h.byt; rw [hcan] at this; exact this.right) hv', KeepR.set _ _ _ _, hlr, fun h => absurd rfl h, fun _ => by rw [hr]; exact ⟨rfl, rfl, rfl⟩⟩
  · refine K.kgo ?_
    exact WQ.ret1 rfl rfl ⟨0, l, e, rfl, by omega, h, KeepR.refl _ _, .ofBad he⟩

theorem count7_any (h : RS7 B w rb l e) :
    Calls Tryz.prog 127 #[.pointer (some ⟨rb, 0, none⟩)] w fun r w' => ∃ (u : Nat) (l' : List Int) (e' : Int), r = .returned (.int .i64 u) ∧ u ≤ 65536 ∧ RS7 B w' rb l' e' ∧ KeepR rb w w' ∧ Out rdC l e u l' e' := by
  refine enter (args := [.pointer (some ⟨rb, 0, none⟩)]) Tryz.func127 rfl Tryz.ntmps127 rfl ?_; refine K.kgo ?_; refine WL.call rfl rfl rfl rfl rfl Tryz.func125 rfl (by kernel_rfl) (number7_any h) ?_; rintro _ w2 ⟨u, l2, e2, rfl, hu, hr, hk, ho⟩; refine ⟨_, rfl, ?_⟩; obtain ⟨sp, cap, h1, -⟩ := hr.ex
  by_cases he : e2 = 0
  · subst he
    by_cases hbig : 65536 < u
    · have hr3 := hr.setE 3
      have hk3 : KeepR rb w2 (w2.setCell ⟨rb, 1, none⟩ (.int .i64 3)) := KeepR.set _ _ _ _; refine K.kgo ?_; refine WL.load rfl rfl rfl rfl rfl rfl (h1.cell 1 (by simp)) ?_; refine K.kgo ?_; refine WL.store rfl rfl rfl rfl rfl rfl (by kernel_rfl) (h1.cell 1 (by simp)) (h1.free 1) ?_; generalize w2.setCell ⟨rb, 1, none⟩ (.int .i64 3) = w3 at hr3 hk3 ⊢; obtain ⟨sp3, cap3, h3, -⟩ := hr3.ex; refine K.kgo ?_; refine WL.load rfl rfl rfl rfl rfl rfl (h3.cell 1 (by simp)) ?_; refine K.kgo ?_; refine WQ.ret1 rfl rfl ⟨0, l2, 3, rfl, by omega, hr3, hk.trans hk3, ho.len, fun h0 => absurd (ho.bad h0).symm h0, fun h0 => ?_⟩; have h5 := ho.ok h0; unfold rdC; cases hq : rdU l with
      | bad x => rw [hq] at h5; exact absurd h5.1.symm h5.2
      | ok x r =>
        rw [hq] at h5; obtain ⟨rfl, rfl, -⟩ := h5; simp only [Rd.bind]; rw [if_pos hbig]; exact ⟨rfl, by omega⟩
    · have e8 : IntKind.i64.wrap (u : Int) = (u : Int) := by rw [IntKind.wrap_i64]; omega
      refine K.kgo ?_; refine WL.load rfl rfl rfl rfl rfl rfl (h1.cell 1 (by simp)) ?_; refine K.kgo ?_; refine WL.load rfl rfl rfl rfl rfl rfl (h1.cell 1 (by simp)) ?_; refine K.kgo ?_; refine WQ.ret1 rfl rfl ⟨u, l2, 0, rfl, by omega, hr, hk, ho.len, ho.bad, fun h0 => ?_⟩; have h5 := ho.ok h0; unfold rdC; cases hq : rdU l with
      | bad x => rw [hq] at h5; exact h5
      | ok x r =>
        rw [hq] at h5; obtain ⟨rfl, rfl, -⟩ := h5; simp only [Rd.bind]; rw [if_neg hbig]; simp
  · refine K.kgo ?_
    refine WL.load rfl rfl rfl rfl rfl rfl (h1.cell 1 (by simp)) ?_; refine K.kgo ?_; refine WL.load rfl rfl rfl rfl rfl rfl (h1.cell 1 (by simp)) ?_; refine K.kgo ?_; refine WQ.ret1 rfl rfl ⟨0, l2, e2, rfl, by omega, hr, hk, ho.len, ho.bad, fun h0 => ?_⟩; have h5 := ho.ok h0; unfold rdC; cases hq : rdU l with
    | bad x => rw [hq] at h5; exact h5
    | ok x r => rw [hq] at h5; exact absurd h5.2.2 he
theorem text7_any (h : RS7 B w rb l e) :
    Calls Tryz.prog 126 #[.pointer (some ⟨rb, 0, none⟩)] w fun r w' => ∃ (s : ByteArray) (l' : List Int) (e' : Int), r = .returned (.string s) ∧ s.size ≤ 65536 ∧ RS7 B w' rb l' e' ∧ KeepR rb w w' ∧ Out rdT l e s l' e' := by
  refine enter (args := [.pointer (some ⟨rb, 0, none⟩)]) Tryz.func126 rfl Tryz.ntmps126 rfl ?_; refine K.kgo ?_; refine WL.call rfl rfl rfl rfl rfl Tryz.func127 rfl (by kernel_rfl) (count7_any h) ?_; rintro _ w2 ⟨u, l2, e2, rfl, hu, hr, hk, ho⟩; refine ⟨_, rfl, ?_⟩; obtain ⟨sp, cap, h1, h2⟩ := hr.ex; have hle := ho.len; refine K.kgo ?_; refine WL.load rfl rfl rfl rfl rfl rfl (h1.cell 1 (by simp)) ?_
  by_cases he : e2 = 0
  · subst he
    by_cases hshort : l2.length < u
    · refine K.kgo ?_
      refine WL.load rfl rfl rfl rfl rfl rfl (h1.cell 0 (by simp)) ?_; refine K.kgo ?_; refine WL.store rfl rfl rfl rfl rfl rfl (by kernel_rfl) (h1.cell 1 (by simp)) (h1.free 1) ?_; have hr3 := hr.setE 2; have hk3 : KeepR rb w2 (w2.setCell ⟨rb, 1, none⟩ (.int .i64 2)) := KeepR.set _ _ _ _; generalize w2.setCell ⟨rb, 1, none⟩ (.int .i64 2) = w3 at hr3 hk3 ⊢; obtain ⟨sp3, cap3, h3, h4⟩ := hr3.ex; refine K.kgo ?_; refine WL.load rfl rfl rfl rfl rfl rfl (h3.cell 1 (by simp)) ?_; refine K.kgo ?_; refine WQ.ret1 rfl rfl ⟨ByteArray.empty, l2, 2, rfl, by decide, hr3, hk.trans hk3, ho.len, fun h0 => absurd (ho.bad h0).symm h0, fun h0 => ?_⟩; have h5 := ho.ok h0; unfold rdT; cases hq : rdC l with
      | bad x => rw [hq] at h5; exact absurd h5.1.symm h5.2
      | ok x r =>
        rw [hq] at h5; obtain ⟨rfl, rfl, -⟩ := h5; simp only [Rd.bind]; rw [if_pos hshort]; exact ⟨rfl, by omega⟩
    · have htl : (l2.take ((u : Int).toNat)) = l2.take u := by simp
      have hdl : (l2.drop ((u : Int).toNat)) = l2.drop u := by simp
      refine K.kgo ?_; refine WL.load rfl rfl rfl rfl rfl rfl (h1.cell 0 (by simp)) ?_; refine K.kgo ?_; refine WL.load rfl rfl rfl rfl rfl rfl (h1.cell 1 (by simp)) ?_; refine K.kgo ?_; refine WL.load rfl rfl rfl rfl rfl rfl (h1.cell 0 (by simp)) ?_; refine K.kgo ?_; refine WL.upto (z := (u : Int)) rfl rfl rfl rfl rfl rfl rfl (by omega) (by omega) h2.sl fun v3 hv3 => ?_; rw [htl] at hv3; refine WL.strOf rfl rfl rfl rfl rfl rfl rfl rfl hv3 ?_; refine K.kgo ?_; refine WL.load rfl rfl rfl rfl rfl rfl (h1.cell 0 (by simp)) ?_; refine K.kgo ?_; refine WL.fromB (z := (u : Int)) rfl rfl rfl rfl rfl rfl rfl (by omega) (by omega) h2 fun v' hv' => ?_; rw [hdl] at hv'; have hv : v'.oneCell' = true := by obtain ⟨_, _, rfl, -⟩ := hv'.sl; rfl
      refine K.kgo ?_; refine WL.store rfl rfl rfl rfl rfl hv (by kernel_rfl) (h1.cell 0 (by simp)) (h1.free 0) ?_; refine K.kgo ?_; refine WQ.ret1 rfl rfl ⟨strOfNums (l2.take u), l2.drop u, 0, rfl, ?_, hr.setL (fun c hc => hr.byt c (List.mem_of_mem_drop hc)) hv', hk.trans (KeepR.set _ _ _ _), by rw [List.length_drop]; omega, fun h0 => absurd (ho.bad h0).symm h0, fun h0 => ?_⟩
      · rw [strOfNums_mk]
        show ((l2.take u).map _).toArray.size ≤ _
        simp
        omega
      · have h5 := ho.ok h0
        unfold rdT; cases hq : rdC l with
        | bad x => rw [hq] at h5; exact absurd h5.1.symm h5.2
        | ok x r =>
          rw [hq] at h5; obtain ⟨rfl, rfl, -⟩ := h5; simp only [Rd.bind]; rw [if_neg hshort, strOfNums_mk]; simp
  · refine K.kgo ?_
    refine WL.load rfl rfl rfl rfl rfl rfl (h1.cell 1 (by simp)) ?_; refine K.kgo ?_; refine WQ.ret1 rfl rfl ⟨ByteArray.empty, l2, e2, rfl, by decide, hr, hk, ho.len, ho.bad, fun h0 => ?_⟩; have h5 := ho.ok h0; unfold rdT; cases hq : rdC l with
    | bad x => rw [hq] at h5; exact h5
    | ok x r => rw [hq] at h5; exact absurd h5.2.2 he
end K
end Go.Proofs.YtpfkcfaifleliaaGreat

namespace Go.Proofs.YtpfkcfaifleliaaGreat
open Go.RowKit
namespace K
def ValPost7 (m B rb : Nat) (w : World) (l : List Int) (e : Int) (r : Ending) (w' : World) : Prop :=
  ∃ v cs l' e', r = .returned (.agg cs.toArray) ∧ IsVo (fun b => w.heap.size ≤ b) (m + 1) w' v cs ∧ RS7 B w' rb l' e' ∧ KeepR rb w w' ∧ Out (rdV m) l e v l' e'
abbrev zeroC : List Value := [.int .i64 0, .int .i64 0, .int .i64 0, .string ByteArray.empty, .slice none 0 0, .slice none 0 0]
theorem zero_isVo (O : Nat → Prop) (f : Nat) (w : World) : IsVo O (f + 1) w (.mk 0 0 0 noT [] []) zeroC := isVo_leaf (k := 0) (n := 0) (s := 0) (t := noT) (by omega) (by omega) (by omega) (by decide)
set_option maxHeartbeats 16000000 in
theorem value7_step (m : Nat) (ih : ∀ {B rb : Nat} {w : World} {l : List Int} {e : Int} (d : Int), d = 17 - (m : Int) → RS7 B w rb l e → B ≤ w.heap.size → Calls Tryz.prog 95 #[.pointer (some ⟨rb, 0, none⟩), .int .i64 d] w (ValPost7 m B rb w l e))
    {B rb : Nat} {w0 : World} {l : List Int} {e : Int} (d : Int) (hd : d = 17 - ((m + 1 : Nat) : Int)) (hm : m + 1 ≤ 16) (h : RS7 B w0 rb l e) (hB0 : B ≤ w0.heap.size) :
    Calls Tryz.prog 95 #[.pointer (some ⟨rb, 0, none⟩), .int .i64 d] w0 (ValPost7 (m + 1) B rb w0 l e) := by
  refine enter (args := [.pointer (some ⟨rb, 0, none⟩), .int .i64 d]) Tryz.func95 rfl Tryz.ntmps95 rfl ?_; refine K.kgo ?_; refine WL.alloc (z := .agg zeroC.toArray) rfl rfl rfl rfl (fun _ => by kernel_rfl) fun gb w1 hf => ?_; have hf' : Fresh w0 gb w1 82 zeroC := hf; clear hf; have hgbe := hf'.eq; have hrB := h.rlt; have h1 : RS7 B w1 rb l e := h.keep (Keep.of_below hf'.below) fun b hb => Nat.lt_of_lt_of_le hb hB0; have hk1 : KeepR rb w0 w1 := KeepR.below hf'.below; have hg1 := hf'.blk; have hsz1 := hf'.size; clear hf'; obtain ⟨sp1, cap1, hc1, -⟩ := h1.ex
  -- the end with nothing
  have hzero : ∀ {wx : World} {l' : List Int} {e' : Int}, RS7 B wx rb l' e' → KeepR rb w0 wx → VBlk 82 wx gb zeroC → Out (rdV (m + 1)) l e (.mk 0 0 0 noT [] []) l' e' → ValPost7 (m + 1) B rb w0 l e (.returned (.agg zeroC.toArray)) (wx.setRow gb zeroC.toArray) := fun {wx l' e'} hr hk _ ho =>
    ⟨.mk 0 0 0 noT [] [], zeroC, l', e', rfl, zero_isVo _ _ _, hr.keep (K := fun b => b ≠ gb) (Keep.setRow (Keep.refl _ wx) (fun hk => hk rfl) _) (fun b hb => by omega), Keep.setRow hk (fun hk => by have := hk.1; omega) _, ho⟩
  refine K.kgo ?_; refine WL.load rfl rfl rfl rfl rfl rfl (hc1.cell 1 (by simp)) ?_
  by_cases he0 : e = 0
  rotate_left
  · refine K.kgo ?_
    refine WL.build zeroC rfl rfl rfl rfl rfl (by kernel_rfl) ?_; refine WL.storeRow rfl rfl rfl rfl rfl rfl hg1 rfl rfl (zero_isVo (fun _ => True) 0 w1).one ?_; refine K.kgo ?_; exact WQ.retC rfl rfl rfl rfl (hg1.setRow zeroC) (hzero h1 hk1 hg1 (.ofBad he0))
  refine K.kgo ?_; refine WL.call rfl rfl rfl rfl rfl Tryz.func124 rfl (by kernel_rfl) (one7_any h1) ?_; rintro _ w ⟨c, l2, e2, rfl, hc0, hc1b, h2, hk2, ho2, -⟩; refine ⟨_, rfl, ?_⟩; have hg2 := hg1.keep hk2 ⟨hg1.lt, by omega⟩; have hkA : KeepR rb w0 w := hk1.trans hk2; have hszA := hkA.size; have hB : B ≤ w.heap.size := by omega
  have hgb2 := hg2.lt; clear hk1 hk2 h1 hg1 hc1; refine K.kgo ?_; refine WL.build [.int .i64 c, .int .i64 0, .int .i64 0, .string ByteArray.empty, .slice none 0 0, .slice none 0 0] rfl rfl rfl rfl rfl (by kernel_rfl) ?_; refine WL.alloc (z := .agg zeroC.toArray) rfl rfl rfl rfl (fun _ => by kernel_rfl) fun vb w2 hf => ?_; have hf' : Fresh w vb w2 82 zeroC := hf; clear hf; have hvbe := hf'.eq; have hsz2 := hf'.size; have hcv : IsVo (fun _ => True) 1 w2 (.mk c 0 0 noT [] []) [.int .i64 c, .int .i64 0, .int .i64 0, .string ByteArray.empty, .slice none 0 0, .slice none 0 0] := isVo_leaf (k := c) (n := 0) (s := 0) (t := noT) (by omega) (by omega) (by omega) (by decide); refine WL.storeRow rfl rfl rfl rfl rfl rfl hf'.blk rfl rfl hcv.one ?_; have hblk3 := hf'.blk.setRow [.int .i64 c, .int .i64 0, .int .i64 0, .string ByteArray.empty, .slice none 0 0, .slice none 0 0]; have hb3 : Below w.heap.size w (w2.setRow vb (List.toArray [.int .i64 c, .int .i64 0, .int .i64 0, .string ByteArray.empty, .slice none 0 0, .slice none 0 0])) := below_setRow hf'.below (by omega) _; generalize w2.setRow vb (List.toArray [.int .i64 c, .int .i64 0, .int .i64 0, .string ByteArray.empty, .slice none 0 0, .slice none 0 0]) = w3 at hblk3 hb3 ⊢; clear hf' hcv hsz2; have h3 := h2.keep (Keep.of_below hb3) fun b hb => Nat.lt_of_lt_of_le hb hB; have hk3 : KeepR rb w w3 := KeepR.below hb3; have hg3 := hg2.below hb3 hgb2; obtain ⟨sp3, cap3, hr3, -⟩ := h3.ex; refine K.kgo ?_; refine WL.load rfl rfl rfl rfl rfl rfl (hr3.cell 1 (by simp)) ?_
  by_cases he2 : e2 = 0
  rotate_left
  · refine K.kgo ?_
    refine WL.build zeroC rfl rfl rfl rfl rfl (by kernel_rfl) ?_; refine WL.storeRow rfl rfl rfl rfl rfl rfl hg3 rfl rfl (zero_isVo (fun _ => True) 0 w3).one ?_; refine K.kgo ?_; exact WQ.retC rfl rfl rfl rfl (hg3.setRow zeroC) (hzero h3 (hkA.trans hk3) hg3 (by rw [rdV_GV]; exact ho2.stop he2 (Nat.le_refl _)))
  -- the store into the box
  have stB : ∀ {wx : World} {i : Nat} (u : Value) {lx : List Int} {ex : Int}, RS7 B wx rb lx ex → KeepR rb w wx → RS7 B (wx.setCell ⟨vb, i, none⟩ u) rb lx ex ∧ KeepR rb w (wx.setCell ⟨vb, i, none⟩ u) := fun {wx i} u {lx ex} hr hk =>
    ⟨hr.keep (K := fun b => b ≠ vb) ((Keep.refl _ wx).setCell (fun hk => hk rfl) _) (fun b hb => by omega), Keep.setCell hk (fun hk => by have := hk.1; simp only at this; omega) _⟩
  clear hg3 h2 hb3; refine K.kgb ?_; refine WL.load rfl rfl rfl rfl rfl rfl (hblk3.cell 0 (by simp)) ?_; refine K.kgb ?_; refine WC.mid (fun _ : V × List Value × List Int × Int => [(4, .pointer (some ⟨gb, 0, none⟩)), (5, .pointer (some ⟨vb, 0, none⟩))])
    (fun i w' => VBlk 82 w' vb i.2.1 ∧ IsVo (fun b => w.heap.size ≤ b ∧ b ≠ vb) (m + 1 + 1) w' i.1 i.2.1 ∧ RS7 B w' rb i.2.2.1 i.2.2.2 ∧ KeepR rb w w' ∧ Out (rdV (m + 1)) l e i.1 i.2.2.1 i.2.2.2) rfl ?_ ?_
  rotate_left
  · rintro ⟨v, cs, l4, e4⟩ w4 ⟨hb4, hv4, hr4, hk4, ho4⟩
    simp only at hb4 hv4 hr4 hk4 ho4 ⊢; have hcs := hv4.len; have hg4 := hg2.keep hk4 ⟨hgb2, by omega⟩; refine K.kgo ?_; refine WL.loadMid rfl rfl rfl rfl rfl rfl (VBlk.rangeAt hb4) hcs ?_; refine WL.storeRow rfl rfl rfl rfl rfl rfl hg4 hcs rfl hv4.one ?_; refine K.kgo ?_; have hset : Keep (fun b => b ≠ gb) w4 (w4.setRow gb cs.toArray) := Keep.setRow (Keep.refl _ w4) (fun hk => hk rfl) _; exact WQ.retC rfl rfl rfl hcs (hg4.setRow cs) ⟨v, cs, l4, e4, rfl, hv4.keep hset (fun b hb _ => by have := hb.1; omega) (fun b hb => by have := hb.1; omega), hr4.keep hset (fun b hb => by omega), Keep.setRow (hkA.trans hk4) (fun hk => by have := hk.1; omega) _, ho4⟩
  by_cases k1 : c = 1
  · subst k1
    refine K.kgo ?_; exact WQ.meet (.mk 1 0 0 noT [] [], _, l2, e2) ⟨rfl, rfl, trivial⟩ ⟨hblk3, isVo_leaf (by omega) (by omega) (by omega) (by decide), h3, hk3, ho2.gv (Out.congr (Out.pure _) (by unfold GV; rw [if_pos rfl]))⟩
  by_cases k2 : c = 2
  · subst k2
    refine K.kgo ?_; refine WL.call rfl rfl rfl rfl rfl Tryz.func124 rfl (by kernel_rfl) (one7_any h3) ?_; rintro _ w4 ⟨c2, l4, e4, rfl, hc20, hc21, h4, hk4, ho4, hz4⟩; refine ⟨_, rfl, ?_⟩; have hblk4 := hblk3.keep hk4 ⟨hblk3.lt, by omega⟩
    by_cases hb2 : 1 < c2
    · have he4 : e4 = 0 := by omega
      obtain ⟨sp4, cap4, hr4, -⟩ := h4.ex; refine K.kgo ?_; refine WL.store rfl rfl rfl rfl rfl rfl (by kernel_rfl) (hr4.cell 1 (by simp)) (hr4.free 1) ?_; have h5 := h4.setE 3; have hk5 : KeepR rb w (w4.setCell ⟨rb, 1, none⟩ (.int .i64 3)) := (hk3.trans hk4).trans (KeepR.set _ _ _ _); have hblk5 : VBlk 82 (w4.setCell ⟨rb, 1, none⟩ (.int .i64 3)) vb _ := hblk4.other _ _ (by show vb ≠ rb; omega); generalize w4.setCell ⟨rb, 1, none⟩ (.int .i64 3) = w5 at h5 hk5 hblk5 ⊢; refine K.kgo ?_; refine WL.store (v := .int .i64 c2) rfl rfl rfl rfl rfl rfl (by kernel_rfl) (hblk5.cell 1 (by simp)) (hblk5.free 1) ?_; obtain ⟨h6, hk6⟩ := stB (i := 1) (.int .i64 c2) h5 hk5; have hblk6 := hblk5.set 1 (.int .i64 c2); refine K.kgo ?_; refine WQ.meet (.mk 2 c2 0 noT [] [], _, l4, 3) ⟨rfl, rfl, trivial⟩ ⟨hblk6, isVo_leaf (by omega) (by omega) (by omega) (by decide), h6, hk6, ho2.gv (Out.congr (ho4.bind (Out.congr (f := fun _ => .bad 3) ?_ ?_)) (by unfold GV; rw [if_neg k1, if_pos rfl]))⟩
      · have := Out.fail (l := l4) (e := e4) (a := V.mk 2 c2 0 noT [] []) 3 (by omega)
        rwa [if_pos he4] at this
      · rw [if_pos hb2]
    · refine K.kgo ?_
      refine WL.store (v := .int .i64 c2) rfl rfl rfl rfl rfl rfl (by kernel_rfl) (hblk4.cell 1 (by simp)) (hblk4.free 1) ?_; obtain ⟨h5, hk5⟩ := stB (i := 1) (.int .i64 c2) h4 (hk3.trans hk4); have hblk5 := hblk4.set 1 (.int .i64 c2); refine K.kgo ?_; refine WQ.meet (.mk 2 c2 0 noT [] [], _, l4, _) ⟨rfl, rfl, trivial⟩ ⟨hblk5, isVo_leaf (by omega) (by omega) (by omega) (by decide), h5, hk5, ho2.gv (Out.congr (ho4.bind (Out.congr (Out.pure _) ?_)) (by unfold GV; rw [if_neg k1, if_pos rfl]))⟩; rw [if_neg hb2]
  by_cases k3 : c = 3
  · subst k3
    refine K.kgo ?_; refine WL.call rfl rfl rfl rfl rfl Tryz.func125 rfl (by kernel_rfl) (number7_any h3) ?_; rintro _ w4 ⟨u, l4, e4, rfl, hu, h4, hk4, ho4⟩; refine ⟨_, rfl, ?_⟩; refine WL.call rfl rfl rfl rfl rfl Tryz.func64 rfl (by kernel_rfl) (rzag_any u hu w4) ?_; rintro _ w4 ⟨rfl, rfl⟩; refine ⟨_, rfl, ?_⟩; have hz := zag_range hu; have hblk4 := hblk3.keep hk4 ⟨hblk3.lt, by omega⟩; refine K.kgo ?_; refine WL.store (v := .int .i64 (zag u)) rfl rfl rfl rfl rfl rfl (by kernel_rfl) (hblk4.cell 1 (by simp)) (hblk4.free 1) ?_; obtain ⟨h5, hk5⟩ := stB (i := 1) (.int .i64 (zag u)) h4 (hk3.trans hk4); have hblk5 := hblk4.set 1 (.int .i64 (zag u)); generalize w4.setCell ⟨vb, 1, none⟩ (.int .i64 (zag u)) = w5 at h5 hk5 hblk5; simp only [List.set_cons_zero, List.set_cons_succ] at hblk5; refine K.kgo ?_; refine WL.load rfl rfl rfl rfl rfl rfl (hblk5.cell 0 (by simp)) ?_; refine K.kgo ?_; exact WQ.meet (.mk 3 (zag u) 0 noT [] [], _, l4, _) ⟨rfl, rfl, trivial⟩ ⟨hblk5, isVo_leaf (by omega) hz (by omega) (by decide), h5, hk5, ho2.gv (Out.congr (ho4.bind (Out.pure (V.mk 3 (zag u) 0 noT [] []))) (by unfold GV; rw [if_neg k1, if_neg k2, if_pos rfl]))⟩
  by_cases k4 : c = 4
  · subst k4
    refine K.kgo ?_; refine WL.call rfl rfl rfl rfl rfl Tryz.func125 rfl (by kernel_rfl) (number7_any h3) ?_; rintro _ w4 ⟨u, l4, e4, rfl, hu, h4, hk4, ho4⟩; refine ⟨_, rfl, ?_⟩; refine WL.call rfl rfl rfl rfl rfl Tryz.func64 rfl (by kernel_rfl) (rzag_any u hu w4) ?_; rintro _ w4 ⟨rfl, rfl⟩; refine ⟨_, rfl, ?_⟩; have hz := zag_range hu; have hblk4 := hblk3.keep hk4 ⟨hblk3.lt, by omega⟩; refine K.kgo ?_; refine WL.store (v := .int .i64 (zag u)) rfl rfl rfl rfl rfl rfl (by kernel_rfl) (hblk4.cell 1 (by simp)) (hblk4.free 1) ?_; obtain ⟨h5, hk5⟩ := stB (i := 1) (.int .i64 (zag u)) h4 (hk3.trans hk4); have hblk5 := hblk4.set 1 (.int .i64 (zag u)); generalize w4.setCell ⟨vb, 1, none⟩ (.int .i64 (zag u)) = w5 at h5 hk5 hblk5; simp only [List.set_cons_zero, List.set_cons_succ] at hblk5; refine K.kgo ?_; refine WL.load rfl rfl rfl rfl rfl rfl (hblk5.cell 0 (by simp)) ?_; refine K.kgo ?_; refine WL.call rfl rfl rfl rfl rfl Tryz.func124 rfl (by kernel_rfl) (one7_any h5) ?_; rintro _ w6 ⟨c2, l6, e6, rfl, hc20, hc21, h6, hk6, ho6, -⟩; refine ⟨_, rfl, ?_⟩; have hblk6 := hblk5.keep hk6 ⟨hblk5.lt, by omega⟩; refine K.kgo ?_; refine WL.store (v := .int .i64 c2) rfl rfl rfl rfl rfl rfl (by kernel_rfl) (hblk6.cell 2 (by simp)) (hblk6.free 2) ?_; obtain ⟨h7, hk7⟩ := stB (i := 2) (.int .i64 c2) h6 (hk5.trans hk6); have hblk7 := hblk6.set 2 (.int .i64 c2); refine K.kgo ?_; exact WQ.meet (.mk 4 (zag u) c2 noT [] [], _, l6, _) ⟨rfl, rfl, trivial⟩ ⟨hblk7, isVo_leaf (by omega) hz (by omega) (by decide), h7, hk7, ho2.gv (Out.congr (ho4.bind (ho6.bind (Out.pure (V.mk 4 (zag u) c2 noT [] [])))) (by unfold GV; rw [if_neg k1, if_neg k2, if_neg k3, if_pos rfl]))⟩
  by_cases k5 : c = 5
  · subst k5
    refine K.kgo ?_; refine WL.call rfl rfl rfl rfl rfl Tryz.func125 rfl (by kernel_rfl) (number7_any h3) ?_; rintro _ w4 ⟨u, l4, e4, rfl, hu, h4, hk4, ho4⟩; refine ⟨_, rfl, ?_⟩; have hz : -9223372036854775808 ≤ IntKind.i64.wrap (u : Int) ∧ IntKind.i64.wrap (u : Int) ≤ 9223372036854775807 := by rw [IntKind.wrap_i64]; omega
    have hblk4 := hblk3.keep hk4 ⟨hblk3.lt, by omega⟩; refine WL.pure rfl rfl rfl rfl ?_; refine WL.pure rfl rfl rfl rfl ?_; refine WL.store (v := .int .i64 (IntKind.i64.wrap (u : Int))) rfl rfl rfl rfl rfl rfl (by kernel_rfl) (hblk4.cell 1 (by simp)) (hblk4.free 1) ?_; obtain ⟨h5, hk5⟩ := stB (i := 1) (.int .i64 (IntKind.i64.wrap (u : Int))) h4 (hk3.trans hk4); have hblk5 := hblk4.set 1 (.int .i64 (IntKind.i64.wrap (u : Int))); refine K.kgo ?_; exact WQ.meet (.mk 5 (IntKind.i64.wrap (u : Int)) 0 noT [] [], _, l4, _) ⟨rfl, rfl, trivial⟩ ⟨hblk5, isVo_leaf (by omega) hz (by omega) (by decide), h5, hk5, ho2.gv (Out.congr (ho4.bind (Out.pure (V.mk 5 (IntKind.i64.wrap (u : Int)) 0 noT [] []))) (by unfold GV; rw [if_neg k1, if_neg k2, if_neg k3, if_neg k4, if_pos rfl]))⟩
  by_cases k67 : c = 6 ∨ c = 7
  · have hg : GV m c = fun r => (rdT r).bind fun t r => .ok (.mk c 0 0 t [] []) r := by funext r; unfold GV; rw [if_neg k1, if_neg k2, if_neg k3, if_neg k4, if_neg k5, if_pos k67]
    rcases k67 with k6 | k7
    all_goals
      refine K.kgo ?_; refine WL.call rfl rfl rfl rfl rfl Tryz.func126 rfl (by kernel_rfl) (text7_any h3) ?_; rintro _ w4 ⟨t, l4, e4, rfl, ht, h4, hk4, ho4⟩; refine ⟨_, rfl, ?_⟩; have hblk4 := hblk3.keep hk4 ⟨hblk3.lt, by omega⟩; refine K.kgo ?_; refine WL.store (v := .string t) rfl rfl rfl rfl rfl rfl (by kernel_rfl) (hblk4.cell 3 (by simp)) (hblk4.free 3) ?_; obtain ⟨h5, hk5⟩ := stB (i := 3) (.string t) h4 (hk3.trans hk4); have hblk5 := hblk4.set 3 (.string t); refine K.kgo ?_; exact WQ.meet (.mk c 0 0 t [] [], _, l4, _) ⟨rfl, rfl, trivial⟩ ⟨hblk5, isVo_leaf (by omega) (by omega) (by omega) (by omega), h5, hk5, ho2.gv (by rw [hg]; exact ho4.bind (Out.pure (V.mk c 0 0 t [] [])))⟩
  by_cases k89 : c = 8 ∨ c = 9
  · have hg : GV m c = fun r => (rdC r).bind fun n r => (rdK (rdV m) (decide (c = 9)) n [] [] r).bind fun p r => .ok (.mk c 0 0 noT p.1 p.2) r := by
      funext r; unfold GV; rw [if_neg k1, if_neg k2, if_neg k3, if_neg k4, if_neg k5, if_neg k67, if_pos k89]
    rcases k89 with k8 | k9
    · refine K.kgo ?_
      refine WL.call rfl rfl rfl rfl rfl Tryz.func127 rfl (by kernel_rfl) (count7_any h3) ?_; rintro _ w4 ⟨n, l4, e4, rfl, hn, h4, hk4, ho4⟩; refine ⟨_, rfl, ?_⟩; have hblk4 := hblk3.keep hk4 ⟨hblk3.lt, by omega⟩; rw [show decide (c = 9) = false by simp [k8]] at hg; refine K.kgo ?_; refine WC.loop (fun i : Nat × List ByteArray × List V × List Int × Int => [(0, .pointer (some ⟨rb, 0, none⟩)), (1, .int .i64 d), (4, .pointer (some ⟨gb, 0, none⟩)), (5, .pointer (some ⟨vb, 0, none⟩)), (7, .int .i64 n), (8, .int .i64 i.1)])
        (fun i wr => i.1 ≤ n ∧ i.2.1.length ≤ i.1 ∧ i.2.2.1.length ≤ i.1 ∧ (∃ sn sk q, KidsW rb vb (m + 1) c w wr i.2.1 i.2.2.1 sn sk q) ∧ RS7 B wr rb i.2.2.2.1 i.2.2.2.2 ∧
          ∀ p l' e', Out (rdK (rdV m) false (n - i.1) i.2.1 i.2.2.1) i.2.2.2.1 i.2.2.2.2 p l' e' → Out (rdK (rdV m) false n [] []) l4 e4 p l' e') (fun i => n - i.1) (0, [], [], l4, e4)
        ⟨rfl, rfl, rfl, rfl, rfl, rfl, trivial⟩ ⟨Nat.zero_le _, Nat.le_refl _, Nat.le_refl _, ⟨_, _, fun _ => False, hblk4, OwnE.nil _ _ _ _ _ _, OwnE.nil _ _ _ _ _ _, (fun g hg => by cases hg), (fun b hb => hb.elim), hk3.trans hk4, hvbe, by omega⟩, h4, fun _ _ _ h => h⟩ ?_
      rintro ⟨i, ns, ks, li, ei⟩ wr ⟨hi, hnl, hkl, ⟨sn, sk, q, hK⟩, hr, hcont⟩; simp only at hi hnl hkl hK hr hcont ⊢; have hend : ∀ {wx : World} {sn sk : Value} {ns : List ByteArray} {ks : List V} {q : Nat → Prop} {li : List Int} {ei : Int}, KidsW rb vb (m + 1) c w wx ns ks sn sk q → RS7 B wx rb li ei → Out (rdK (rdV m) false n [] []) l4 e4 (ns, ks) li ei →
          VBlk 82 wx vb [.int .i64 c, .int .i64 0, .int .i64 0, .string ByteArray.empty, sn, sk] ∧ IsVo (fun b => w.heap.size ≤ b ∧ b ≠ vb) (m + 1 + 1) wx (.mk c 0 0 noT ns ks) [.int .i64 c, .int .i64 0, .int .i64 0, .string ByteArray.empty, sn, sk] ∧ RS7 B wx rb li ei ∧ KeepR rb w wx ∧ Out (rdV (m + 1)) l e (.mk c 0 0 noT ns ks) li ei :=
        fun {wx sn sk ns ks q li ei} h1 h2 h3 => ⟨h1.blk, ⟨sn, sk, rfl, wf_i64 (by show -9223372036854775808 ≤ c ∧ c ≤ _; omega), wf_i64 (by show -9223372036854775808 ≤ (0 : Int) ∧ (0 : Int) ≤ _; omega), wf_i64 (by show -9223372036854775808 ≤ (0 : Int) ∧ (0 : Int) ≤ _; omega), by show ByteArray.empty.size ≤ _; decide, h1.names.els, h1.kids.els.mono (fun _ h => h) fun x cs hx => hx.mono fun b hb => ⟨(h1.qs b hb).1, (h1.qs b hb).2.2.1⟩⟩, h2, h1.keep,
          ho2.gv (by rw [hg]; exact ho4.bind (h3.bind (Out.pure (V.mk c 0 0 noT ns ks))))⟩
      by_cases hin : i < n
      · obtain ⟨rsp, rcap, hrb, -⟩ := hr.ex
        refine K.kgo ?_; refine WL.load rfl rfl rfl rfl rfl rfl (hrb.cell 1 (by simp)) ?_
        by_cases hei : ei = 0
        · subst hei
          have hni : n - i = (n - (i + 1)) + 1 := by omega
          rw [hni] at hcont; have hwr := hK.keep.size; refine K.kgo ?_; refine WL.load rfl rfl rfl rfl rfl rfl (hK.blk.cell 0 (by simp)) ?_; refine K.kgo ?_; refine WC.drawn 9 (fun wx => VBlk 82 wx vb [.int .i64 c, .int .i64 0, .int .i64 0, .string ByteArray.empty, sn, sk]) fun w5 hd5 => ?_; have hK5 := hK.below (hd5.below _); have hr5 := hr.keep (Keep.of_below (hd5.below wr.heap.size)) fun b hb => by omega
          have hsz5 : wr.heap.size ≤ w5.heap.size := (hd5.below 0).size; have hS := hK5.blk; refine K.fr [0] hS ?_; refine K.wl 1 [7, 8, 9] rfl rfl rfl rfl rfl rfl rfl (fun wx hx => hx.cell 5 (by simp)) hS ?_; refine K.fr [2, 3, 4] hS ?_; refine K.wo 5 ?_; refine WL.call rfl rfl rfl rfl rfl Tryz.func95 rfl (by kernel_rfl) (ih (d + 1) (by omega) hr5 (by omega)) ?_; rintro _ w6 ⟨v, cs, l6, e6, rfl, hv6, hr6, hk6, ho6⟩; refine ⟨_, rfl, ?_⟩; have hvb5 := hK5.blk.lt; have hsn5 : ∀ g, (sn).ownBlock = some g → g < w5.heap.size := fun g hg => hK5.names.lt hg; have hsk5 : ∀ g, sk.ownBlock = some g → g < w5.heap.size := fun g hg => hK5.kids.lt hg; have hK6 := hK5.read hk6; refine WL.nil (WQ.dk (.inr hK6.blk) ?_); refine K.wo 6 ?_; refine WL.lit1 rfl rfl rfl rfl rfl rfl rfl hv6.len ⟨by omega, by omega⟩ (by kernel_rfl) fun g7 w7 hf7 => ?_; have hK7 := (hK6.below hf7.below).widen (S := w5.heap.size) (by have := hK5.keep.size; omega) hvb5 hsn5 hsk5; have hr7 := hr6.keep (Keep.of_below hf7.below) fun b hb => by have := hk6.size; omega
          have hv7 := hv6.there.keep (O' := fun b => q b ∨ (w5.heap.size ≤ b ∧ b < w7.heap.size)) (Keep.of_below hf7.below) (fun b _ h => h) fun b hb => .inr ⟨hb.1, by have := hf7.size; omega⟩; refine WL.nil (WQ.dk (.inr hK7.blk) ?_); refine K.wo 7 ?_; refine WL.snoc rfl rfl rfl rfl elemV6 rfl hK7.kids rfl hf7.blk hv6.one hv6.len hv7 (by omega) (by omega) fun sk8 w8 ho8 hg8 => ?_; obtain ⟨hb8, hK9⟩ := hK7.setK ho8 hg8; refine K.di hb8 ?_; have hsk8 : sk8.oneCell' = true := ho8.one; refine K.wo 8 ?_; refine WL.pure rfl rfl rfl rfl ?_; refine K.di hb8 ?_; refine K.wo 9 ?_; refine WL.store rfl rfl rfl rfl rfl hsk8 (by kernel_rfl) (hb8.cell 5 (by simp)) (hb8.free 5) ?_; have hr9 : RS7 B (w8.setCell ⟨vb, 5, none⟩ sk8) rb l6 e6 := (hr7.keep hg8.1 fun b hb => ⟨by have := hr7.ex; have := hf7.size; have := hk6.size; omega, fun e => by have := (hK7.kids.own e).1; omega⟩).keep (K := fun b => b ≠ vb) ((Keep.refl _ w8).setCell (fun hk => hk rfl) _) fun b hb => by omega
          generalize w8.setCell ⟨vb, 5, none⟩ sk8 = w9 at hK9 hr9; refine K.dl ?_; refine WD.done (by kernel_rfl) ?_; refine K.kgo ?_; refine WQ.again (i + 1, ns, ks ++ [v], l6, e6) ⟨rfl, rfl, rfl, rfl, rfl, rfl, trivial⟩ ⟨hin, by show ns.length ≤ i + 1; omega, by simp only [List.length_append, List.length_cons, List.length_nil]; omega, ⟨sn, sk8, _, hK9⟩, hr9, fun p l' e' ho => ?_⟩ (by show n - (i + 1) < n - i; omega); refine hcont p l' e' (Out.congr (ho6.bind (g := fun v r' => rdK (rdV m) false (n - (i + 1)) ns (ks ++ [v]) r') ho) ?_); rw [rdK, if_neg (by simp)]
        · refine K.kgo ?_
          exact WQ.meet (.mk c 0 0 noT ns ks, _, li, ei) ⟨rfl, rfl, trivial⟩ (hend hK hr (hcont _ _ _ (.ofBad hei)))
      · obtain rfl : i = n := by omega
        refine K.kgo ?_; exact WQ.meet (.mk c 0 0 noT ns ks, _, li, ei) ⟨rfl, rfl, trivial⟩ (hend hK hr (hcont _ _ _ (Out.congr (Out.pure _) (by rw [Nat.sub_self]; rfl))))
    · refine K.kgo ?_
      refine WL.call rfl rfl rfl rfl rfl Tryz.func127 rfl (by kernel_rfl) (count7_any h3) ?_; rintro _ w4 ⟨n, l4, e4, rfl, hn, h4, hk4, ho4⟩; refine ⟨_, rfl, ?_⟩; have hblk4 := hblk3.keep hk4 ⟨hblk3.lt, by omega⟩; rw [show decide (c = 9) = true by simp [k9]] at hg; refine K.kgo ?_; refine WC.loop (fun i : Nat × List ByteArray × List V × List Int × Int => [(0, .pointer (some ⟨rb, 0, none⟩)), (1, .int .i64 d), (4, .pointer (some ⟨gb, 0, none⟩)), (5, .pointer (some ⟨vb, 0, none⟩)), (7, .int .i64 n), (8, .int .i64 i.1)])
        (fun i wr => i.1 ≤ n ∧ i.2.1.length ≤ i.1 ∧ i.2.2.1.length ≤ i.1 ∧ (∃ sn sk q, KidsW rb vb (m + 1) c w wr i.2.1 i.2.2.1 sn sk q) ∧ RS7 B wr rb i.2.2.2.1 i.2.2.2.2 ∧
          ∀ p l' e', Out (rdK (rdV m) true (n - i.1) i.2.1 i.2.2.1) i.2.2.2.1 i.2.2.2.2 p l' e' → Out (rdK (rdV m) true n [] []) l4 e4 p l' e') (fun i => n - i.1) (0, [], [], l4, e4)
        ⟨rfl, rfl, rfl, rfl, rfl, rfl, trivial⟩ ⟨Nat.zero_le _, Nat.le_refl _, Nat.le_refl _, ⟨_, _, fun _ => False, hblk4, OwnE.nil _ _ _ _ _ _, OwnE.nil _ _ _ _ _ _, (fun g hg => by cases hg), (fun b hb => hb.elim), hk3.trans hk4, hvbe, by omega⟩, h4, fun _ _ _ h => h⟩ ?_
      rintro ⟨i, ns, ks, li, ei⟩ wr ⟨hi, hnl, hkl, ⟨sn, sk, q, hK⟩, hr, hcont⟩; simp only at hi hnl hkl hK hr hcont ⊢; have hend : ∀ {wx : World} {sn sk : Value} {ns : List ByteArray} {ks : List V} {q : Nat → Prop} {li : List Int} {ei : Int}, KidsW rb vb (m + 1) c w wx ns ks sn sk q → RS7 B wx rb li ei → Out (rdK (rdV m) true n [] []) l4 e4 (ns, ks) li ei →
          VBlk 82 wx vb [.int .i64 c, .int .i64 0, .int .i64 0, .string ByteArray.empty, sn, sk] ∧ IsVo (fun b => w.heap.size ≤ b ∧ b ≠ vb) (m + 1 + 1) wx (.mk c 0 0 noT ns ks) [.int .i64 c, .int .i64 0, .int .i64 0, .string ByteArray.empty, sn, sk] ∧ RS7 B wx rb li ei ∧ KeepR rb w wx ∧ Out (rdV (m + 1)) l e (.mk c 0 0 noT ns ks) li ei :=
        fun {wx sn sk ns ks q li ei} h1 h2 h3 => ⟨h1.blk, ⟨sn, sk, rfl, wf_i64 (by show -9223372036854775808 ≤ c ∧ c ≤ _; omega), wf_i64 (by show -9223372036854775808 ≤ (0 : Int) ∧ (0 : Int) ≤ _; omega), wf_i64 (by show -9223372036854775808 ≤ (0 : Int) ∧ (0 : Int) ≤ _; omega), by show ByteArray.empty.size ≤ _; decide, h1.names.els, h1.kids.els.mono (fun _ h => h) fun x cs hx => hx.mono fun b hb => ⟨(h1.qs b hb).1, (h1.qs b hb).2.2.1⟩⟩, h2, h1.keep,
          ho2.gv (by rw [hg]; exact ho4.bind (h3.bind (Out.pure (V.mk c 0 0 noT ns ks))))⟩
      by_cases hin : i < n
      · obtain ⟨rsp, rcap, hrb, -⟩ := hr.ex
        refine K.kgo ?_; refine WL.load rfl rfl rfl rfl rfl rfl (hrb.cell 1 (by simp)) ?_
        by_cases hei : ei = 0
        · subst hei
          have hni : n - i = (n - (i + 1)) + 1 := by omega
          rw [hni] at hcont; have hwr := hK.keep.size; refine K.kgo ?_; refine WL.load rfl rfl rfl rfl rfl rfl (hK.blk.cell 0 (by simp)) ?_; refine K.kgo ?_; refine WC.drawn 7 (fun wx => VBlk 82 wx vb [.int .i64 c, .int .i64 0, .int .i64 0, .string ByteArray.empty, sn, sk]) fun w5 hd5 => ?_; have hK5 := hK.below (hd5.below _); have hr5 := hr.keep (Keep.of_below (hd5.below wr.heap.size)) fun b hb => by omega
          have hsz5 : wr.heap.size ≤ w5.heap.size := (hd5.below 0).size; have hS := hK5.blk; refine K.fr [0] hS ?_; refine K.wl 1 [5, 6, 7] rfl rfl rfl rfl rfl rfl rfl (fun wx hx => hx.cell 4 (by simp)) hS ?_; refine K.fr [2] hS ?_; refine K.wo 3 ?_; refine WL.call rfl rfl rfl rfl rfl Tryz.func126 rfl (by kernel_rfl) (text7_any hr5) ?_; rintro _ w6 ⟨t, lt, et, rfl, ht, hr6, hk6, hot⟩; refine ⟨_, rfl, ?_⟩; have hK6 := hK5.read hk6; refine WL.nil (WQ.dk (.inr hK6.blk) ?_); refine K.wo 4 ?_; refine WL.lit1 (cs := [.string t]) rfl rfl rfl rfl rfl rfl rfl rfl ⟨by omega, by omega⟩ (by kernel_rfl) fun g7 w7 hf7 => ?_; have hK7 := hK6.below hf7.below; have hr7 := hr6.keep (Keep.of_below hf7.below) fun b hb => by have := hk6.size; omega
          refine WL.nil (WQ.dk (.inr hK7.blk) ?_); refine K.wo 5 ?_; refine WL.snoc (y := t) rfl rfl rfl rfl elemS1 rfl hK7.names rfl hf7.blk (by intro u hu; simp at hu; rw [hu]; rfl) rfl ⟨rfl, by omega⟩ (by omega) (by omega) fun sn8 w8 ho8 hg8 => ?_; obtain ⟨hb8, hK9⟩ := hK7.setN ho8 hg8; refine K.di hb8 ?_; have hsn8 : sn8.oneCell' = true := ho8.one; refine K.wo 6 ?_; refine WL.pure rfl rfl rfl rfl ?_; refine K.di hb8 ?_; refine K.wo 7 ?_; refine WL.store rfl rfl rfl rfl rfl hsn8 (by kernel_rfl) (hb8.cell 4 (by simp)) (hb8.free 4) ?_; have hr9 : RS7 B (w8.setCell ⟨vb, 4, none⟩ sn8) rb lt et := (hr7.keep hg8.1 fun b hb => ⟨by have := hf7.size; have := hk6.size; omega, fun e => by have := (hK7.names.own e).1; omega⟩).keep (K := fun b => b ≠ vb) ((Keep.refl _ w8).setCell (fun hk => hk rfl) _) fun b hb => by omega
          generalize w8.setCell ⟨vb, 4, none⟩ sn8 = w9 at hK9 hr9; refine K.dl ?_; refine WD.done (by kernel_rfl) ?_; clear hK7 hr7 hb8 hK6 hr6 hK5 hr5 hS hk6 ho8 hg8; have hwr := hK9.keep.size; refine K.kgo ?_; refine WC.drawn 9 (fun wx => VBlk 82 wx vb [.int .i64 c, .int .i64 0, .int .i64 0, .string ByteArray.empty, sn8, sk]) fun w15 hd5 => ?_; have hK5 := hK9.below (hd5.below _); have hr5 := hr9.keep (Keep.of_below (hd5.below w9.heap.size)) fun b hb => by omega
          have hsz5 : w9.heap.size ≤ w15.heap.size := (hd5.below 0).size; have hS := hK5.blk; refine K.fr [0] hS ?_; refine K.wl 1 [7, 8, 9] rfl rfl rfl rfl rfl rfl rfl (fun wx hx => hx.cell 5 (by simp)) hS ?_; refine K.fr [2, 3, 4] hS ?_; refine K.wo 5 ?_; refine WL.call rfl rfl rfl rfl rfl Tryz.func95 rfl (by kernel_rfl) (ih (d + 1) (by omega) hr5 (by omega)) ?_; rintro _ w16 ⟨v, cs, l6, e6, rfl, hv6, hr6, hk6, ho6⟩; refine ⟨_, rfl, ?_⟩; have hvb5 := hK5.blk.lt; have hsn5 : ∀ g, (sn8).ownBlock = some g → g < w15.heap.size := fun g hg => hK5.names.lt hg; have hsk5 : ∀ g, sk.ownBlock = some g → g < w15.heap.size := fun g hg => hK5.kids.lt hg; have hK6 := hK5.read hk6; refine WL.nil (WQ.dk (.inr hK6.blk) ?_); refine K.wo 6 ?_; refine WL.lit1 rfl rfl rfl rfl rfl rfl rfl hv6.len ⟨by omega, by omega⟩ (by kernel_rfl) fun g7 w17 hf7 => ?_; have hK7 := (hK6.below hf7.below).widen (S := w15.heap.size) (by have := hK5.keep.size; omega) hvb5 hsn5 hsk5; have hr7 := hr6.keep (Keep.of_below hf7.below) fun b hb => by have := hk6.size; omega
          have hv7 := hv6.there.keep (O' := fun b => q b ∨ (w15.heap.size ≤ b ∧ b < w17.heap.size)) (Keep.of_below hf7.below) (fun b _ h => h) fun b hb => .inr ⟨hb.1, by have := hf7.size; omega⟩; refine WL.nil (WQ.dk (.inr hK7.blk) ?_); refine K.wo 7 ?_; refine WL.snoc rfl rfl rfl rfl elemV6 rfl hK7.kids rfl hf7.blk hv6.one hv6.len hv7 (by omega) (by omega) fun sk8 w18 ho8 hg8 => ?_; obtain ⟨hb8, hK9⟩ := hK7.setK ho8 hg8; refine K.di hb8 ?_; have hsk8 : sk8.oneCell' = true := ho8.one; refine K.wo 8 ?_; refine WL.pure rfl rfl rfl rfl ?_; refine K.di hb8 ?_; refine K.wo 9 ?_; refine WL.store rfl rfl rfl rfl rfl hsk8 (by kernel_rfl) (hb8.cell 5 (by simp)) (hb8.free 5) ?_; have hr9 : RS7 B (w18.setCell ⟨vb, 5, none⟩ sk8) rb l6 e6 := (hr7.keep hg8.1 fun b hb => ⟨by have := hr7.ex; have := hf7.size; have := hk6.size; omega, fun e => by have := (hK7.kids.own e).1; omega⟩).keep (K := fun b => b ≠ vb) ((Keep.refl _ w18).setCell (fun hk => hk rfl) _) fun b hb => by omega
          generalize w18.setCell ⟨vb, 5, none⟩ sk8 = w19 at hK9 hr9; refine K.dl ?_; refine WD.done (by kernel_rfl) ?_; refine K.kgo ?_; refine WQ.again (i + 1, (ns ++ [t]), ks ++ [v], l6, e6) ⟨rfl, rfl, rfl, rfl, rfl, rfl, trivial⟩ ⟨hin, by simp only [List.length_append, List.length_cons, List.length_nil]; omega, by simp only [List.length_append, List.length_cons, List.length_nil]; omega, ⟨sn8, sk8, _, hK9⟩, hr9, fun p l' e' ho => ?_⟩ (by show n - (i + 1) < n - i; omega); refine hcont p l' e' (Out.congr (hot.bind (g := fun s r => (rdV m r).bind fun v r' => rdK (rdV m) true (n - (i + 1)) (ns ++ [s]) (ks ++ [v]) r') (ho6.bind (g := fun v r' => rdK (rdV m) true (n - (i + 1)) (ns ++ [t]) (ks ++ [v]) r') ho)) ?_); rw [rdK, if_pos rfl]
        · refine K.kgo ?_
          exact WQ.meet (.mk c 0 0 noT ns ks, _, li, ei) ⟨rfl, rfl, trivial⟩ (hend hK hr (hcont _ _ _ (.ofBad hei)))
      · obtain rfl : i = n := by omega
        refine K.kgo ?_; exact WQ.meet (.mk c 0 0 noT ns ks, _, li, ei) ⟨rfl, rfl, trivial⟩ (hend hK hr (hcont _ _ _ (Out.congr (Out.pure _) (by rw [Nat.sub_self]; rfl))))
  · have hg : GV m c = fun _ => .bad 3 := by
      funext r; unfold GV; rw [if_neg k1, if_neg k2, if_neg k3, if_neg k4, if_neg k5, if_neg k67, if_neg k89]
    refine K.kgo ?_; refine WL.store rfl rfl rfl rfl rfl rfl (by kernel_rfl) (hr3.cell 1 (by simp)) (hr3.free 1) ?_; have h4 := h3.setE 3; have hk4 : KeepR rb w (w3.setCell ⟨rb, 1, none⟩ (.int .i64 3)) := hk3.trans (KeepR.set _ _ _ _); have hblk4 : VBlk 82 (w3.setCell ⟨rb, 1, none⟩ (.int .i64 3)) vb _ := hblk3.other _ _ (by show vb ≠ rb; omega); refine K.kgo ?_; refine WQ.meet (.mk c 0 0 noT [] [], _, l2, 3) ⟨rfl, rfl, trivial⟩ ⟨hblk4, isVo_leaf (by omega) (by omega) (by omega) (by decide), h4, hk4, ho2.gv ?_⟩; rw [hg]; have := Out.fail (l := l2) (e := e2) (a := V.mk c 0 0 noT [] []) 3 (by omega)
    rwa [if_pos he2] at this

theorem value7_any : ∀ (m : Nat) {B rb : Nat} {w : World} {l : List Int} {e : Int} (d : Int), d = 17 - (m : Int) → m ≤ 16 → RS7 B w rb l e → B ≤ w.heap.size → Calls Tryz.prog 95 #[.pointer (some ⟨rb, 0, none⟩), .int .i64 d] w (ValPost7 m B rb w l e)
  | 0, B, rb, w, l, e, d, hd, _, h, hB => by
    refine enter (args := [.pointer (some ⟨rb, 0, none⟩), .int .i64 d]) Tryz.func95 rfl Tryz.ntmps95 rfl ?_; refine K.kgo ?_; refine WL.alloc (z := .agg zeroC.toArray) rfl rfl rfl rfl (fun _ => by kernel_rfl) fun gb w1 hf => ?_; have hf' : Fresh w gb w1 82 zeroC := hf; clear hf; have hgbe := hf'.eq; have hrB := h.rlt; have h1 : RS7 B w1 rb l e := h.keep (Keep.of_below hf'.below) fun b hb => Nat.lt_of_lt_of_le hb hB; have hk1 : KeepR rb w w1 := KeepR.below hf'.below; have hg1 := hf'.blk; clear hf'; obtain ⟨sp1, cap1, hc1, -⟩ := h1.ex; have hset : ∀ (wx : World) a, Keep (fun b => b ≠ gb) wx (wx.setRow gb a) := fun wx a => Keep.setRow (Keep.refl _ wx) (fun hk => hk rfl) a; refine K.kgo ?_; refine WL.load rfl rfl rfl rfl rfl rfl (hc1.cell 1 (by simp)) ?_
    by_cases he : e = 0
    · refine K.kgo ?_
      refine WL.store rfl rfl rfl rfl rfl rfl (by kernel_rfl) (hc1.cell 1 (by simp)) (hc1.free 1) ?_; have h2 := h1.setE 9; have hk2 : KeepR rb w (w1.setCell ⟨rb, 1, none⟩ (.int .i64 9)) := hk1.trans (KeepR.set _ _ _ _); have hg2 : VBlk 82 (w1.setCell ⟨rb, 1, none⟩ (.int .i64 9)) gb zeroC := hg1.other _ _ (by show gb ≠ rb; omega); generalize w1.setCell ⟨rb, 1, none⟩ (.int .i64 9) = w2 at h2 hk2 hg2 ⊢; refine K.kgo ?_; refine WL.build zeroC rfl rfl rfl rfl rfl (by kernel_rfl) ?_; refine WL.storeRow rfl rfl rfl rfl rfl rfl hg2 rfl rfl (zero_isVo (fun _ => True) 0 w2).one ?_; refine K.kgo ?_; refine WQ.retC rfl rfl rfl rfl (hg2.setRow zeroC) ⟨.mk 0 0 0 noT [] [], zeroC, l, 9, rfl, zero_isVo _ _ _, h2.keep (hset _ _) (fun b hb => by omega), Keep.setRow hk2 (fun hk => by have := hk.1; omega) _, ?_⟩; have := Out.fail (l := l) (e := e) (a := V.mk 0 0 0 noT [] []) 9 (by omega)
      rwa [if_pos he] at this
    · refine K.kgo ?_
      refine WL.build zeroC rfl rfl rfl rfl rfl (by kernel_rfl) ?_; refine WL.storeRow rfl rfl rfl rfl rfl rfl hg1 rfl rfl (zero_isVo (fun _ => True) 0 w1).one ?_; refine K.kgo ?_; exact WQ.retC rfl rfl rfl rfl (hg1.setRow zeroC) ⟨.mk 0 0 0 noT [] [], zeroC, l, e, rfl, zero_isVo _ _ _, h1.keep (hset _ _) (fun b hb => by omega), Keep.setRow hk1 (fun hk => by have := hk.1; omega) _, .ofBad he⟩
  | m + 1, _, _, _, _, _, d, hd, hm, h, hB => value7_step m (fun d hd h hB => value7_any m d hd (by omega) h hB) d hd hm h hB
end K
end Go.Proofs.YtpfkcfaifleliaaGreat

namespace Go.Proofs.YtpfkcfaifleliaaGreat
open Go.RowKit
namespace K
structure RdSt7 (w0 : World) (vb rb xb : Nat) (l3 : List Int) (x : V) (cs : List Value) (e : Int) (wx : World) : Prop where
  rs : RS7 (rb + 1) wx rb l3 e
  vblk : VBlk 82 wx vb zCells
  xblk : VBlk 82 wx xb cs
  val : IsVo (fun b => w0.heap.size ≤ b ∧ b ≠ rb ∧ b ≠ vb) 17 wx x cs
  below : Below w0.heap.size w0 wx
  ne : vb ≠ rb ∧ xb ≠ rb ∧ w0.heap.size ≤ rb ∧ w0.heap.size ≤ vb
section
variable {w0 wx wy : World} {vb rb xb : Nat} {l3 : List Int} {x : V} {cs : List Value} {e e' : Int}
theorem RdSt7.fail (h : RdSt7 w0 vb rb xb l3 x cs e wx) (hr : RS7 (rb + 1) wy rb l3 e') (hk : KeepR rb wx wy) : RdSt7 w0 vb rb xb l3 x cs e' wy := by
  have hb := h.below.size; have hne := h.ne; exact ⟨hr, h.vblk.keep hk ⟨h.vblk.lt, hne.1⟩, h.xblk.keep hk ⟨h.xblk.lt, hne.2.1⟩, h.val.keep hk (fun b hb hlt => ⟨hlt, hb.2.1⟩) fun b hb => hb, h.below.trans (Keep.below (Keep.mono hk fun b (hb : b < w0.heap.size) => ⟨by omega, by omega⟩)), hne⟩
theorem RdSt7.step (h : RdSt7 w0 vb rb xb l3 x cs e wx) (hk : Below wx.heap.size wx wy) : RdSt7 w0 vb rb xb l3 x cs e wy := by
  obtain ⟨sp, cap, h1, h2⟩ := h.rs.ex; exact h.fail (h.rs.keep (Keep.of_below hk) fun b hb => by have := h1.lt; omega) (KeepR.below hk)
end

def DecPost7 (w : World) (l : List Int) (r : Ending) (w' : World) : Prop :=
  Below w.heap.size w w' ∧ ∃ (x : V) (cs : List Value) (e : Int), r = .returned (.tuple #[.agg cs.toArray, .int .i64 e]) ∧ IsVo (fun b => w.heap.size ≤ b) 17 w' x cs ∧
    match readV true l with
    | .ok y _ => x = y ∧ e = 0
    | .bad _ => e ≠ 0
set_option maxHeartbeats 4000000 in
theorem decode7_any {w : World} {v : Value} {l : List Int} (hs : Sl .u8 w v l) (hb : Byt l) (hl : l.length ≤ 140737488355328) :
    Calls Tryz.prog 66 #[v] w (DecPost7 w l) := by
  refine enter (args := [v]) Tryz.func66 rfl Tryz.ntmps66 rfl ?_; have hs0 := SlB.of_sl hs; obtain ⟨sp, cap, rfl, -⟩ := hs; refine K.kgo ?_; refine WL.alloc (z := .agg zCells.toArray) rfl rfl rfl rfl (fun _ => by kernel_rfl) fun vb w1 hf1 => ?_; have hf1' : Fresh w vb w1 82 zCells := hf1; clear hf1; refine K.kgo ?_; refine WL.build [.slice sp l.length cap, .int .i64 0] rfl rfl rfl rfl rfl (by kernel_rfl) ?_; refine WL.box rfl rfl rfl rfl rfl fun rb w2 hf2 => ?_; have hf2' : Fresh w1 rb w2 204 [.slice sp l.length cap, .int .i64 0] := hf2; clear hf2; have hz1 := hf1'.size; have hz2 := hf2'.size; have hvb := hf1'.eq; have hrb := hf2'.eq; have hw12 : Below w.heap.size w w2 := hf1'.below.trans (hf2'.below.mono (by omega)); have hr2 : RS7 (rb + 1) w2 rb l 0 := ⟨Nat.lt_succ_self _, hb, sp, cap, hf2'.blk, (hs0.keep (Keep.of_below hw12) fun b hb => hb).mono fun b hb => by omega⟩; have hblk2 : VBlk 82 w2 vb zCells := hf1'.blk.below hf2'.below hf1'.blk.lt; clear hf1' hf2'; refine K.kgo ?_; refine WL.call rfl rfl rfl rfl rfl Tryz.func95 rfl (by kernel_rfl) (value7_any 16 1 rfl (by omega) hr2 (by omega)) ?_; rintro _ w3 ⟨x, cs, l3, e3, rfl, hv3, hr3, hk3, ho3⟩; refine ⟨_, rfl, ?_⟩; have hblk3 := hblk2.keep hk3 ⟨hblk2.lt, by omega⟩; refine WL.alloc (z := .agg zCells.toArray) rfl rfl rfl rfl (fun _ => by kernel_rfl) fun xb w4 hf4 => ?_; have hf4' : Fresh w3 xb w4 82 zCells := hf4; clear hf4; have hcs := hv3.len; refine WL.storeRow rfl rfl rfl rfl rfl rfl hf4'.blk hcs rfl hv3.one ?_; have hz3 := hk3.size; have hxb := hf4'.eq; have hz4 := hf4'.size; have hb4 : Below w3.heap.size w3 (w4.setRow xb cs.toArray) := below_setRow hf4'.below (by omega) _; have hx4 : VBlk 82 (w4.setRow xb cs.toArray) xb cs := hf4'.blk.setRow cs; have hz5 : (w4.setRow xb cs.toArray).heap.size = w3.heap.size + 1 := by simpa using hz4
  generalize w4.setRow xb cs.toArray = w5 at hb4 hx4 hz5; have hv5 : IsVo (fun b => w.heap.size ≤ b ∧ b ≠ rb ∧ b ≠ vb) 17 w5 x cs := (hv3.there.keep (Keep.of_below hb4) (fun b _ h => h) fun b hb => hb).mono fun b hb => by have := hb.1; omega
  have hr5 : RS7 (rb + 1) w5 rb l3 e3 := hr3.keep (Keep.of_below hb4) fun b hb => by omega
  have hblk5 : VBlk 82 w5 vb zCells := hblk3.below hb4 hblk3.lt; have hw5 : Below w.heap.size w w5 := by
    refine hw12.trans (Below.trans (Keep.below (Keep.mono hk3 fun b (hb : b < w.heap.size) => ⟨by omega, by omega⟩)) (hb4.mono (by omega)))
  have hne : vb ≠ rb ∧ xb ≠ rb ∧ w.heap.size ≤ rb ∧ w.heap.size ≤ vb := by omega
  have hst : RdSt7 w vb rb xb l3 x cs e3 w5 := ⟨hr5, hblk5, hx4, hv5, hw5, hne⟩; obtain ⟨rsp, rcap, hrc, -⟩ := hr5.ex; have hlen := ho3.len; clear hf4' hv3 hk3 hr3 hr5 hblk5 hx4 hv5 hw5 hblk3 hb4 hz5 hr2 hblk2 hw12 hs0; refine K.kgo ?_; refine WL.load rfl rfl rfl rfl rfl rfl (hrc.cell 1 (by simp)) ?_; refine K.kgo ?_; refine WC.mid (fun _ : Int => [(0, .slice sp l.length cap), (2, .pointer (some ⟨vb, 0, none⟩)), (4, .pointer (some ⟨rb, 0, none⟩)), (5, .pointer (some ⟨xb, 0, none⟩))]) (fun e4 wx => e4 = (if e3 = 0 then chk 16 x else e3) ∧ RdSt7 w vb rb xb l3 x cs e4 wx) rfl ?_ ?_
  · by_cases he : e3 = 0
    · refine WC.condT rfl he ?_
      refine K.kgo ?_; refine WL.loadMid rfl rfl rfl rfl rfl rfl (VBlk.rangeAt hst.xblk) hcs ?_; refine WL.call rfl rfl rfl rfl rfl Tryz.func83 rfl (by kernel_rfl) (rCheck_any hst.val.isV) ?_; rintro _ w6 ⟨rfl, hb6⟩; refine ⟨_, rfl, ?_⟩; have hst6 := hst.step hb6; obtain ⟨rsp6, rcap6, hrc6, -⟩ := hst6.rs.ex; refine K.kgo ?_; refine WL.store rfl rfl rfl rfl rfl rfl (by kernel_rfl) (hrc6.cell 1 (by simp)) (hrc6.free 1) ?_; exact WL.nil (WQ.meet _ ⟨rfl, rfl, rfl, rfl, trivial⟩ ⟨by rw [if_pos he], hst6.fail (hst6.rs.setE _) (KeepR.set _ _ _ _)⟩)
    · refine WC.condF rfl he ?_
      refine K.kgo ?_; exact WQ.meet _ ⟨rfl, rfl, rfl, rfl, trivial⟩ ⟨by rw [if_neg he], hst⟩
  rintro e4 w6 ⟨he4, hst6⟩; clear hrc hst; obtain ⟨rsp, rcap, hrc, -⟩ := hst6.rs.ex; refine K.kgn ?_; refine WL.mid (fun b : Bool => [(0, .slice sp l.length cap), (2, .pointer (some ⟨vb, 0, none⟩)), (4, .pointer (some ⟨rb, 0, none⟩)), (5, .pointer (some ⟨xb, 0, none⟩)), (33, .bool b)]) (fun b wx => b = decide (e4 = 0 ∧ 0 < l3.length) ∧ wx = w6) rfl ?_ ?_
  · have c0 := hrc.cell 0 (by simp)
    refine K.kgo ?_; refine WL.load rfl rfl rfl rfl rfl rfl (hrc.cell 1 (by simp)) ?_
    by_cases he : e4 = 0
    · by_cases h0 : 0 < l3.length
      · refine K.kgl ?_
        exact WQ.meet true ⟨rfl, rfl, rfl, rfl, rfl, trivial⟩ ⟨by simp [he, h0], rfl⟩
      · refine K.kgl ?_
        exact WQ.meet false ⟨rfl, rfl, rfl, rfl, rfl, trivial⟩ ⟨by simp [h0], rfl⟩
    · refine K.kgo ?_
      exact WQ.meet false ⟨rfl, rfl, rfl, rfl, rfl, trivial⟩ ⟨by simp [he], rfl⟩
  rintro b _ ⟨hb5, rfl⟩; refine WC.mid (fun _ : Int => [(0, .slice sp l.length cap), (2, .pointer (some ⟨vb, 0, none⟩)), (4, .pointer (some ⟨rb, 0, none⟩)), (5, .pointer (some ⟨xb, 0, none⟩))]) (fun e5 wx => e5 = (if e4 = 0 then (if 0 < l3.length then 3 else 0) else e4) ∧ RdSt7 w vb rb xb l3 x cs e5 wx) rfl ?_ ?_
  · cases b with
    | true =>
      obtain ⟨q1, q2⟩ := of_decide_eq_true hb5.symm; refine K.kgo ?_; refine WL.store rfl rfl rfl rfl rfl rfl (by kernel_rfl) (hrc.cell 1 (by simp)) (hrc.free 1) ?_; exact WL.nil (WQ.meet _ ⟨rfl, rfl, rfl, rfl, trivial⟩ ⟨by rw [if_pos q1, if_pos q2], hst6.fail (hst6.rs.setE _) (KeepR.set _ _ _ _)⟩)
    | false =>
      have hq := of_decide_eq_false hb5.symm; refine K.kgo ?_; refine WQ.meet e4 ⟨rfl, rfl, rfl, rfl, trivial⟩ ⟨?_, hst6⟩
      by_cases q1 : e4 = 0
      · rw [if_pos q1, if_neg (fun q2 => hq ⟨q1, q2⟩), q1]
      · rw [if_neg q1]
  rintro e5 w7 ⟨he5, hst7⟩; clear hrc hst6 hb5; obtain ⟨rsp, rcap, hrc, -⟩ := hst7.rs.ex; refine K.kgn ?_; refine WL.mid (fun b : Bool => [(0, .slice sp l.length cap), (2, .pointer (some ⟨vb, 0, none⟩)), (4, .pointer (some ⟨rb, 0, none⟩)), (5, .pointer (some ⟨xb, 0, none⟩)), (46, .bool b)]) (fun b wx => b = decide (e5 = 0 ∧ 65536 < l.length) ∧ wx = w7) rfl ?_ ?_
  · refine K.kgo ?_
    refine WL.load rfl rfl rfl rfl rfl rfl (hrc.cell 1 (by simp)) ?_
    by_cases he : e5 = 0
    · by_cases h0 : 65536 < l.length
      · refine K.kgo ?_
        exact WQ.meet true ⟨rfl, rfl, rfl, rfl, rfl, trivial⟩ ⟨by simp [he, h0], rfl⟩
      · refine K.kgo ?_
        exact WQ.meet false ⟨rfl, rfl, rfl, rfl, rfl, trivial⟩ ⟨by simp [h0], rfl⟩
    · refine K.kgo ?_
      exact WQ.meet false ⟨rfl, rfl, rfl, rfl, rfl, trivial⟩ ⟨by simp [he], rfl⟩
  rintro b _ ⟨hb5, rfl⟩; refine WC.mid (fun _ : Int => [(0, .slice sp l.length cap), (2, .pointer (some ⟨vb, 0, none⟩)), (4, .pointer (some ⟨rb, 0, none⟩)), (5, .pointer (some ⟨xb, 0, none⟩))]) (fun e6 wx => e6 = (if e5 = 0 then (if 65536 < l.length then 5 else 0) else e5) ∧ RdSt7 w vb rb xb l3 x cs e6 wx) rfl ?_ ?_
  · cases b with
    | true =>
      obtain ⟨q1, q2⟩ := of_decide_eq_true hb5.symm; refine K.kgo ?_; refine WL.store rfl rfl rfl rfl rfl rfl (by kernel_rfl) (hrc.cell 1 (by simp)) (hrc.free 1) ?_; exact WL.nil (WQ.meet _ ⟨rfl, rfl, rfl, rfl, trivial⟩ ⟨by rw [if_pos q1, if_pos q2], hst7.fail (hst7.rs.setE _) (KeepR.set _ _ _ _)⟩)
    | false =>
      have hq := of_decide_eq_false hb5.symm; refine K.kgo ?_; refine WQ.meet e5 ⟨rfl, rfl, rfl, rfl, trivial⟩ ⟨?_, hst7⟩
      by_cases q1 : e5 = 0
      · rw [if_pos q1, if_neg (fun q2 => hq ⟨q1, q2⟩), q1]
      · rw [if_neg q1]
  rintro e6 w8 ⟨he6, hst8⟩; clear hrc hst7 hb5; obtain ⟨rsp, rcap, hrc, -⟩ := hst8.rs.ex
  -- what is told
  have hout : match readV true l with
      | .ok y _ => e6 = 0 ∧ x = y
      | .bad _ => e6 ≠ 0 := by
    have h3 := ho3.ok rfl; unfold readV; cases hq : rdV 16 l with
    | bad z =>
      rw [hq] at h3; obtain ⟨rfl, hz⟩ := h3; rw [if_neg hz] at he4; subst he4; rw [if_neg hz] at he5; subst he5; rw [if_neg hz] at he6; subst he6; exact hz
    | ok y q =>
      rw [hq] at h3; obtain ⟨rfl, rfl, rfl⟩ := h3; rw [if_pos rfl] at he4; simp only
      by_cases hc : chk 16 x = 0
      · rw [if_neg (by simpa using hc)]
        rw [he4, if_pos hc] at he5
        by_cases h1 : 0 < l3.length
        · rw [if_pos h1] at he5
          rw [if_pos ⟨trivial, h1⟩]; rw [he5] at he6; simp at he6
          show e6 ≠ 0
          omega
        · rw [if_neg h1] at he5
          rw [if_neg (fun q => h1 q.2)]; rw [he5, if_pos rfl] at he6
          by_cases h2 : 65536 < l.length - l3.length
          · rw [if_pos h2]
            rw [if_pos (by omega)] at he6
            show e6 ≠ 0
            omega
          · rw [if_neg h2]
            rw [if_neg (by omega)] at he6; exact ⟨he6, rfl⟩
      · rw [if_pos hc]
        rw [he4, if_neg hc] at he5; rw [he5, if_neg hc] at he6
        show e6 ≠ 0
        rw [he6]; exact hc
  refine K.kgo ?_; refine WL.load rfl rfl rfl rfl rfl rfl (hrc.cell 1 (by simp)) ?_
  by_cases h6 : e6 = 0
  · refine K.kgo ?_
    refine WL.loadMid rfl rfl rfl rfl rfl rfl (VBlk.rangeAt hst8.xblk) hcs ?_; refine WL.storeRow rfl rfl rfl rfl rfl rfl hst8.vblk hcs rfl hst8.val.one ?_; refine K.kgo ?_; have hset : Keep (fun b => b ≠ vb) w8 (w8.setRow vb cs.toArray) := Keep.setRow (Keep.refl _ w8) (fun hk => hk rfl) _; refine WQ.retCT rfl rfl rfl rfl hcs (hst8.vblk.setRow cs) ⟨Keep.below (Keep.setRow (Keep.of_below hst8.below) (fun hk => by omega) _), x, cs, 0, rfl, (hst8.val.keep hset (fun b hb _ => hb.2.2) fun b hb => hb.1), ?_⟩; cases hq : readV true l with
    | ok y q => rw [hq] at hout; exact ⟨hout.2, rfl⟩
    | bad z => rw [hq] at hout; exact absurd h6 hout
  · refine K.kgo ?_
    refine WC.drawn 6 (fun wx => VBlk 204 wx rb [.slice rsp l3.length rcap, .int .i64 e6]) fun w9 hd9 => ?_; have hst9 := hst8.step (hd9.below _); have hS : VBlk 204 w9 rb [.slice rsp l3.length rcap, .int .i64 e6] := hrc.below (hd9.below _) hrc.lt; refine WD.build zCells 0 rfl (by kernel_rfl) rfl rfl (fun _ _ _ _ _ h => h) rfl rfl rfl (by kernel_rfl) (.inr hS) ?_; refine K.fr [1, 2, 3] hS ?_; refine K.wl 4 [6] rfl rfl rfl rfl rfl rfl rfl (fun wx hx => hx.cell 1 (by simp)) hS ?_; refine K.wo 5 ?_; refine WL.storeRow rfl rfl rfl rfl rfl rfl hst9.vblk rfl rfl (zV_is (fun _ => True) 0 w9).one ?_; have hne2 := hst9.ne; have hS2 : VBlk 204 (w9.setRow vb zCells.toArray) rb [.slice rsp l3.length rcap, .int .i64 e6] := hS.setRow_other _ (by omega); have hvb2 := hst9.vblk.setRow zCells; have hbel2 : Below w.heap.size w (w9.setRow vb zCells.toArray) := Keep.below (Keep.setRow (Keep.of_below hst9.below) (fun hk => by omega) _); generalize w9.setRow vb zCells.toArray = w10 at hS2 hvb2 hbel2; refine K.di hS2 ?_; refine K.wo 6 ?_; refine WL.pure rfl rfl rfl rfl ?_; refine K.dl ?_; refine WD.done (by kernel_rfl) ?_; refine K.kgo ?_; refine WQ.retCT rfl rfl rfl rfl rfl hvb2 ⟨hbel2, zV, zCells, e6, rfl, zV_is _ _ _, ?_⟩; cases hq : readV true l with
    | ok y q => rw [hq] at hout; exact absurd hout.1 h6
    | bad z => exact h6
end K
end Go.Proofs.YtpfkcfaifleliaaGreat

namespace Go.Proofs.YtpfkcfaifleliaaGreat
open Go.RowKit
namespace K
structure WR (B : Nat) (w : World) (rb : Nat) (l : List Int) : Prop where
  rlt : rb < B
  byt : Byt l
  ex : ∃ sp cap, VBlk 155 w rb [.slice sp l.length cap, .bool false] ∧ SlB (fun b => b < B ∧ b ≠ rb) w (.slice sp l.length cap) l
theorem WR.keep {B : Nat} {w w' : World} {rb : Nat} {l : List Int} (h : WR B w rb l) {K : Nat → Prop} (hk : Keep K w w') (hK : ∀ b, b < B → K b) : WR B w' rb l := by
  obtain ⟨sp, cap, h1, h2⟩ := h.ex; exact ⟨h.rlt, h.byt, sp, cap, h1.keep hk (hK _ h.rlt), h2.keep hk fun b hb => hK b hb.1⟩
theorem WR.setL {B : Nat} {w : World} {rb : Nat} {l l' : List Int} {v' : Value} (h : WR B w rb l) (hb : Byt l') (hv : SlB (fun b => b < B ∧ b ≠ rb) w v' l') : WR B (w.setCell ⟨rb, 0, none⟩ v') rb l' := by
  obtain ⟨sp, cap, h1, h2⟩ := h.ex; obtain ⟨sp', cap', rfl, -⟩ := hv.sl; exact ⟨h.rlt, hb, sp', cap', h1.set 0 (.slice sp' l'.length cap'), hv.keep (K := fun b => b ≠ rb) ((Keep.refl _ w).setCell (fun hk => hk rfl) _) fun b hb => hb.2⟩
section
variable {n : NN} {Q : Exit → Act → World → Prop} {l : Env} {w w' : World} {ops : Array Oper} {o : Oper} {rest : List Oper} {d : Nat}
theorem WL.uptoW {O : Nat → Prop} {t e : Nat} {x hi : Operand} {v : Value} {kk : IntKind} {z : Int} {zs : List Int} {w0 : World} (hg : o.guard = none) (hd : o.dst = some d) (hn : Nat.blt d n.n = true) (ho : o.op = .slice t x none (some hi) none) (ht : tyOf ty t = some (.slice e 1))
    (hx : evl l x = some v) (hhi : evl l hi = some (.int kk z)) (h0 : 0 ≤ z) (h1 : z ≤ zs.length) (hs : SlB O w0 v zs) (h : ∀ v', SlB O w0 v' (zs.take z.toNat) → WL n ops Q rest ((d, v') :: l) w) : WL n ops Q (o :: rest) l w := by
  have hs0 := hs.sl; have hlt := hs.lt; obtain ⟨sp, cap, rfl, hc, hm, hr, hn0⟩ := hs.sl; refine WL.step hg hd hn (v := sliced sp 0 z.toNat cap 1) (fun a ha => ?_) (h _ ⟨sl_to hs0 (by omega), fun hl0 b o s m c e => ?_⟩)
  · obtain ⟨hu, hsz⟩ := TyOk.of tyOk ht
    have he : Tryz.prog.elem t = e := by simp [Program.elem, hu]
    have hu' : Tryz.prog.underlying t = some (.slice (Tryz.prog.elem t)) := by rw [he]; exact hu
    have hs : (sizeOf e).run Tryz.prog w = .ok 1 w := by
      cases hq : Tryz.prog.info? e with
      | none => rw [hq] at hsz; cases hsz
      | some q => rw [hq] at hsz; simp at hsz; simp [sizeOf, typeInfo, hq, hsz]
    unfold execOp; rw [ho]; simp [ha.eval hx, ha.eval hhi, run_sliceAt_slice w t _ _ _ _ hu', run_slice_h w t sp zs.length cap hu' kk z h0 (by omega), he, hs]
  · unfold sliced at e
    injection e with e1 _ _
    cases sp with
    | none => split at e1 <;> cases e1
    | some p =>
      obtain ⟨pb, po, ps⟩ := p; have := hlt (by rw [List.length_take] at hl0; omega) pb po ps _ _ rfl
      split at e1
      · cases e1; exact this
      · have e2 := congrArg (fun q => q.map Addr.block) e1
        have e3 : ((⟨pb, po, ps⟩ : Addr).add (0 * 1)).block = pb := by unfold Addr.add; split <;> rfl
        simp only [Option.map_some, Option.some.injEq, e3] at e2; rw [← e2]; exact this
end
variable {B rb : Nat} {w : World}
theorem wnumber_any {n : Nat} {r : List Int} (h : WR B w rb (uvB n ++ r)) (hn : n < 18446744073709551616) :
    Calls Tryz.prog 87 #[.pointer (some ⟨rb, 0, none⟩)] w fun e w' => e = .returned (.int .u64 (n : Int)) ∧ WR B w' rb r ∧ KeepR rb w w' := by
  refine enter (args := [.pointer (some ⟨rb, 0, none⟩)]) Tryz.func87 rfl Tryz.ntmps87 rfl ?_; obtain ⟨sp, cap, h1, h2⟩ := h.ex; have hrd := rdU_enc hn r; have hru : ruV (uvB n ++ r) = [.int .u64 (n : Nat), .int .i64 (((uvB n ++ r).length - r.length : Nat) : Int), .int .i64 0] := by unfold ruV; rw [hrd]
  have hbr : Byt r := fun c hc => h.byt c (List.mem_append.2 (.inr hc)); have hdr : (uvB n ++ r).drop ((((uvB n ++ r).length - r.length : Nat) : Int).toNat) = r := by
    rw [List.length_append, Int.toNat_natCast, show (uvB n).length + r.length - r.length = (uvB n).length by omega]; exact List.drop_left' rfl
  have hle : (uvB n ++ r).length - r.length ≤ (uvB n ++ r).length := by omega
  generalize (uvB n ++ r).length - r.length = k at hru hdr hle; refine K.kgo ?_; refine WL.load rfl rfl rfl rfl rfl rfl (h1.cell 1 (by simp)) ?_; refine K.kgo ?_; refine WL.load rfl rfl rfl rfl rfl rfl (h1.cell 0 (by simp)) ?_; refine WL.call rfl rfl rfl rfl rfl Tryz.func119 rfl (by kernel_rfl) (readUvarint_any h2.sl h.byt) ?_; rintro _ _ ⟨rfl, rfl⟩; refine ⟨_, rfl, ?_⟩; rw [hru]; refine K.kgo ?_; refine WL.load rfl rfl rfl rfl rfl rfl (h1.cell 0 (by simp)) ?_; refine K.kgo ?_; refine WL.fromB (z := (k : Int)) rfl rfl rfl rfl rfl rfl rfl (by omega) (by omega) h2 fun v' hv' => ?_; rw [hdr] at hv'; have hv : v'.oneCell' = true := by obtain ⟨_, _, rfl, -⟩ := hv'.sl; rfl
  refine K.kgo ?_; refine WL.store rfl rfl rfl rfl rfl hv (by kernel_rfl) (h1.cell 0 (by simp)) (h1.free 0) ?_; refine K.kgo ?_; exact WQ.ret1 rfl rfl ⟨rfl, h.setL hbr hv', KeepR.set _ _ _ _⟩
theorem wupTo_any {n most : Nat} {r : List Int} (h : WR B w rb (uvB n ++ r)) (hn : n ≤ most) (hm : most ≤ 9007199254740992) :
    Calls Tryz.prog 55 #[.pointer (some ⟨rb, 0, none⟩), .int .i64 (most : Int)] w fun e w' => e = .returned (.int .i64 (n : Int)) ∧ WR B w' rb r ∧ KeepR rb w w' := by
  refine enter (args := [.pointer (some ⟨rb, 0, none⟩), .int .i64 (most : Int)]) Tryz.func55 rfl Tryz.ntmps55 rfl ?_; have hw64 : IntKind.u64.wrap (most : Int) = (most : Int) := wraps_u64 _ (by omega) (by omega); refine K.kgo ?_; refine WL.call rfl rfl rfl rfl rfl Tryz.func87 rfl (by kernel_rfl) (wnumber_any h (by omega)) ?_; rintro _ w2 ⟨rfl, h2, k2⟩; refine ⟨_, rfl, ?_⟩; refine K.kgo ?_; exact WQ.ret1 rfl rfl ⟨rfl, h2, k2⟩
theorem wtake_any {k : Nat} {A r : List Int} (h : WR B w rb (A ++ r)) (hk : A.length = k) (hs : k ≤ 9007199254740992) :
    Calls Tryz.prog 58 #[.pointer (some ⟨rb, 0, none⟩), .int .i64 (k : Int)] w fun e w' => ∃ v, e = .returned v ∧ SlB (fun b => b < B ∧ b ≠ rb) w' v A ∧ WR B w' rb r ∧ KeepR rb w w' := by
  refine enter (args := [.pointer (some ⟨rb, 0, none⟩), .int .i64 (k : Int)]) Tryz.func58 rfl Tryz.ntmps58 rfl ?_; obtain ⟨sp, cap, h1, h2⟩ := h.ex; have hbr : Byt r := fun c hc => h.byt c (List.mem_append.2 (.inr hc)); have hdr : (A ++ r).drop k = r := by rw [← hk]; exact List.drop_left' rfl
  have htk : (A ++ r).take k = A := by rw [← hk]; exact List.take_left' rfl
  have hle : k ≤ (A ++ r).length := by rw [List.length_append]; omega
  refine K.kgo ?_; refine WL.load rfl rfl rfl rfl rfl rfl (h1.cell 1 (by simp)) ?_; refine K.kgo ?_; refine WL.load rfl rfl rfl rfl rfl rfl (h1.cell 0 (by simp)) ?_; refine K.kgo ?_; refine WL.load rfl rfl rfl rfl rfl rfl (h1.cell 0 (by simp)) ?_; refine K.kgo ?_; refine WL.uptoW (z := (k : Int)) rfl rfl rfl rfl rfl rfl rfl (by omega) (by omega) h2 fun v1 hv1 => ?_; rw [Int.toNat_natCast, htk] at hv1; refine K.kgo ?_; refine WL.load rfl rfl rfl rfl rfl rfl (h1.cell 0 (by simp)) ?_; refine K.kgo ?_; refine WL.fromB (z := (k : Int)) rfl rfl rfl rfl rfl rfl rfl (by omega) (by omega) h2 fun v' hv' => ?_; rw [Int.toNat_natCast, hdr] at hv'; have hv : v'.oneCell' = true := by obtain ⟨_, _, rfl, -⟩ := hv'.sl; rfl
  refine K.kgo ?_; refine WL.store rfl rfl rfl rfl rfl hv (by kernel_rfl) (h1.cell 0 (by simp)) (h1.free 0) ?_; refine K.kgo ?_; refine WQ.ret1 rfl rfl ⟨v1, rfl, hv1.keep (K := fun b => b ≠ rb) ((Keep.refl _ w).setCell (fun hk => hk rfl) _) fun b hb => hb.2, h.setL hbr hv', KeepR.set _ _ _ _⟩
theorem wbyte_any {c : Int} {r : List Int} (h : WR B w rb (c :: r)) :
    Calls Tryz.prog 54 #[.pointer (some ⟨rb, 0, none⟩)] w fun e w' => e = .returned (.int .u8 c) ∧ WR B w' rb r ∧ KeepR rb w w' := by
  refine enter (args := [.pointer (some ⟨rb, 0, none⟩)]) Tryz.func54 rfl Tryz.ntmps54 rfl ?_; refine K.kgo ?_; refine WL.call rfl rfl rfl rfl rfl Tryz.func58 rfl (by kernel_rfl) (wtake_any (k := 1) (A := [c]) (r := r) h rfl (by omega)) ?_; rintro _ w2 ⟨v, rfl, hv, h2, k2⟩; refine ⟨_, rfl, ?_⟩; obtain ⟨sp, cap, rfl, -⟩ := id hv.sl; refine K.kgo ?_; refine WL.idxI 0 rfl rfl rfl rfl rfl rfl hv.sl rfl rfl (by simp) fun p hp => ?_; refine K.kgl ?_; exact WQ.ret1 rfl rfl ⟨rfl, h2, k2⟩
end K
end Go.Proofs.YtpfkcfaifleliaaGreat

namespace Go.Proofs.YtpfkcfaifleliaaGreat
open Go.RowKit
namespace K
theorem elemI1 : ElemV Tryz.prog 45 3 1 8 := ElemV.mk' (z := .int .i64 0) Tryz.underlying45 (by kernel_rfl) rfl (by omega)
def intP (x : Int) (cs : List Value) : Prop := cs = [.int .i64 x]
theorem intP_sl {O : Nat → Prop} {w : World} {v : Value} {l : List Int} (h : Els 1 0 intP O w v l) : Sl .i64 w v l := by
  obtain ⟨sp, cap, h1, h2, h3, h4, h5⟩ := h; refine ⟨sp, cap, h1, h2, h3, fun h0 => ?_, h4⟩; obtain ⟨b, o, e, hb, -, hr⟩ := h5 h0; refine ⟨b, o, e, hb, fun j hj => ?_⟩; obtain ⟨cs, -, hp, hat⟩ := hr j hj; unfold intP at hp; subst hp; have := hat 0 _ rfl; rw [Nat.mul_one, Nat.add_zero] at this; rw [this]
  rfl
theorem nmB_drop {l : List Int} {i : Nat} (hi : i < l.length) : nmB (l.drop i) = uvB (zig (nth l i)) ++ nmB (l.drop (i + 1)) := by
  unfold nmB nth; rw [List.drop_eq_getElem_cons hi, List.flatMap_cons]; simp [hi]
theorem vlB_drop {l : List V} {i : Nat} (hi : i < l.length) : vlB (l.drop i) = uvB (encV 16 (l.getD i noV)).length ++ (encV 16 (l.getD i noV) ++ vlB (l.drop (i + 1))) := by
  unfold vlB; rw [List.drop_eq_getElem_cons hi, List.flatMap_cons]; simp [hi]
theorem snoc_take {α : Type} (l : List α) (z : α) {i : Nat} (h : i < l.length) : l.take (i + 1) = l.take i ++ [l.getD i z] := by rw [List.take_add_one]; simp [h]
variable {B rb : Nat} {w : World}
theorem WR.setF {l : List Int} (h : WR B w rb l) : WR B (w.setCell ⟨rb, 1, none⟩ (.bool false)) rb l := by
  obtain ⟨sp, cap, h1, h2⟩ := h.ex; exact ⟨h.rlt, h.byt, sp, cap, h1.set 1 (.bool false), h2.keep (K := fun b => b ≠ rb) ((Keep.refl _ w).setCell (fun hk => hk rfl) _) fun b hb => hb.2⟩
set_option maxHeartbeats 1000000 in
theorem wnums_any {nums r : List Int} (h : WR B w rb (uvB nums.length ++ (nmB nums ++ r))) (hB : B ≤ w.heap.size) (h8 : nums.length ≤ 8) (h64 : R64w nums) :
    Calls Tryz.prog 56 #[.pointer (some ⟨rb, 0, none⟩)] w fun e w' => ∃ v, e = .returned v ∧ OwnE 3 1 0 intP (fun b => w.heap.size ≤ b) w' v nums ∧ WR B w' rb r ∧ KeepR rb w w' := by
  refine enter (args := [.pointer (some ⟨rb, 0, none⟩)]) Tryz.func56 rfl Tryz.ntmps56 rfl ?_; have hrB := h.rlt; refine K.kgo ?_; refine WL.call rfl rfl rfl rfl rfl Tryz.func55 rfl (by kernel_rfl) (wupTo_any (most := 8) h h8 (by omega)) ?_; rintro _ w1 ⟨rfl, h1, k1⟩; refine ⟨_, rfl, ?_⟩; refine K.kgo ?_; refine WC.loop (fun i : Nat × Value => [(0, .pointer (some ⟨rb, 0, none⟩)), (3, i.2), (5, .int .i64 nums.length), (6, .int .i64 i.1)])
    (fun i wr => i.1 ≤ nums.length ∧ WR B wr rb (nmB (nums.drop i.1) ++ r) ∧ OwnE 3 1 0 intP (fun b => w.heap.size ≤ b) wr i.2 (nums.take i.1) ∧ KeepR rb w wr) (fun i => nums.length - i.1) (0, .slice none 0 0) ⟨rfl, rfl, rfl, rfl, trivial⟩
    ⟨Nat.zero_le _, h1, OwnE.nil _ _ _ _ _ _, k1⟩ ?_
  rintro ⟨i, v⟩ wr ⟨hi, hr, ho, hk⟩; simp only at hi hr ho hk ⊢
  by_cases hik : i < nums.length
  · have hn := h64 _ (nth_mem' nums i hik)
    have hzl := zig_lt hn; rw [nmB_drop hik, List.append_assoc] at hr; refine K.kgo ?_; refine WL.call rfl rfl rfl rfl rfl Tryz.func87 rfl (by kernel_rfl) (wnumber_any hr hzl) ?_; rintro _ w2 ⟨rfl, h2, k2⟩; refine ⟨_, rfl, ?_⟩; refine WL.call rfl rfl rfl rfl rfl Tryz.func88 rfl (by kernel_rfl) (zag_any _ hzl w2) ?_; rintro _ _ ⟨rfl, rfl⟩; refine ⟨_, rfl, ?_⟩; rw [zag_zig]; have ho2 := ho.keep (P' := intP) (O' := fun b => w.heap.size ≤ b) k2 (fun g hg => ⟨ho.lt hg, by have := ho.own hg; omega⟩) (fun _ h => h) fun _ _ h => h; refine WL.lit1 (cs := [.int .i64 (nth nums i)]) rfl rfl rfl rfl rfl rfl rfl rfl ⟨by omega, by omega⟩ (by kernel_rfl) fun g7 w7 hf7 => ?_; have hz7 := hf7.size; have k7 := hf7.below; have h7 := h2.keep (Keep.of_below k7) fun b hb => by have := k2.size; have := hk.size; omega
    have ho7 := ho2.keep (P' := intP) (O' := fun b => w.heap.size ≤ b) (Keep.of_below k7) (fun g hg => ho2.lt hg) (fun _ h => h) fun _ _ h => h; have hlt : (nums.take i).length ≤ i := by rw [List.length_take]; omega
    refine WL.snoc (y := nth nums i) rfl rfl rfl rfl elemI1 rfl ho7 rfl hf7.blk (by intro u hu; simp at hu; rw [hu]; rfl) rfl rfl (by omega) (by omega) fun v8 w8 ho8 hg8 => ?_; have k27 : KeepR rb w w7 := (hk.trans k2).trans (KeepR.below k7); have hzw := k27.size; refine K.kgo ?_; refine WQ.again (i + 1, v8) ⟨rfl, rfl, rfl, rfl, trivial⟩ ⟨by show i + 1 ≤ nums.length; omega, h7.keep hg8.1 (fun b hb => ⟨by omega, fun e => by have := ho7.own e; omega⟩), ?_, ?_⟩ (by show nums.length - (i + 1) < nums.length - i; omega)
    · show OwnE _ _ _ _ _ _ _ (nums.take (i + 1))
      rw [take_succ' nums i hik]; exact ho8.keep (Keep.refl (fun _ => True) w8) (fun _ _ => trivial) (fun b hb => by omega) fun _ _ h => h
    · exact Keep.trans k27 (hg8.1.mono fun b hb => ⟨by have := hb.1; omega, fun e => by have := ho7.own e; have := hb.1; omega⟩)
  · obtain rfl : i = nums.length := by omega
    rw [List.drop_length] at hr; rw [List.take_length] at ho; refine K.kgo ?_; exact WQ.ret1 rfl rfl ⟨v, rfl, ho, hr, hk⟩
def Backs (l : List V) : Prop := ∀ v ∈ l, readV true (encV 16 v) = .ok v [] ∧ Byt (encV 16 v) ∧ (encV 16 v).length ≤ 65536
set_option maxHeartbeats 2000000 in
theorem wreadvals_any {l : List V} {r : List Int} {most : Nat} (h : WR B w rb (uvB l.length ++ (vlB l ++ r))) (hB : B ≤ w.heap.size) (hm : l.length ≤ most) (hmm : most ≤ 1000000) (hl : Backs l) :
    Calls Tryz.prog 57 #[.pointer (some ⟨rb, 0, none⟩), .int .i64 (most : Int)] w fun e w' => ∃ v, e = .returned v ∧ (∃ q : Nat → Prop, OwnE 82 6 noV (IsVo q 17 w') (fun b => w.heap.size ≤ b) w' v l ∧ ∀ b, q b → w.heap.size ≤ b ∧ b < w'.heap.size) ∧ WR B w' rb r ∧ KeepR rb w w' := by
  refine enter (args := [.pointer (some ⟨rb, 0, none⟩), .int .i64 (most : Int)]) Tryz.func57 rfl Tryz.ntmps57 rfl ?_; have hrB := h.rlt; refine K.kgo ?_; refine WL.call rfl rfl rfl rfl rfl Tryz.func55 rfl (by kernel_rfl) (wupTo_any (most := most) h hm (by omega)) ?_; rintro _ w1 ⟨rfl, h1, k1⟩; refine ⟨_, rfl, ?_⟩; refine K.kgo ?_; refine WC.loop (fun i : Nat × Value => [(0, .pointer (some ⟨rb, 0, none⟩)), (5, i.2), (10, .int .i64 l.length), (11, .int .i64 i.1)])
    (fun i wr => i.1 ≤ l.length ∧ WR B wr rb (vlB (l.drop i.1) ++ r) ∧ (∃ q : Nat → Prop, OwnE 82 6 noV (IsVo q 17 wr) (fun b => w.heap.size ≤ b) wr i.2 (l.take i.1) ∧ ∀ b, q b → w.heap.size ≤ b ∧ b < wr.heap.size ∧ i.2.ownBlock ≠ some b) ∧ KeepR rb w wr) (fun i => l.length - i.1) (0, .slice none 0 0) ⟨rfl, rfl, rfl, rfl, trivial⟩
    ⟨Nat.zero_le _, h1, ⟨fun _ => False, OwnE.nil _ _ _ _ _ _, fun b h => h.elim⟩, k1⟩ ?_
  rintro ⟨i, v⟩ wr ⟨hi, hr, ⟨q, ho, hq⟩, hk⟩; simp only at hi hr ho hq hk ⊢
  by_cases hik : i < l.length
  · have hmem : l.getD i noV ∈ l := by rw [List.getD_eq_getElem?_getD, List.getElem?_eq_getElem hik]; exact List.getElem_mem hik
    obtain ⟨hrd, hby, h65⟩ := hl _ hmem; have htk := snoc_take l noV hik; rw [vlB_drop hik, List.append_assoc, List.append_assoc] at hr; generalize l.getD i noV = x at hmem hrd hby h65 htk hr; have hzr := hk.size; refine K.kgo ?_; refine WL.call rfl rfl rfl rfl rfl Tryz.func55 rfl (by kernel_rfl) (wupTo_any (most := 65536) hr h65 (by omega)) ?_; rintro _ w2 ⟨rfl, h2, k2⟩; refine ⟨_, rfl, ?_⟩; refine WL.call rfl rfl rfl rfl rfl Tryz.func58 rfl (by kernel_rfl) (wtake_any (k := (encV 16 x).length) (A := encV 16 x) h2 rfl (by omega)) ?_; rintro _ w3 ⟨tv, rfl, htv, h3, k3⟩; refine ⟨_, rfl, ?_⟩; refine WL.call rfl rfl rfl rfl rfl Tryz.func89 rfl (by kernel_rfl) (decode_any htv.sl hby (by omega)) ?_; rintro _ w4 ⟨k4, y, cs, e4, rfl, hv4, hm4⟩; refine ⟨_, rfl, ?_⟩; rw [hrd] at hm4; obtain ⟨rfl, rfl⟩ := hm4; have hz2 := k2.size; have hz3 := k3.size; have hz4 := k4.size; have kr4 : KeepR rb wr w4 := (k2.trans k3).trans (KeepR.below k4); have h4 := h3.keep (Keep.of_below k4) fun b hb => by omega
    have hc6 := hv4.len; refine K.kgo ?_; refine WL.alloc (z := .agg zCells.toArray) rfl rfl rfl rfl (fun _ => by kernel_rfl) fun g5 w5 hf5 => ?_; have hf5' : Fresh w4 g5 w5 82 zCells := hf5; clear hf5; have hg5 := hf5'.eq; have hz5 := hf5'.size; refine K.kgo ?_; refine WL.storeRow rfl rfl rfl rfl rfl rfl hf5'.blk hc6 (by rfl) hv4.one ?_; have k6 : Below w4.heap.size w4 (w5.setRow g5 cs.toArray) := below_setRow hf5'.below (by rw [hg5]; exact Nat.le_refl _) _; have T6 := hf5'.blk.setRow cs; have hz6 : (w5.setRow g5 cs.toArray).heap.size = w5.heap.size := by simp
    generalize w5.setRow g5 cs.toArray = w6 at k6 T6 hz6 ⊢; clear hf5'; have h6 := h4.keep (Keep.of_below k6) fun b hb => by omega
    obtain ⟨sp6, cap6, hb6, -⟩ := h6.ex; refine K.kgo ?_; refine WL.load rfl rfl rfl rfl rfl rfl (hb6.cell 1 (by simp)) ?_; refine K.kgo ?_; refine WL.store rfl rfl rfl rfl rfl rfl (by kernel_rfl) (hb6.cell 1 (by simp)) (hb6.free 1) ?_; have h7 := h6.setF; have hset : Keep (fun b => b ≠ rb) w6 (w6.setCell ⟨rb, 1, none⟩ (.bool false)) := (Keep.refl _ w6).setCell (fun hk => hk rfl) _; have T7 : VBlk 82 (w6.setCell ⟨rb, 1, none⟩ (.bool false)) g5 cs := T6.other _ _ (by show g5 ≠ rb; omega); have kr6 : KeepR rb w4 (w6.setCell ⟨rb, 1, none⟩ (.bool false)) := (KeepR.below k6).trans (KeepR.set _ _ _ _); have hz7 : (w6.setCell ⟨rb, 1, none⟩ (.bool false)).heap.size = w6.heap.size := by simp
    generalize w6.setCell ⟨rb, 1, none⟩ (.bool false) = w7 at h7 hset T7 kr6 hz7 ⊢; obtain ⟨sp7, cap7, hb7, -⟩ := h7.ex; refine K.kgo ?_; refine WL.load rfl rfl rfl rfl rfl rfl (hb7.cell 1 (by simp)) ?_; refine K.kgo ?_; refine WL.loadMid rfl rfl rfl rfl rfl rfl (VBlk.rangeAt T7) hc6 ?_; refine WL.lit1 rfl rfl rfl rfl rfl rfl rfl hc6 ⟨by omega, by omega⟩ (by kernel_rfl) fun g8 w8 hf8 => ?_; have hz8 := hf8.size; have kr8 : KeepR rb wr w8 := (kr4.trans kr6).trans (KeepR.below hf8.below); have h8 := h7.keep (Keep.of_below hf8.below) fun b hb => by omega
    have hrB' : rb < w.heap.size := by omega
    have ho8 : OwnE 82 6 noV (IsVo (fun b => q b ∨ (w3.heap.size ≤ b ∧ b < w4.heap.size)) 17 w8) (fun b => w.heap.size ≤ b) w8 v (l.take i) :=
      ho.keep kr8 (fun g hg => ⟨ho.lt hg, by have := ho.own hg; omega⟩) (fun _ h => h) fun x cs hx => hx.keep kr8 (fun b hb _ => ⟨(hq b hb).2.1, by have := (hq b hb).1; omega⟩) fun b hb => .inl hb
    have kr48 : KeepR rb w4 w8 := kr6.trans (KeepR.below hf8.below); have hv8 : IsVo (fun b => q b ∨ (w3.heap.size ≤ b ∧ b < w4.heap.size)) 17 w8 y cs := hv4.there.keep kr48 (fun b hb _ => ⟨hb.2, by have := hb.1; omega⟩) fun b hb => .inr hb; have hlt : (l.take i).length ≤ i := by rw [List.length_take]; omega
    refine WL.snoc rfl rfl rfl rfl elemV6 rfl ho8 rfl hf8.blk hv4.one hc6 hv8 (by omega) (by omega) fun v9 w9 ho9 hg9 => ?_; have hz9 := hg9.1.size; have hq9 : ∀ b, (q b ∨ (w3.heap.size ≤ b ∧ b < w4.heap.size)) → w.heap.size ≤ b ∧ b < w8.heap.size ∧ v.ownBlock ≠ some b := fun b hb => hb.elim (fun h => by
        obtain ⟨h1, h2, h3⟩ := hq b h; exact ⟨h1, by omega, h3⟩) fun h => ⟨by omega, by omega, fun e => by have := ho.lt e; omega⟩
    refine K.kgo ?_; refine WQ.again (i + 1, v9) ⟨rfl, rfl, rfl, rfl, trivial⟩ ⟨by show i + 1 ≤ l.length; omega, h8.keep hg9.1 (fun b hb => ⟨by omega, fun e => by have := ho8.own e; omega⟩), ⟨(fun b => q b ∨ (w3.heap.size ≤ b ∧ b < w4.heap.size)), ?_, fun b hb => ?_⟩, ?_⟩ (by show l.length - (i + 1) < l.length - i; omega)
    · show OwnE _ _ _ _ _ _ _ (l.take (i + 1))
      rw [htk]; exact ho9.keep (Keep.refl (fun _ => True) w9) (fun _ _ => trivial) (fun b hb => by omega) fun x cs hx => hx.keep hg9.1 (fun b hb _ => (hq9 b hb).2) fun b hb => hb
    · obtain ⟨e1, e2, e3⟩ := hq9 b hb
      exact ⟨e1, by omega, fun e => (hg9.2 b e).elim e3 fun h4 => by omega⟩
    · exact Keep.trans (hk.trans kr8) (hg9.1.mono fun b hb => ⟨by have := hb.1; have := kr8.size; omega, fun e => by have := ho8.own e; have := hb.1; omega⟩)
  · obtain rfl : i = l.length := by omega
    rw [List.drop_length] at hr; rw [List.take_length] at ho; refine K.kgo ?_; exact WQ.ret1 rfl rfl ⟨v, rfl, ⟨q, ho, fun b hb => ⟨(hq b hb).1, (hq b hb).2.1⟩⟩, hr, hk⟩
end K
end Go.Proofs.YtpfkcfaifleliaaGreat

namespace Go.Proofs.YtpfkcfaifleliaaGreat
namespace K
abbrev Ro := Option (List Int)
def qU : Ro → Nat × Ro
  | none => (0, none)
  | some l => match rdU l with | .ok u r => (u, some r) | .bad _ => (0, none)
def qUp (most : Nat) (o : Ro) : Nat × Ro := if most < (qU o).1 then (0, none) else qU o
def qT (n : Nat) : Ro → List Int × Ro
  | none => ([], none)
  | some l => if l.length < n then ([], none) else (l.take n, some (l.drop n))
def qNs : Nat → Ro → List Int × Ro
  | 0, o => ([], o)
  | n + 1, o => (zag (qU o).1 :: (qNs n (qU o).2).1, (qNs n (qU o).2).2)
def qNums (o : Ro) : List Int × Ro := qNs (qUp 8 o).1 (qUp 8 o).2
def qV (o : Ro) : Option (V × List Int) := match (qT (qUp 65536 o).1 (qUp 65536 o).2).2 with
  | none => none
  | some r => match readV true (qT (qUp 65536 o).1 (qUp 65536 o).2).1 with | .ok v _ => some (v, r) | .bad _ => none
def qVs : Nat → Ro → Option (List V × List Int)
  | 0, none => none
  | 0, some l => some ([], l)
  | n + 1, o => match qV o with | none => none | some (v, r) => match qVs n (some r) with | none => none | some (vs, r2) => some (v :: vs, r2)
def qVals (most : Nat) (o : Ro) : Option (List V × List Int) := qVs (qUp most o).1 (qUp most o).2
def qM (m : Int) : List Int → Ro
  | a :: _ :: r => if a = m then some r else none
  | _ => none
def rdRq (P : List Int) : Option Rq :=
  match qVals 40 (qT (qUp 4096 (qNums (qUp 9007199254740992 (qM 81 P)).2).2).1 (qUp 4096 (qNums (qUp 9007199254740992 (qM 81 P)).2).2).2).2 with
  | none => none
  | some (vs, r) => if r.length = 32 ∧ 1 ≤ nth P 1 ∧ nth P 1 ≤ 20 then
      some ⟨nth P 1, (qUp 9007199254740992 (qM 81 P)).1, (qNums (qUp 9007199254740992 (qM 81 P)).2).1, strOfNums (qT (qUp 4096 (qNums (qUp 9007199254740992 (qM 81 P)).2).2).1 (qUp 4096 (qNums (qUp 9007199254740992 (qM 81 P)).2).2).2).1, vs, r⟩ else none
theorem qT_ok {n : Nat} {o : Ro} {t r : List Int} (h : qT n o = (t, some r)) : o = some (t ++ r) ∧ t.length = n := by
  cases o with
  | none => simp [qT] at h
  | some l =>
    replace h : (if l.length < n then ([], none) else (l.take n, some (l.drop n))) = (t, some r) := h
    split at h
    · simp at h
    · rename_i hl
      simp only [Prod.mk.injEq, Option.some.injEq] at h; obtain ⟨rfl, rfl⟩ := h; exact ⟨by rw [List.take_append_drop], by rw [List.length_take]; omega⟩
theorem qUp_none (m : Nat) : qUp m none = (0, none) := by
  unfold qUp; rw [if_neg (show ¬ m < (qU none).1 by show ¬ m < 0; omega)]
  rfl
theorem qNums_none : qNums none = ([], none) := by
  unfold qNums; rw [qUp_none]
  rfl
theorem qVals_none (m : Nat) : qVals m none = none := by
  unfold qVals; rw [qUp_none]
  rfl
theorem be4_split {l : List Int} (hl : 4 ≤ l.length) (hb : Byt l) : l = Crc.be4 (Crc.num4 l) ++ l.drop 4 := by
  match l, hl with
  | a :: b :: c :: d :: r, _ =>
    have := (Crc.be4_num4 (hb a (by simp)) (hb b (by simp)) (hb c (by simp)) (hb d (by simp)) r).1; rw [this]
    rfl
end K
end Go.Proofs.YtpfkcfaifleliaaGreat

namespace Go.Proofs.YtpfkcfaifleliaaGreat
open Go.RowKit
namespace K
section
variable {B rb : Nat} {w w' : World} {o : Ro}
theorem qU_lt (h : ∀ l, o = some l → Byt l) : (qU o).1 < 18446744073709551616 := by
  cases o with
  | none => show 0 < _; omega
  | some l =>
    show (match rdU l with | .ok u r => ((u, some r) : Nat × Ro) | .bad _ => (0, none)).1 < _
    cases hr : rdU l with
    | bad e => show 0 < _; omega
    | ok u r => exact (rdU_can (h l rfl) hr).2
theorem qUp_le (most : Nat) (o : Ro) : (qUp most o).1 ≤ most := by
  unfold qUp
  split
  · exact Nat.zero_le _
  · omega
def qB (o : Ro) : Int × Ro := (nth (qT 1 o).1 0, (qT 1 o).2)
theorem qNs_snoc : ∀ (n : Nat) (o : Ro), qNs (n + 1) o = ((qNs n o).1 ++ [zag (qU (qNs n o).2).1], (qU (qNs n o).2).2)
  | 0, o => rfl
  | n + 1, o => by
    conv => lhs; unfold qNs
    rw [qNs_snoc n]
    rfl
theorem qNs_len : ∀ (n : Nat) (o : Ro), (qNs n o).1.length = n
  | 0, _ => rfl
  | n + 1, o => by
    rw [qNs_snoc, List.length_append, qNs_len n o]
    rfl
end
end K
end Go.Proofs.YtpfkcfaifleliaaGreat

namespace Go.Proofs.YtpfkcfaifleliaaGreat
open Go.RowKit
namespace K
theorem qVs_snoc : ∀ (i : Nat) (o : Ro), qVs (i + 1) o = (match qVs i o with | none => none | some (vs, r) => match qV (some r) with | none => none | some (v, r') => some (vs ++ [v], r'))
  | 0, none => rfl
  | 0, some l => by
    show (match qV (some l) with | none => none | some (v, r) => match qVs 0 (some r) with | none => none | some (vs, r2) => some (v :: vs, r2)) = (match qV (some l) with | none => none | some (v, r') => some ([] ++ [v], r'))
    cases qV (some l) with
    | none => rfl
    | some p => rfl
  | i + 1, o => by
    show (match qV o with | none => none | some (v, r) => match qVs (i + 1) (some r) with | none => none | some (vs, r2) => some (v :: vs, r2)) = (match (match qV o with | none => none | some (v, r) => match qVs i (some r) with | none => none | some (vs, r2) => some (v :: vs, r2)) with | none => none | some (vs, r) => match qV (some r) with | none => none | some (v, r') => some (vs ++ [v], r'))
    cases qV o with
    | none => rfl
    | some p =>
      obtain ⟨v, r⟩ := p; simp only
      rw [qVs_snoc i (some r)]; cases qVs i (some r) with
      | none => rfl
      | some p2 =>
        obtain ⟨vs, r2⟩ := p2; simp only
        cases qV (some r2) with
        | none => rfl
        | some p3 => rfl
theorem qVs_stop {i : Nat} {o : Ro} (h : qVs i o = none) : ∀ k, qVs (i + k) o = none
  | 0 => h
  | k + 1 => by
    rw [show i + (k + 1) = (i + k) + 1 by omega, qVs_snoc, qVs_stop h k]
theorem qVs_len {i : Nat} {o : Ro} {vs : List V} {r : List Int} (h : qVs i o = some (vs, r)) : vs.length = i := by
  induction i generalizing vs r with
  | zero =>
    cases o with
    | none => cases h
    | some l => cases h; rfl
  | succ i ih =>
    rw [qVs_snoc] at h; cases h1 : qVs i o with
    | none => rw [h1] at h; cases h
    | some p =>
      obtain ⟨vs1, r1⟩ := p; rw [h1] at h; simp only at h; cases h2 : qV (some r1) with
      | none => rw [h2] at h; cases h
      | some p2 =>
        obtain ⟨v, r2⟩ := p2; rw [h2] at h; cases h
        rw [List.length_append, ih h1]
        rfl
theorem qUp_zero {most : Nat} {o : Ro} (h : (qUp most o).2 = none) : (qUp most o).1 = 0 := by
  unfold qUp at h ⊢
  split
  · rfl
  · rename_i hm
    rw [if_neg hm] at h; cases o with
    | none => rfl
    | some l =>
      change (match rdU l with | .ok u r => ((u, some r) : Nat × Ro) | .bad _ => (0, none)).2 = none at h
      show (match rdU l with | .ok u r => ((u, some r) : Nat × Ro) | .bad _ => (0, none)).1 = 0
      cases hr : rdU l with
      | ok u r => rw [hr] at h; cases h
      | bad e => rfl
theorem qT_byt {n : Nat} {o : Ro} (h : ∀ l, o = some l → Byt l) : Byt (qT n o).1 ∧ (qT n o).1.length ≤ n := by
  cases o with
  | none => exact ⟨(fun _ h => by cases h), Nat.zero_le _⟩
  | some l =>
    show Byt (if l.length < n then (([], none) : List Int × Ro) else (l.take n, some (l.drop n))).1 ∧ (if l.length < n then (([], none) : List Int × Ro) else (l.take n, some (l.drop n))).1.length ≤ n
    split
    · exact ⟨(fun _ h => by cases h), Nat.zero_le _⟩
    · exact ⟨fun c hc => h l rfl c (List.mem_of_mem_take hc), by rw [List.length_take]; omega⟩
variable {B rb : Nat} {w : World} {o : Ro}
end K
end Go.Proofs.YtpfkcfaifleliaaGreat

namespace Go.Proofs.YtpfkcfaifleliaaGreat
open Go.RowKit
namespace K
section
variable {n : NN} {Q : Exit → Act → World → Prop} {l : Env} {w : World} {ops : Array Oper} {o : Oper} {rest : List Oper} {d : Nat}
theorem made_rep (u : Value) (n : Nat) : (madeCells #[u] n).toList = List.replicate n u := by
  apply List.ext_getElem
  · simp [madeCells]
  · intro i h1 h2
    simp [madeCells]
    have : i % 1 = 0 := by omega
    simp [this]
theorem WL.make {t e bytes : Nat} {x : Operand} {k : IntKind} {z : Value} (m : Nat) (u : Value) (hu : z.cells = #[u]) (hi : (Tryz.prog.info? e).map (fun i => (i.zero, i.size, i.bytes)) = some (some z, 1, bytes)) (hg : o.guard = none) (hd : o.dst = some d) (hn : Nat.blt d n.n = true) (ho : o.op = .makeSlice t x x) (ht : tyOf ty t = some (.slice e 1))
    (hx : evl l x = some (.int k (m : Int))) (hb : bytes * m ≤ 140737488355328) (hm : m ≤ 140737488355328) (h : ∀ g w', Fresh w g w' e (List.replicate m u) → WL n ops Q rest ((d, .slice (some ⟨g, 0, none⟩) m m) :: l) w') : WL n ops Q (o :: rest) l w := by
  have hu2 : Tryz.prog.underlying t = some (.slice e) := (TyOk.of tyOk ht).1; obtain ⟨i, i1, i2, i3, i4⟩ := info_parts hi; have hb' : (i.bytes : Int) * (m : Int) ≤ 281474976710656 := by
    have : ((i.bytes * m : Nat) : Int) ≤ 281474976710656 := by rw [i4]; omega
    rwa [Int.natCast_mul] at this
  have hr := run_make (P := Tryz.prog) w t e i z hu2 i1 i2 k k (m : Int) (m : Int) (by omega) (Int.le_refl _) hb' (by omega); simp only [Int.toNat_natCast, i3, Nat.mul_one, hu] at hr; refine WL.step hg hd hn (w' := w.alloc (.cells (madeCells #[u] m) e)) (fun a ha => ?_) (h w.heap.size _ ?_)
  · unfold execOp
    rw [ho]; simp [ha.eval hx, hr, Result.andThen]
  · have : madeCells #[u] m = (List.replicate m u).toArray := by rw [← made_rep]
    rw [this]; exact Fresh.mk' w e _
end
structure WR5 (B : Nat) (w : World) (rb : Nat) (l : List Int) : Prop where
  rlt : rb < B
  byt : Byt l
  ex : ∃ sp cap, VBlk 129 w rb [.slice sp l.length cap, .bool false] ∧ SlB (fun b => b < B ∧ b ≠ rb) w (.slice sp l.length cap) l
theorem WR5.keep {B : Nat} {w w' : World} {rb : Nat} {l : List Int} (h : WR5 B w rb l) {K : Nat → Prop} (hk : Keep K w w') (hK : ∀ b, b < B → K b) : WR5 B w' rb l := by
  obtain ⟨sp, cap, h1, h2⟩ := h.ex; exact ⟨h.rlt, h.byt, sp, cap, h1.keep hk (hK _ h.rlt), h2.keep hk fun b hb => hK b hb.1⟩
theorem WR5.setL {B : Nat} {w : World} {rb : Nat} {l l' : List Int} {v' : Value} (h : WR5 B w rb l) (hb : Byt l') (hv : SlB (fun b => b < B ∧ b ≠ rb) w v' l') : WR5 B (w.setCell ⟨rb, 0, none⟩ v') rb l' := by
  obtain ⟨sp, cap, h1, h2⟩ := h.ex; obtain ⟨sp', cap', rfl, -⟩ := hv.sl; exact ⟨h.rlt, hb, sp', cap', h1.set 0 (.slice sp' l'.length cap'), hv.keep (K := fun b => b ≠ rb) ((Keep.refl _ w).setCell (fun hk => hk rfl) _) fun b hb => hb.2⟩
variable {B rb : Nat} {w : World}
theorem rnumber5_any {n : Nat} {r : List Int} (h : WR5 B w rb (uvB n ++ r)) (hn : n < 18446744073709551616) :
    Calls Tryz.prog 65 #[.pointer (some ⟨rb, 0, none⟩)] w fun e w' => e = .returned (.int .u64 (n : Int)) ∧ WR5 B w' rb r ∧ KeepR rb w w' := by
  refine enter (args := [.pointer (some ⟨rb, 0, none⟩)]) Tryz.func65 rfl Tryz.ntmps65 rfl ?_; obtain ⟨sp, cap, h1, h2⟩ := h.ex; have hrd := rdU_enc hn r; have hru : ruV (uvB n ++ r) = [.int .u64 (n : Nat), .int .i64 (((uvB n ++ r).length - r.length : Nat) : Int), .int .i64 0] := by unfold ruV; rw [hrd]
  have hbr : Byt r := fun c hc => h.byt c (List.mem_append.2 (.inr hc)); have hdr : (uvB n ++ r).drop ((((uvB n ++ r).length - r.length : Nat) : Int).toNat) = r := by
    rw [List.length_append, Int.toNat_natCast, show (uvB n).length + r.length - r.length = (uvB n).length by omega]; exact List.drop_left' rfl
  have hle : (uvB n ++ r).length - r.length ≤ (uvB n ++ r).length := by omega
  generalize (uvB n ++ r).length - r.length = k at hru hdr hle; refine K.kgo ?_; refine WL.load rfl rfl rfl rfl rfl rfl (h1.cell 1 (by simp)) ?_; refine K.kgo ?_; refine WL.load rfl rfl rfl rfl rfl rfl (h1.cell 0 (by simp)) ?_; refine WL.call rfl rfl rfl rfl rfl Tryz.func94 rfl (by kernel_rfl) (rreadU_any h2.sl h.byt) ?_; rintro _ _ ⟨rfl, rfl⟩; refine ⟨_, rfl, ?_⟩; rw [hru]; refine K.kgo ?_; refine WL.load rfl rfl rfl rfl rfl rfl (h1.cell 0 (by simp)) ?_; refine K.kgo ?_; refine WL.fromB (z := (k : Int)) rfl rfl rfl rfl rfl rfl rfl (by omega) (by omega) h2 fun v' hv' => ?_; rw [hdr] at hv'; have hv : v'.oneCell' = true := by obtain ⟨_, _, rfl, -⟩ := hv'.sl; rfl
  refine K.kgo ?_; refine WL.store rfl rfl rfl rfl rfl hv (by kernel_rfl) (h1.cell 0 (by simp)) (h1.free 0) ?_; refine K.kgo ?_; exact WQ.ret1 rfl rfl ⟨rfl, h.setL hbr hv', KeepR.set _ _ _ _⟩
theorem rtake5_any {k : Nat} {A r : List Int} (h : WR5 B w rb (A ++ r)) (hk : A.length = k) (hs : k ≤ 9007199254740992) :
    Calls Tryz.prog 39 #[.pointer (some ⟨rb, 0, none⟩), .int .i64 (k : Int)] w fun e w' => ∃ v, e = .returned v ∧ SlB (fun b => b < B ∧ b ≠ rb) w' v A ∧ WR5 B w' rb r ∧ KeepR rb w w' := by
  refine enter (args := [.pointer (some ⟨rb, 0, none⟩), .int .i64 (k : Int)]) Tryz.func39 rfl Tryz.ntmps39 rfl ?_; obtain ⟨sp, cap, h1, h2⟩ := h.ex; have hbr : Byt r := fun c hc => h.byt c (List.mem_append.2 (.inr hc)); have hdr : (A ++ r).drop k = r := by rw [← hk]; exact List.drop_left' rfl
  have htk : (A ++ r).take k = A := by rw [← hk]; exact List.take_left' rfl
  have hle : k ≤ (A ++ r).length := by rw [List.length_append]; omega
  refine K.kgo ?_; refine WL.load rfl rfl rfl rfl rfl rfl (h1.cell 1 (by simp)) ?_; refine K.kgo ?_; refine WL.load rfl rfl rfl rfl rfl rfl (h1.cell 0 (by simp)) ?_; refine K.kgo ?_; refine WL.load rfl rfl rfl rfl rfl rfl (h1.cell 0 (by simp)) ?_; refine K.kgo ?_; refine WL.uptoW (z := (k : Int)) rfl rfl rfl rfl rfl rfl rfl (by omega) (by omega) h2 fun v1 hv1 => ?_; rw [Int.toNat_natCast, htk] at hv1; refine K.kgo ?_; refine WL.load rfl rfl rfl rfl rfl rfl (h1.cell 0 (by simp)) ?_; refine K.kgo ?_; refine WL.fromB (z := (k : Int)) rfl rfl rfl rfl rfl rfl rfl (by omega) (by omega) h2 fun v' hv' => ?_; rw [Int.toNat_natCast, hdr] at hv'; have hv : v'.oneCell' = true := by obtain ⟨_, _, rfl, -⟩ := hv'.sl; rfl
  refine K.kgo ?_; refine WL.store rfl rfl rfl rfl rfl hv (by kernel_rfl) (h1.cell 0 (by simp)) (h1.free 0) ?_; refine K.kgo ?_; refine WQ.ret1 rfl rfl ⟨v1, rfl, hv1.keep (K := fun b => b ≠ rb) ((Keep.refl _ w).setCell (fun hk => hk rfl) _) fun b hb => hb.2, h.setL hbr hv', KeepR.set _ _ _ _⟩
theorem WR5.setF {l : List Int} (h : WR5 B w rb l) : WR5 B (w.setCell ⟨rb, 1, none⟩ (.bool false)) rb l := by
  obtain ⟨sp, cap, h1, h2⟩ := h.ex; exact ⟨h.rlt, h.byt, sp, cap, h1.set 1 (.bool false), h2.keep (K := fun b => b ≠ rb) ((Keep.refl _ w).setCell (fun hk => hk rfl) _) fun b hb => hb.2⟩
section
variable {w' : World} {o : Ro}
structure WBad5 (B : Nat) (w : World) (rb : Nat) : Prop where
  rlt : rb < B
  ex : ∃ sp n cap, VBlk 129 w rb [.slice sp n cap, .bool true]
def WX5 (B : Nat) (w : World) (rb : Nat) : Ro → Prop
  | some l => WR5 B w rb l
  | none => WBad5 B w rb
theorem WX5.rlt (h : WX5 B w rb o) : rb < B := by
  cases o with
  | none => exact WBad5.rlt h
  | some l => exact WR5.rlt h
theorem WX5.byt (h : WX5 B w rb o) : ∀ l, o = some l → Byt l := fun l e => by
  subst e; exact WR5.byt h
theorem WX5.keep (h : WX5 B w rb o) {K : Nat → Prop} (hk : Keep K w w') (hK : ∀ b, b < B → K b) : WX5 B w' rb o := by
  cases o with
  | none =>
    obtain ⟨h1, sp, n, cap, h2⟩ := h; exact ⟨h1, sp, n, cap, h2.keep hk (hK _ h1)⟩
  | some l => exact WR5.keep h hk hK
theorem WX5.ex (h : WX5 B w rb o) : ∃ sp n cap, VBlk 129 w rb [.slice sp n cap, .bool o.isNone] := by
  cases o with
  | none => exact WBad5.ex h
  | some l =>
    obtain ⟨sp, cap, h1, -⟩ := WR5.ex h; exact ⟨sp, _, cap, h1⟩
theorem WX5.setT (h : WX5 B w rb o) : WX5 B (w.setCell ⟨rb, 1, none⟩ (.bool true)) rb none := by
  obtain ⟨sp, n, cap, h1⟩ := h.ex; exact ⟨h.rlt, sp, n, cap, h1.set 1 (.bool true)⟩
theorem WX5.setF {l : List Int} (h : WX5 B w rb (some l)) : WX5 B (w.setCell ⟨rb, 1, none⟩ (.bool false)) rb (some l) := WR5.setF h
theorem number5_x (h : WX5 B w rb o) :
    Calls Tryz.prog 65 #[.pointer (some ⟨rb, 0, none⟩)] w fun e w' => e = .returned (.int .u64 ((qU o).1 : Int)) ∧ WX5 B w' rb (qU o).2 ∧ KeepR rb w w' := by
  cases o with
  | none =>
    obtain ⟨hlt, sp, n, cap, h1⟩ := h; refine enter (args := [.pointer (some ⟨rb, 0, none⟩)]) Tryz.func65 rfl Tryz.ntmps65 rfl ?_; refine K.kgo ?_; refine WL.load rfl rfl rfl rfl rfl rfl (h1.cell 1 (by simp)) ?_; refine K.kgo ?_; exact WQ.ret1 rfl rfl ⟨rfl, ⟨hlt, _, _, _, h1⟩, KeepR.refl _ _⟩
  | some l =>
    have h : WR5 B w rb l := h; cases hr : rdU l with
    | ok u r =>
      obtain ⟨e, hlt⟩ := rdU_can h.byt hr; have h' : WR5 B w rb (uvB u ++ r) := by rw [← e]; exact h
      have hq : qU (some l) = (u, some r) := by
        show (match rdU l with | .ok u r => ((u, some r) : Nat × Ro) | .bad _ => (0, none)) = _
        rw [hr]
      rw [hq]; exact rnumber5_any h' hlt
    | bad x =>
      have hq : qU (some l) = (0, none) := by
        show (match rdU l with | .ok u r => ((u, some r) : Nat × Ro) | .bad _ => (0, none)) = _
        rw [hr]
      rw [hq]; have hx : x = 2 ∨ x = 3 := rdUF_bad _ _ _ _ hr; have hru : ruV l = [.int .u64 0, .int .i64 0, .int .i64 x] := by unfold ruV; rw [hr]
      obtain ⟨sp, cap, h1, h2⟩ := h.ex; refine enter (args := [.pointer (some ⟨rb, 0, none⟩)]) Tryz.func65 rfl Tryz.ntmps65 rfl ?_; refine K.kgo ?_; refine WL.load rfl rfl rfl rfl rfl rfl (h1.cell 1 (by simp)) ?_; refine K.kgo ?_; refine WL.load rfl rfl rfl rfl rfl rfl (h1.cell 0 (by simp)) ?_; refine WL.call rfl rfl rfl rfl rfl Tryz.func94 rfl (by kernel_rfl) (rreadU_any h2.sl h.byt) ?_; rintro _ _ ⟨rfl, rfl⟩; refine ⟨_, rfl, ?_⟩; rw [hru]; refine K.kgo ?_; refine WL.store rfl rfl rfl rfl rfl rfl (by kernel_rfl) (h1.cell 1 (by simp)) (h1.free 1) ?_; refine K.kgo ?_; exact WQ.ret1 rfl rfl ⟨rfl, WX5.setT (o := some l) h, KeepR.set _ _ _ _⟩
theorem count5_x (most : Nat) (h : WX5 B w rb o) (hm : most ≤ 9007199254740992) :
    Calls Tryz.prog 40 #[.pointer (some ⟨rb, 0, none⟩), .int .i64 (most : Int)] w fun e w' => e = .returned (.int .i64 ((qUp most o).1 : Int)) ∧ WX5 B w' rb (qUp most o).2 ∧ KeepR rb w w' := by
  refine enter (args := [.pointer (some ⟨rb, 0, none⟩), .int .i64 (most : Int)]) Tryz.func40 rfl Tryz.ntmps40 rfl ?_; have hw64 : IntKind.u64.wrap (most : Int) = (most : Int) := wraps_u64 _ (by omega) (by omega); refine K.kgo ?_; refine WL.call rfl rfl rfl rfl rfl Tryz.func65 rfl (by kernel_rfl) (number5_x h) ?_; rintro _ w2 ⟨rfl, h2, k2⟩; refine ⟨_, rfl, ?_⟩
  by_cases hu : most < (qU o).1
  · have hq : qUp most o = (0, none) := by unfold qUp; rw [if_pos hu]
    rw [hq]; obtain ⟨sp, n, cap, h3⟩ := h2.ex; generalize (qU o).1 = u at hu ⊢; refine K.kgo ?_; refine WL.store rfl rfl rfl rfl rfl rfl (by kernel_rfl) (h3.cell 1 (by simp)) (h3.free 1) ?_; refine K.kgo ?_; exact WQ.ret1 rfl rfl ⟨rfl, h2.setT, k2.trans (KeepR.set _ _ _ _)⟩
  · have hq : qUp most o = qU o := by unfold qUp; rw [if_neg hu]
    rw [hq]; generalize (qU o).1 = u at hu ⊢; refine K.kgo ?_; exact WQ.ret1 rfl rfl ⟨rfl, h2, k2⟩
end
theorem byt_zeros (n : Nat) : Byt (List.replicate n 0) := fun c hc => by
  rw [List.eq_of_mem_replicate hc]; exact ⟨Int.le_refl 0, by omega⟩
theorem sl_zeros {w w' : World} {g n : Nat} (h : Fresh w g w' 5 (List.replicate n (.int .u8 0))) (hn : n ≤ 140737488355328) : Sl .u8 w' (.slice (some ⟨g, 0, none⟩) n n) (List.replicate n 0) := by
  refine ⟨some ⟨g, 0, none⟩, n, by rw [List.length_replicate], by rw [List.length_replicate]; exact Nat.le_refl _, by omega, fun _ => ⟨g, 0, rfl, h.blk.lt, fun i hi => ?_⟩, fun h => by cases h⟩; rw [List.length_replicate] at hi; have := h.blk.cell i (by rw [List.length_replicate]; exact hi); rw [Nat.zero_add, this]; simp [nth, hi]
theorem raw5_x {B rb : Nat} {w : World} {o : Ro} (k : Nat) (h : WX5 B w rb o) (hB : B ≤ w.heap.size) (hs : k ≤ 9007199254740992) :
    Calls Tryz.prog 39 #[.pointer (some ⟨rb, 0, none⟩), .int .i64 (k : Int)] w fun e w' => ∃ v L, e = .returned v ∧ Sl .u8 w' v L ∧ Byt L ∧ (if (qT k o).2 = none then L = List.replicate (min k 32) 0 else L = (qT k o).1) ∧ WX5 B w' rb (qT k o).2 ∧ KeepR rb w w' := by
  have hmk : (if (32 : Int) < (k : Int) then (32 : Int) else (k : Int)) = ((min k 32 : Nat) : Int) := by split <;> omega
  have hm32 : min k 32 ≤ 32 := Nat.min_le_right _ _; cases o with
  | none =>
    obtain ⟨hlt, sp, n, cap, h1⟩ := h; have hqT : qT k none = ([], none) := rfl; rw [hqT]; refine enter (args := [.pointer (some ⟨rb, 0, none⟩), .int .i64 (k : Int)]) Tryz.func39 rfl Tryz.ntmps39 rfl ?_; refine K.kgo ?_; refine WL.load rfl rfl rfl rfl rfl rfl (h1.cell 1 (by simp)) ?_; refine K.kgo ?_; refine WL.store rfl rfl rfl rfl rfl rfl (by kernel_rfl) (h1.cell 1 (by simp)) (h1.free 1) ?_; have h2 := WX5.setT (o := none) ⟨hlt, sp, n, cap, h1⟩; have k2 : KeepR rb w (w.setCell ⟨rb, 1, none⟩ (.bool true)) := KeepR.set _ _ _ _; generalize w.setCell ⟨rb, 1, none⟩ (.bool true) = w2 at h2 k2 ⊢; refine K.kgo ?_; refine WL.as 23 (.int .i64 ((min k 32 : Nat) : Int)) rfl (congrArg (Value.int .i64) hmk) ?_; refine WL.make (bytes := 1) (z := .int .u8 0) (min k 32) (.int .u8 0) rfl (by kernel_rfl) rfl rfl rfl rfl rfl rfl (by omega) (by omega) fun g w3 hf => ?_; have hf3 : Fresh w2 g w3 5 (List.replicate (min k 32) (.int .u8 0)) := hf; clear hf; refine K.kgo ?_; exact WQ.ret1 rfl rfl ⟨_, List.replicate (min k 32) 0, rfl, sl_zeros hf3 (by omega), byt_zeros _, by rw [if_pos rfl], h2.keep (Keep.of_below hf3.below) fun b hb => by have := k2.size; omega, k2.trans (KeepR.below hf3.below)⟩
  | some l =>
    have h : WR5 B w rb l := h
    by_cases hl : l.length < k
    · have hq : qT k (some l) = ([], none) := if_pos hl
      rw [hq]; obtain ⟨sp, cap, h1, h2⟩ := h.ex; refine enter (args := [.pointer (some ⟨rb, 0, none⟩), .int .i64 (k : Int)]) Tryz.func39 rfl Tryz.ntmps39 rfl ?_; refine K.kgo ?_; refine WL.load rfl rfl rfl rfl rfl rfl (h1.cell 1 (by simp)) ?_; refine K.kgo ?_; refine WL.load rfl rfl rfl rfl rfl rfl (h1.cell 0 (by simp)) ?_; refine K.kgo ?_; refine WL.store rfl rfl rfl rfl rfl rfl (by kernel_rfl) (h1.cell 1 (by simp)) (h1.free 1) ?_; have h2 := WX5.setT (o := some l) h; have k2 : KeepR rb w (w.setCell ⟨rb, 1, none⟩ (.bool true)) := KeepR.set _ _ _ _; generalize w.setCell ⟨rb, 1, none⟩ (.bool true) = w2 at h2 k2 ⊢; refine K.kgo ?_; refine WL.as 23 (.int .i64 ((min k 32 : Nat) : Int)) rfl (congrArg (Value.int .i64) hmk) ?_; refine WL.make (bytes := 1) (z := .int .u8 0) (min k 32) (.int .u8 0) rfl (by kernel_rfl) rfl rfl rfl rfl rfl rfl (by omega) (by omega) fun g w3 hf => ?_; have hf3 : Fresh w2 g w3 5 (List.replicate (min k 32) (.int .u8 0)) := hf; clear hf; refine K.kgo ?_; exact WQ.ret1 rfl rfl ⟨_, List.replicate (min k 32) 0, rfl, sl_zeros hf3 (by omega), byt_zeros _, by rw [if_pos rfl], h2.keep (Keep.of_below hf3.below) fun b hb => by have := k2.size; omega, k2.trans (KeepR.below hf3.below)⟩
    · have hq : qT k (some l) = (l.take k, some (l.drop k)) := if_neg hl
      rw [hq]; refine (rtake5_any (A := l.take k) (r := l.drop k) (k := k) (by rw [List.take_append_drop]; exact h) (by rw [List.length_take]; omega) hs).mono ?_; rintro e w' ⟨v, rfl, hv, h2, k2⟩; exact ⟨v, _, rfl, hv.sl, fun c hc => h.byt c (List.mem_of_mem_take hc), by rw [if_neg (fun h => by cases h)], h2, k2⟩
end K
end Go.Proofs.YtpfkcfaifleliaaGreat
