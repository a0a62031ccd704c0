/- Texts for LawClTr, part 3 of 6. -/
import Derived.Test.YtpfkcfaifleliaaGreatZLawClTr2
import Derived.WideShapes
import Derived.Laws.Strings
import GoSem.Op.String
import Derived.Maps.OwnSet
import Derived.DeepKeys5
import Derived.Shelf.SlMaps.Clone
namespace Go.Proofs.YtpfkcfaifleliaaGreat
open Go.RowKit
namespace Vl

def formC (k n s : Int) (B P E N0 : Bool) : Bool :=
  if k = 1 then B && P && E
  else if k = 2 then decide (n / 2 = 0) && decide (s = 0) && P && E
  else if k = 3 then decide (s = 0) && P && E
  else if k = 4 then decide (1 ≤ s) && decide (s ≤ 18) && decide (¬ n.tmod 10 = 0) && P && E
  else if k = 5 then decide (0 ≤ n) && decide (n ≤ 9007199254740992) && decide (s = 0) && P && E
  else if k = 6 ∨ k = 7 then B && P
  else if k = 8 then B && N0 && E
  else if k = 9 then B && E
  else false
theorem formB_eq (v : V) : formB v = formC v.k v.n v.s (bareB v) (plainB v) (noTextB v) (decide (v.names.length = 0)) := by
  have h : (decide (0 ≤ v.n) && decide (v.n ≤ 1)) = decide (v.n / 2 = 0) := by
    by_cases h : v.n / 2 = 0
    · simp [h]; omega
    · rw [decide_eq_false h, Bool.and_eq_false_iff, decide_eq_false_iff_not, decide_eq_false_iff_not]; omega
  unfold formB formC; rw [h]

theorem IsV.open {f : Nat} {w : World} {v : V} {cs : List Value} (h : IsV f w v cs) :
    ∃ np nc kp kc, cs = [.int .i64 v.k, .int .i64 v.n, .int .i64 v.s, .string v.t, .slice np v.names.length nc, .slice kp v.kids.length kc] ∧
      (-9223372036854775808 ≤ v.n ∧ v.n ≤ 9223372036854775807) ∧ v.t.size ≤ 140737488355328 ∧ v.names.length ≤ nc ∧ nc ≤ 9223372036854775807 ∧ v.kids.length ≤ kc ∧ kc ≤ 9223372036854775807 := by
  cases f with
  | zero => exact h.elim
  | succ f =>
    obtain ⟨sn, sk, rfl, -, hn, -, ht, ⟨np, nc, rfl, nl, nc2, -⟩, ⟨kp, kc, rfl, kl, kc2, -⟩⟩ := h; refine ⟨np, nc, kp, kc, rfl, ?_, ht, nl, nc2, kl, kc2⟩; simp [Lit.wf, IntKind.min, IntKind.max, IntKind.bits, IntKind.signed] at hn
    omega
theorem infoValue : (Tryz.prog.info? 82).map (·.size) = some 6 := by kernel_rfl

theorem empty_iff (t : ByteArray) : (t.toList == []) = decide (t.size = 0) := by
  have h : t.toList.length = t.size := by rw [ByteArray.toList_eq]; rfl
  cases hl : t.toList with
  | nil => rw [hl] at h; simp at h; simp [← h]
  | cons a l => rw [hl] at h; simp at h; simp [← h]

set_option maxRecDepth 100000 in
set_option maxHeartbeats 8000000 in
theorem shape_B {f : Nat} {w : World} {v : V} {cs : List Value} (h : IsV f w v cs) (hk : v.k = 1 ∨ v.k = 2 ∨ v.k = 3) :
    Calls Tryz.prog 173 #[.agg cs.toArray] w fun e w' => e = .returned (.int .i64 (shp v)) ∧ Below w.heap.size w w' := by
  obtain ⟨np, nc, kp, kc, hcs, hnn, ht, nl, nc2, kl, kc2⟩ := IsV.open h; have hform := formB_eq v; have hB : bareB v = (decide (v.n = 0) && decide (v.s = 0)) := rfl; have hP : plainB v = (decide (v.names.length = 0) && decide (v.kids.length = 0)) := rfl; have hE : noTextB v = decide (v.t.size = 0) := rfl; have hem := empty_iff v.t; have hshp : shp v = if formB v = false then 3 else if 16384 < v.t.size ∨ 200 < v.kids.length then 5 else if v.k = 9 ∧ fieldsB v = false then 3 else 0 := rfl
  rw [← hE] at hem; generalize formB v = F at hform hshp; generalize bareB v = B at hform hB; generalize plainB v = P at hform hP; generalize noTextB v = E at hform hE hem; generalize hG : fieldsB v = G at hshp; generalize shp v = R at hshp ⊢; generalize hN0 : decide (v.names.length = 0) = N0 at hform hP; generalize v.k = k at hk hcs hform hshp; generalize v.n = n at hcs hform hB hnn; generalize v.s = s at hcs hform hB; generalize v.t = t at hcs hE hem ht hshp; generalize v.names.length = N at hcs hN0 nl; generalize v.kids.length = K at hcs hP kl hshp; have hbel : Below w.heap.size w (w.alloc (.cells cs.toArray 82)) := (Below.refl _ w).alloc (Nat.le_refl _) _; have hR : VBlk 82 (w.alloc (.cells cs.toArray 82)) w.heap.size cs := VBlk.mk w _ _; have h1 := h.below hbel; have HF := Hid2.mk (fun m => fields_any (f := f) (v := v) (h1.below (belowN (Below.refl _ _) m))); rw [hG] at HF; have HR := Hid2.mk hR; have HB := Hid2.mk hbel; have Hshp := Hid2.mk hshp; have Hform := Hid2.mk hform; have hBv := Hid2.mk hB; have hPv := Hid2.mk hP; have hEv := Hid2.mk hE; have hN0v := Hid2.mk hN0; have c0 := hR.cell 0 (by subst hcs; simp); have c1 := hR.cell 1 (by subst hcs; simp); have c2 := hR.cell 2 (by subst hcs; simp); have c3 := hR.cell 3 (by subst hcs; simp); have c4 := hR.cell 4 (by subst hcs; simp); have c5 := hR.cell 5 (by subst hcs; simp); clear h hform hB hP hE hshp hG hbel hR h1 hN0; subst hcs; simp only [List.getD_cons_zero, List.getD_cons_succ] at c0 c1 c2 c3 c4 c5; have Hk := Hid2.mk hk; clear hk
  go_enter Tryz.func173, Tryz.ntmps173
  go_upto_region 1 with fail
  generalize hw1 : World.alloc _ _ = w1 at c0 c1 c2 c3 c4 c5 HF HR HB ⊢
  go_cut [3] (fun b wx => b = .bool B ∧ ∃ m, wx = w1.drewN m)
  case first =>
    by_cases h0 : n = 0
    · obtain rfl := h0
      go_wp2_with fail
      go_meet
      exact ⟨congrArg Value.bool (by rw [hBv.out]; by_cases e : s = 0 <;> simp [e]), 0, rfl⟩
    · have h0' : (n == 0) = false := beq_eq_false_iff_ne.2 h0
      go_wp2_with fail
      go_meet
      exact ⟨congrArg Value.bool (by rw [hBv.out]; simp [h0]), 0, rfl⟩
  case rest =>
  obtain ⟨rfl, m1, rfl⟩ := hcut
  go_upto_region 2 with fail
  go_cut [4] (fun b wx => b = .bool P ∧ ∃ m, wx = w1.drewN m)
  case first =>
    by_cases h0 : N = 0
    · obtain rfl := h0
      go_wp2_with fail
      go_meet
      exact ⟨congrArg Value.bool (by rw [hPv.out, ← hN0v.out]; by_cases e : K = 0 <;> simp [e]), m1, rfl⟩
    · have h0' : ((N : Int) == 0) = false := beq_eq_false_iff_ne.2 (by omega)
      go_wp2_with fail
      go_meet
      exact ⟨congrArg Value.bool (by rw [hPv.out, ← hN0v.out]; simp [h0]), m1, rfl⟩
  case rest =>
  obtain ⟨rfl, m2, rfl⟩ := hcut
  go_upto_block 0 with fail
  go_cut [5] (fun b wx => b = .bool F ∧ ∃ m, wx = w1.drewN m)
  case first =>
    clear Hshp HF HR HB hBv hPv hEv hnn
    by_cases k1 : k = 1
    · obtain rfl := k1
      cases B
      · (go_wp2_with fail; go_meet; exact ⟨congrArg Value.bool (by rw [Hid2.out Hform, ← Hid2.out hN0v]; simp [formC, *]), m2, rfl⟩)
      ·
        cases P
        · (go_wp2_with fail; go_meet; exact ⟨congrArg Value.bool (by rw [Hid2.out Hform, ← Hid2.out hN0v]; simp [formC, *]), m2, rfl⟩)
        ·
          (go_wp2_with fail; go_meet; exact ⟨congrArg Value.bool (by rw [Hid2.out Hform, ← Hid2.out hN0v]; simp [formC, *]), m2, rfl⟩)
    have q1 : (k == 1) = false := beq_eq_false_iff_ne.2 k1
    by_cases k2 : k = 2
    · obtain rfl := k2
      by_cases c3 : n / 2 = 0
      ·
        by_cases c2 : s = 0
        · obtain rfl := c2
          cases P
          · (go_wp2_with fail; go_meet; exact ⟨congrArg Value.bool (by rw [Hid2.out Hform, ← Hid2.out hN0v]; simp [formC, *]), m2, rfl⟩)
          ·
            (go_wp2_with fail; go_meet; exact ⟨congrArg Value.bool (by rw [Hid2.out Hform, ← Hid2.out hN0v]; simp [formC, *]), m2, rfl⟩)
        · have : (s == 0) = false := beq_eq_false_iff_ne.2 c2
          (go_wp2_with fail; go_meet; exact ⟨congrArg Value.bool (by rw [Hid2.out Hform, ← Hid2.out hN0v]; simp [formC, *]), m2, rfl⟩)
      · have : (n / 2 == 0) = false := beq_eq_false_iff_ne.2 c3
        (go_wp2_with fail; go_meet; exact ⟨congrArg Value.bool (by rw [Hid2.out Hform, ← Hid2.out hN0v]; simp [formC, *]), m2, rfl⟩)
    have q2 : (k == 2) = false := beq_eq_false_iff_ne.2 k2
    by_cases k3 : k = 3
    · obtain rfl := k3
      by_cases c2 : s = 0
      · obtain rfl := c2
        cases P
        · (go_wp2_with fail; go_meet; exact ⟨congrArg Value.bool (by rw [Hid2.out Hform, ← Hid2.out hN0v]; simp [formC, *]), m2, rfl⟩)
        ·
          (go_wp2_with fail; go_meet; exact ⟨congrArg Value.bool (by rw [Hid2.out Hform, ← Hid2.out hN0v]; simp [formC, *]), m2, rfl⟩)
      · have : (s == 0) = false := beq_eq_false_iff_ne.2 c2
        (go_wp2_with fail; go_meet; exact ⟨congrArg Value.bool (by rw [Hid2.out Hform, ← Hid2.out hN0v]; simp [formC, *]), m2, rfl⟩)
    have q3 : (k == 3) = false := beq_eq_false_iff_ne.2 k3; exact absurd Hk.out (by omega)
  case rest =>
  obtain ⟨rfl, m3, rfl⟩ := hcut; clear Hform hBv hPv hEv hN0v hnn; cases F
  · have Hr := Hid2.mk (show R = 3 by rw [Hshp.out]; rfl)
    clear Hshp
    go_wp2_with fail
    go_ret
    exact ⟨by rw [Hr.out]; rfl, belowN HB.out _⟩
  by_cases d1 : 16384 < t.size
  · have d1' : (16384 : Int) < t.size := by omega
    have Hr := Hid2.mk (show R = 5 by rw [Hshp.out]; simp [d1]); clear Hshp
    go_wp2_with fail
    go_ret
    exact ⟨by rw [Hr.out]; rfl, belowN HB.out _⟩
  have d1' : decide ((16384 : Int) < t.size) = false := decide_eq_false (by omega)
  by_cases d2 : 200 < K
  · have d2' : (200 : Int) < K := by omega
    have Hr := Hid2.mk (show R = 5 by rw [Hshp.out]; simp [d2]); clear Hshp
    go_wp2_with fail
    go_ret
    exact ⟨by rw [Hr.out]; rfl, belowN HB.out _⟩
  have d2' : decide ((200 : Int) < K) = false := decide_eq_false (by omega)
  by_cases d3 : k = 9
  · have Hr := Hid2.mk (show R = if G = false then 3 else 0 by rw [Hshp.out]; simp [d1, d2, d3])
    clear Hshp; subst d3; exact absurd Hk.out (by omega)
  have d3' : (k == 9) = false := beq_eq_false_iff_ne.2 d3; have Hr := Hid2.mk (show R = 0 by rw [Hshp.out]; simp [d1, d2, d3]); clear Hshp
  go_wp2_with fail
  go_ret
  exact ⟨by rw [Hr.out]; rfl, belowN HB.out _⟩
end Vl
end Go.Proofs.YtpfkcfaifleliaaGreat

namespace Go.Proofs.YtpfkcfaifleliaaGreat
open Go.RowKit
namespace Vl

set_option maxRecDepth 100000 in
set_option maxHeartbeats 8000000 in
theorem shape_C {f : Nat} {w : World} {v : V} {cs : List Value} (h : IsV f w v cs) (hk : v.k = 4) :
    Calls Tryz.prog 173 #[.agg cs.toArray] w fun e w' => e = .returned (.int .i64 (shp v)) ∧ Below w.heap.size w w' := by
  obtain ⟨np, nc, kp, kc, hcs, hnn, ht, nl, nc2, kl, kc2⟩ := IsV.open h; have hform := formB_eq v; have hB : bareB v = (decide (v.n = 0) && decide (v.s = 0)) := rfl; have hP : plainB v = (decide (v.names.length = 0) && decide (v.kids.length = 0)) := rfl; have hE : noTextB v = decide (v.t.size = 0) := rfl; have hem := empty_iff v.t; have hshp : shp v = if formB v = false then 3 else if 16384 < v.t.size ∨ 200 < v.kids.length then 5 else if v.k = 9 ∧ fieldsB v = false then 3 else 0 := rfl
  rw [← hE] at hem; generalize formB v = F at hform hshp; generalize bareB v = B at hform hB; generalize plainB v = P at hform hP; generalize noTextB v = E at hform hE hem; generalize hG : fieldsB v = G at hshp; generalize shp v = R at hshp ⊢; generalize hN0 : decide (v.names.length = 0) = N0 at hform hP; generalize v.k = k at hk hcs hform hshp; generalize v.n = n at hcs hform hB hnn; generalize v.s = s at hcs hform hB; generalize v.t = t at hcs hE hem ht hshp; generalize v.names.length = N at hcs hN0 nl; generalize v.kids.length = K at hcs hP kl hshp; have hbel : Below w.heap.size w (w.alloc (.cells cs.toArray 82)) := (Below.refl _ w).alloc (Nat.le_refl _) _; have hR : VBlk 82 (w.alloc (.cells cs.toArray 82)) w.heap.size cs := VBlk.mk w _ _; have h1 := h.below hbel; have HF := Hid2.mk (fun m => fields_any (f := f) (v := v) (h1.below (belowN (Below.refl _ _) m))); rw [hG] at HF; have HR := Hid2.mk hR; have HB := Hid2.mk hbel; have Hshp := Hid2.mk hshp; have Hform := Hid2.mk hform; have hBv := Hid2.mk hB; have hPv := Hid2.mk hP; have hEv := Hid2.mk hE; have hN0v := Hid2.mk hN0; have c0 := hR.cell 0 (by subst hcs; simp); have c1 := hR.cell 1 (by subst hcs; simp); have c2 := hR.cell 2 (by subst hcs; simp); have c3 := hR.cell 3 (by subst hcs; simp); have c4 := hR.cell 4 (by subst hcs; simp); have c5 := hR.cell 5 (by subst hcs; simp); clear h hform hB hP hE hshp hG hbel hR h1 hN0; subst hcs; simp only [List.getD_cons_zero, List.getD_cons_succ] at c0 c1 c2 c3 c4 c5; have q1 : (k == 1) = false := beq_eq_false_iff_ne.2 (by omega); have q2 : (k == 2) = false := beq_eq_false_iff_ne.2 (by omega); have q3 : (k == 3) = false := beq_eq_false_iff_ne.2 (by omega); have Hk := Hid2.mk hk; clear hk
  go_enter Tryz.func173, Tryz.ntmps173
  go_upto_region 1 with fail
  generalize hw1 : World.alloc _ _ = w1 at c0 c1 c2 c3 c4 c5 HF HR HB ⊢
  go_cut [3] (fun b wx => b = .bool B ∧ ∃ m, wx = w1.drewN m)
  case first =>
    by_cases h0 : n = 0
    · obtain rfl := h0
      go_wp2_with fail
      go_meet
      exact ⟨congrArg Value.bool (by rw [hBv.out]; by_cases e : s = 0 <;> simp [e]), 0, rfl⟩
    · have h0' : (n == 0) = false := beq_eq_false_iff_ne.2 h0
      go_wp2_with fail
      go_meet
      exact ⟨congrArg Value.bool (by rw [hBv.out]; simp [h0]), 0, rfl⟩
  case rest =>
  obtain ⟨rfl, m1, rfl⟩ := hcut
  go_upto_region 2 with fail
  go_cut [4] (fun b wx => b = .bool P ∧ ∃ m, wx = w1.drewN m)
  case first =>
    by_cases h0 : N = 0
    · obtain rfl := h0
      go_wp2_with fail
      go_meet
      exact ⟨congrArg Value.bool (by rw [hPv.out, ← hN0v.out]; by_cases e : K = 0 <;> simp [e]), m1, rfl⟩
    · have h0' : ((N : Int) == 0) = false := beq_eq_false_iff_ne.2 (by omega)
      go_wp2_with fail
      go_meet
      exact ⟨congrArg Value.bool (by rw [hPv.out, ← hN0v.out]; simp [h0]), m1, rfl⟩
  case rest =>
  obtain ⟨rfl, m2, rfl⟩ := hcut
  go_upto_block 0 with fail
  go_cut [5] (fun b wx => b = .bool F ∧ ∃ m, wx = w1.drewN m)
  case first =>
    clear Hshp HF HR HB hBv hPv hEv hnn
    by_cases k4 : k = 4
    · obtain rfl := k4
      by_cases c4 : 1 ≤ s
      ·
        by_cases c3 : s ≤ 18
        ·
          by_cases c2 : n.tmod 10 = 0
          · have : (n.tmod 10 != 0) = false := by simp [c2]
            (go_wp2_with fail; go_meet; exact ⟨congrArg Value.bool (by rw [Hid2.out Hform, ← Hid2.out hN0v]; simp [formC, *]), m2, rfl⟩)
          · have : (n.tmod 10 != 0) = true := by simp [c2]
            cases P
            · (go_wp2_with fail; go_meet; exact ⟨congrArg Value.bool (by rw [Hid2.out Hform, ← Hid2.out hN0v]; simp [formC, *]), m2, rfl⟩)
            ·
              (go_wp2_with fail; go_meet; exact ⟨congrArg Value.bool (by rw [Hid2.out Hform, ← Hid2.out hN0v]; simp [formC, *]), m2, rfl⟩)
        · have : decide (s ≤ 18) = false := decide_eq_false c3
          (go_wp2_with fail; go_meet; exact ⟨congrArg Value.bool (by rw [Hid2.out Hform, ← Hid2.out hN0v]; simp [formC, *]), m2, rfl⟩)
      · have : decide (1 ≤ s) = false := decide_eq_false c4
        (go_wp2_with fail; go_meet; exact ⟨congrArg Value.bool (by rw [Hid2.out Hform, ← Hid2.out hN0v]; simp [formC, *]), m2, rfl⟩)
    have q4 : (k == 4) = false := beq_eq_false_iff_ne.2 k4; exact absurd Hk.out (by omega)
  case rest =>
  obtain ⟨rfl, m3, rfl⟩ := hcut; clear Hform hBv hPv hEv hN0v hnn; cases F
  · have Hr := Hid2.mk (show R = 3 by rw [Hshp.out]; rfl)
    clear Hshp
    go_wp2_with fail
    go_ret
    exact ⟨by rw [Hr.out]; rfl, belowN HB.out _⟩
  by_cases d1 : 16384 < t.size
  · have d1' : (16384 : Int) < t.size := by omega
    have Hr := Hid2.mk (show R = 5 by rw [Hshp.out]; simp [d1]); clear Hshp
    go_wp2_with fail
    go_ret
    exact ⟨by rw [Hr.out]; rfl, belowN HB.out _⟩
  have d1' : decide ((16384 : Int) < t.size) = false := decide_eq_false (by omega)
  by_cases d2 : 200 < K
  · have d2' : (200 : Int) < K := by omega
    have Hr := Hid2.mk (show R = 5 by rw [Hshp.out]; simp [d2]); clear Hshp
    go_wp2_with fail
    go_ret
    exact ⟨by rw [Hr.out]; rfl, belowN HB.out _⟩
  have d2' : decide ((200 : Int) < K) = false := decide_eq_false (by omega)
  by_cases d3 : k = 9
  · have Hr := Hid2.mk (show R = if G = false then 3 else 0 by rw [Hshp.out]; simp [d1, d2, d3])
    clear Hshp; subst d3; exact absurd Hk.out (by omega)
  have d3' : (k == 9) = false := beq_eq_false_iff_ne.2 d3; have Hr := Hid2.mk (show R = 0 by rw [Hshp.out]; simp [d1, d2, d3]); clear Hshp
  go_wp2_with fail
  go_ret
  exact ⟨by rw [Hr.out]; rfl, belowN HB.out _⟩
end Vl
end Go.Proofs.YtpfkcfaifleliaaGreat

namespace Go.Proofs.YtpfkcfaifleliaaGreat
open Go.RowKit
namespace Vl

set_option maxRecDepth 100000 in
set_option maxHeartbeats 8000000 in
theorem shape_D {f : Nat} {w : World} {v : V} {cs : List Value} (h : IsV f w v cs) (hk : v.k = 5) :
    Calls Tryz.prog 173 #[.agg cs.toArray] w fun e w' => e = .returned (.int .i64 (shp v)) ∧ Below w.heap.size w w' := by
  obtain ⟨np, nc, kp, kc, hcs, hnn, ht, nl, nc2, kl, kc2⟩ := IsV.open h; have hform := formB_eq v; have hB : bareB v = (decide (v.n = 0) && decide (v.s = 0)) := rfl; have hP : plainB v = (decide (v.names.length = 0) && decide (v.kids.length = 0)) := rfl; have hE : noTextB v = decide (v.t.size = 0) := rfl; have hem := empty_iff v.t; have hshp : shp v = if formB v = false then 3 else if 16384 < v.t.size ∨ 200 < v.kids.length then 5 else if v.k = 9 ∧ fieldsB v = false then 3 else 0 := rfl
  rw [← hE] at hem; generalize formB v = F at hform hshp; generalize bareB v = B at hform hB; generalize plainB v = P at hform hP; generalize noTextB v = E at hform hE hem; generalize hG : fieldsB v = G at hshp; generalize shp v = R at hshp ⊢; generalize hN0 : decide (v.names.length = 0) = N0 at hform hP; generalize v.k = k at hk hcs hform hshp; generalize v.n = n at hcs hform hB hnn; generalize v.s = s at hcs hform hB; generalize v.t = t at hcs hE hem ht hshp; generalize v.names.length = N at hcs hN0 nl; generalize v.kids.length = K at hcs hP kl hshp; have hbel : Below w.heap.size w (w.alloc (.cells cs.toArray 82)) := (Below.refl _ w).alloc (Nat.le_refl _) _; have hR : VBlk 82 (w.alloc (.cells cs.toArray 82)) w.heap.size cs := VBlk.mk w _ _; have h1 := h.below hbel; have HF := Hid2.mk (fun m => fields_any (f := f) (v := v) (h1.below (belowN (Below.refl _ _) m))); rw [hG] at HF; have HR := Hid2.mk hR; have HB := Hid2.mk hbel; have Hshp := Hid2.mk hshp; have Hform := Hid2.mk hform; have hBv := Hid2.mk hB; have hPv := Hid2.mk hP; have hEv := Hid2.mk hE; have hN0v := Hid2.mk hN0; have c0 := hR.cell 0 (by subst hcs; simp); have c1 := hR.cell 1 (by subst hcs; simp); have c2 := hR.cell 2 (by subst hcs; simp); have c3 := hR.cell 3 (by subst hcs; simp); have c4 := hR.cell 4 (by subst hcs; simp); have c5 := hR.cell 5 (by subst hcs; simp); clear h hform hB hP hE hshp hG hbel hR h1 hN0; subst hcs; simp only [List.getD_cons_zero, List.getD_cons_succ] at c0 c1 c2 c3 c4 c5; have q1 : (k == 1) = false := beq_eq_false_iff_ne.2 (by omega); have q2 : (k == 2) = false := beq_eq_false_iff_ne.2 (by omega); have q3 : (k == 3) = false := beq_eq_false_iff_ne.2 (by omega); have q4 : (k == 4) = false := beq_eq_false_iff_ne.2 (by omega); have Hk := Hid2.mk hk; clear hk
  go_enter Tryz.func173, Tryz.ntmps173
  go_upto_region 1 with fail
  generalize hw1 : World.alloc _ _ = w1 at c0 c1 c2 c3 c4 c5 HF HR HB ⊢
  go_cut [3] (fun b wx => b = .bool B ∧ ∃ m, wx = w1.drewN m)
  case first =>
    by_cases h0 : n = 0
    · obtain rfl := h0
      go_wp2_with fail
      go_meet
      exact ⟨congrArg Value.bool (by rw [hBv.out]; by_cases e : s = 0 <;> simp [e]), 0, rfl⟩
    · have h0' : (n == 0) = false := beq_eq_false_iff_ne.2 h0
      go_wp2_with fail
      go_meet
      exact ⟨congrArg Value.bool (by rw [hBv.out]; simp [h0]), 0, rfl⟩
  case rest =>
  obtain ⟨rfl, m1, rfl⟩ := hcut
  go_upto_region 2 with fail
  go_cut [4] (fun b wx => b = .bool P ∧ ∃ m, wx = w1.drewN m)
  case first =>
    by_cases h0 : N = 0
    · obtain rfl := h0
      go_wp2_with fail
      go_meet
      exact ⟨congrArg Value.bool (by rw [hPv.out, ← hN0v.out]; by_cases e : K = 0 <;> simp [e]), m1, rfl⟩
    · have h0' : ((N : Int) == 0) = false := beq_eq_false_iff_ne.2 (by omega)
      go_wp2_with fail
      go_meet
      exact ⟨congrArg Value.bool (by rw [hPv.out, ← hN0v.out]; simp [h0]), m1, rfl⟩
  case rest =>
  obtain ⟨rfl, m2, rfl⟩ := hcut
  go_upto_block 0 with fail
  go_cut [5] (fun b wx => b = .bool F ∧ ∃ m, wx = w1.drewN m)
  case first =>
    clear Hshp HF HR HB hBv hPv hEv hnn
    by_cases k5 : k = 5
    · obtain rfl := k5
      by_cases c4 : 0 ≤ n
      ·
        by_cases c3 : n ≤ 9007199254740992
        ·
          by_cases c2 : s = 0
          · obtain rfl := c2
            cases P
            · (go_wp2_with fail; go_meet; exact ⟨congrArg Value.bool (by rw [Hid2.out Hform, ← Hid2.out hN0v]; simp [formC, *]), m2, rfl⟩)
            ·
              (go_wp2_with fail; go_meet; exact ⟨congrArg Value.bool (by rw [Hid2.out Hform, ← Hid2.out hN0v]; simp [formC, *]), m2, rfl⟩)
          · have : (s == 0) = false := beq_eq_false_iff_ne.2 c2
            (go_wp2_with fail; go_meet; exact ⟨congrArg Value.bool (by rw [Hid2.out Hform, ← Hid2.out hN0v]; simp [formC, *]), m2, rfl⟩)
        · have : decide (n ≤ 9007199254740992) = false := decide_eq_false c3
          (go_wp2_with fail; go_meet; exact ⟨congrArg Value.bool (by rw [Hid2.out Hform, ← Hid2.out hN0v]; simp [formC, *]), m2, rfl⟩)
      · have : decide (0 ≤ n) = false := decide_eq_false c4
        (go_wp2_with fail; go_meet; exact ⟨congrArg Value.bool (by rw [Hid2.out Hform, ← Hid2.out hN0v]; simp [formC, *]), m2, rfl⟩)
    have q5 : (k == 5) = false := beq_eq_false_iff_ne.2 k5; exact absurd Hk.out (by omega)
  case rest =>
  obtain ⟨rfl, m3, rfl⟩ := hcut; clear Hform hBv hPv hEv hN0v hnn; cases F
  · have Hr := Hid2.mk (show R = 3 by rw [Hshp.out]; rfl)
    clear Hshp
    go_wp2_with fail
    go_ret
    exact ⟨by rw [Hr.out]; rfl, belowN HB.out _⟩
  by_cases d1 : 16384 < t.size
  · have d1' : (16384 : Int) < t.size := by omega
    have Hr := Hid2.mk (show R = 5 by rw [Hshp.out]; simp [d1]); clear Hshp
    go_wp2_with fail
    go_ret
    exact ⟨by rw [Hr.out]; rfl, belowN HB.out _⟩
  have d1' : decide ((16384 : Int) < t.size) = false := decide_eq_false (by omega)
  by_cases d2 : 200 < K
  · have d2' : (200 : Int) < K := by omega
    have Hr := Hid2.mk (show R = 5 by rw [Hshp.out]; simp [d2]); clear Hshp
    go_wp2_with fail
    go_ret
    exact ⟨by rw [Hr.out]; rfl, belowN HB.out _⟩
  have d2' : decide ((200 : Int) < K) = false := decide_eq_false (by omega)
  by_cases d3 : k = 9
  · have Hr := Hid2.mk (show R = if G = false then 3 else 0 by rw [Hshp.out]; simp [d1, d2, d3])
    clear Hshp; subst d3; exact absurd Hk.out (by omega)
  have d3' : (k == 9) = false := beq_eq_false_iff_ne.2 d3; have Hr := Hid2.mk (show R = 0 by rw [Hshp.out]; simp [d1, d2, d3]); clear Hshp
  go_wp2_with fail
  go_ret
  exact ⟨by rw [Hr.out]; rfl, belowN HB.out _⟩
end Vl
end Go.Proofs.YtpfkcfaifleliaaGreat

namespace Go.Proofs.YtpfkcfaifleliaaGreat
open Go.RowKit
namespace Vl

set_option maxRecDepth 100000 in
set_option maxHeartbeats 8000000 in
theorem shape_E {f : Nat} {w : World} {v : V} {cs : List Value} (h : IsV f w v cs) (hk : ¬ v.k = 1 ∧ ¬ v.k = 2 ∧ ¬ v.k = 3 ∧ ¬ v.k = 4 ∧ ¬ v.k = 5) :
    Calls Tryz.prog 173 #[.agg cs.toArray] w fun e w' => e = .returned (.int .i64 (shp v)) ∧ Below w.heap.size w w' := by
  obtain ⟨np, nc, kp, kc, hcs, hnn, ht, nl, nc2, kl, kc2⟩ := IsV.open h; have hform := formB_eq v; have hB : bareB v = (decide (v.n = 0) && decide (v.s = 0)) := rfl; have hP : plainB v = (decide (v.names.length = 0) && decide (v.kids.length = 0)) := rfl; have hE : noTextB v = decide (v.t.size = 0) := rfl; have hem := empty_iff v.t; have hshp : shp v = if formB v = false then 3 else if 16384 < v.t.size ∨ 200 < v.kids.length then 5 else if v.k = 9 ∧ fieldsB v = false then 3 else 0 := rfl
  rw [← hE] at hem; generalize formB v = F at hform hshp; generalize bareB v = B at hform hB; generalize plainB v = P at hform hP; generalize noTextB v = E at hform hE hem; generalize hG : fieldsB v = G at hshp; generalize shp v = R at hshp ⊢; generalize hN0 : decide (v.names.length = 0) = N0 at hform hP; generalize v.k = k at hk hcs hform hshp; generalize v.n = n at hcs hform hB hnn; generalize v.s = s at hcs hform hB; generalize v.t = t at hcs hE hem ht hshp; generalize v.names.length = N at hcs hN0 nl; generalize v.kids.length = K at hcs hP kl hshp; have hbel : Below w.heap.size w (w.alloc (.cells cs.toArray 82)) := (Below.refl _ w).alloc (Nat.le_refl _) _; have hR : VBlk 82 (w.alloc (.cells cs.toArray 82)) w.heap.size cs := VBlk.mk w _ _; have h1 := h.below hbel; have HF := Hid2.mk (fun m => fields_any (f := f) (v := v) (h1.below (belowN (Below.refl _ _) m))); rw [hG] at HF; have HR := Hid2.mk hR; have HB := Hid2.mk hbel; have Hshp := Hid2.mk hshp; have Hform := Hid2.mk hform; have hBv := Hid2.mk hB; have hPv := Hid2.mk hP; have hEv := Hid2.mk hE; have hN0v := Hid2.mk hN0; have c0 := hR.cell 0 (by subst hcs; simp); have c1 := hR.cell 1 (by subst hcs; simp); have c2 := hR.cell 2 (by subst hcs; simp); have c3 := hR.cell 3 (by subst hcs; simp); have c4 := hR.cell 4 (by subst hcs; simp); have c5 := hR.cell 5 (by subst hcs; simp); clear h hform hB hP hE hshp hG hbel hR h1 hN0; subst hcs; simp only [List.getD_cons_zero, List.getD_cons_succ] at c0 c1 c2 c3 c4 c5; have q1 : (k == 1) = false := beq_eq_false_iff_ne.2 (by omega); have q2 : (k == 2) = false := beq_eq_false_iff_ne.2 (by omega); have q3 : (k == 3) = false := beq_eq_false_iff_ne.2 (by omega); have q4 : (k == 4) = false := beq_eq_false_iff_ne.2 (by omega); have q5 : (k == 5) = false := beq_eq_false_iff_ne.2 (by omega); have Hk := Hid2.mk hk; clear hk
  go_enter Tryz.func173, Tryz.ntmps173
  go_upto_region 1 with fail
  generalize hw1 : World.alloc _ _ = w1 at c0 c1 c2 c3 c4 c5 HF HR HB ⊢
  go_cut [3] (fun b wx => b = .bool B ∧ ∃ m, wx = w1.drewN m)
  case first =>
    by_cases h0 : n = 0
    · obtain rfl := h0
      go_wp2_with fail
      go_meet
      exact ⟨congrArg Value.bool (by rw [hBv.out]; by_cases e : s = 0 <;> simp [e]), 0, rfl⟩
    · have h0' : (n == 0) = false := beq_eq_false_iff_ne.2 h0
      go_wp2_with fail
      go_meet
      exact ⟨congrArg Value.bool (by rw [hBv.out]; simp [h0]), 0, rfl⟩
  case rest =>
  obtain ⟨rfl, m1, rfl⟩ := hcut
  go_upto_region 2 with fail
  go_cut [4] (fun b wx => b = .bool P ∧ ∃ m, wx = w1.drewN m)
  case first =>
    by_cases h0 : N = 0
    · obtain rfl := h0
      go_wp2_with fail
      go_meet
      exact ⟨congrArg Value.bool (by rw [hPv.out, ← hN0v.out]; by_cases e : K = 0 <;> simp [e]), m1, rfl⟩
    · have h0' : ((N : Int) == 0) = false := beq_eq_false_iff_ne.2 (by omega)
      go_wp2_with fail
      go_meet
      exact ⟨congrArg Value.bool (by rw [hPv.out, ← hN0v.out]; simp [h0]), m1, rfl⟩
  case rest =>
  obtain ⟨rfl, m2, rfl⟩ := hcut
  go_upto_block 0 with fail
  go_cut [5] (fun b wx => b = .bool F ∧ ∃ m, wx = w1.drewN m)
  case first =>
    clear Hshp HF HR HB hBv hPv hEv hnn
    by_cases k6 : k = 6
    · obtain rfl := k6
      cases B
      · (go_wp2_with fail; go_meet; exact ⟨congrArg Value.bool (by rw [Hid2.out Hform, ← Hid2.out hN0v]; simp [formC, *]), m2, rfl⟩)
      ·
        (go_wp2_with fail; go_meet; exact ⟨congrArg Value.bool (by rw [Hid2.out Hform, ← Hid2.out hN0v]; simp [formC, *]), m2, rfl⟩)
    have q6 : (k == 6) = false := beq_eq_false_iff_ne.2 k6
    by_cases k7 : k = 7
    · obtain rfl := k7
      cases B
      · (go_wp2_with fail; go_meet; exact ⟨congrArg Value.bool (by rw [Hid2.out Hform, ← Hid2.out hN0v]; simp [formC, *]), m2, rfl⟩)
      ·
        (go_wp2_with fail; go_meet; exact ⟨congrArg Value.bool (by rw [Hid2.out Hform, ← Hid2.out hN0v]; simp [formC, *]), m2, rfl⟩)
    have q7 : (k == 7) = false := beq_eq_false_iff_ne.2 k7
    by_cases k8 : k = 8
    · obtain rfl := k8
      cases B
      · (go_wp2_with fail; go_meet; exact ⟨congrArg Value.bool (by rw [Hid2.out Hform, ← Hid2.out hN0v]; simp [formC, *]), m2, rfl⟩)
      ·
        by_cases c1 : N = 0
        · obtain rfl := c1
          (go_wp2_with fail; go_meet; exact ⟨congrArg Value.bool (by rw [Hid2.out Hform, ← Hid2.out hN0v]; simp [formC, *]), m2, rfl⟩)
        · have : ((N : Int) == 0) = false := beq_eq_false_iff_ne.2 (by omega)
          (go_wp2_with fail; go_meet; exact ⟨congrArg Value.bool (by rw [Hid2.out Hform, ← Hid2.out hN0v]; simp [formC, *]), m2, rfl⟩)
    have q8 : (k == 8) = false := beq_eq_false_iff_ne.2 k8
    by_cases k9 : k = 9
    · obtain rfl := k9
      cases B
      · (go_wp2_with fail; go_meet; exact ⟨congrArg Value.bool (by rw [Hid2.out Hform, ← Hid2.out hN0v]; simp [formC, *]), m2, rfl⟩)
      ·
        (go_wp2_with fail; go_meet; exact ⟨congrArg Value.bool (by rw [Hid2.out Hform, ← Hid2.out hN0v]; simp [formC, *]), m2, rfl⟩)
    have q9 : (k == 9) = false := beq_eq_false_iff_ne.2 k9
    go_wp2_with fail
    go_meet
    exact ⟨congrArg Value.bool (by rw [Hform.out]; have hk := Hk.out; simp [formC, k6, k7, k8, k9, hk.1, hk.2.1, hk.2.2.1, hk.2.2.2.1, hk.2.2.2.2]), m2, rfl⟩
  case rest =>
  obtain ⟨rfl, m3, rfl⟩ := hcut; clear Hform hBv hPv hEv hN0v hnn; cases F
  · have Hr := Hid2.mk (show R = 3 by rw [Hshp.out]; rfl)
    clear Hshp
    go_wp2_with fail
    go_ret
    exact ⟨by rw [Hr.out]; rfl, belowN HB.out _⟩
  by_cases d1 : 16384 < t.size
  · have d1' : (16384 : Int) < t.size := by omega
    have Hr := Hid2.mk (show R = 5 by rw [Hshp.out]; simp [d1]); clear Hshp
    go_wp2_with fail
    go_ret
    exact ⟨by rw [Hr.out]; rfl, belowN HB.out _⟩
  have d1' : decide ((16384 : Int) < t.size) = false := decide_eq_false (by omega)
  by_cases d2 : 200 < K
  · have d2' : (200 : Int) < K := by omega
    have Hr := Hid2.mk (show R = 5 by rw [Hshp.out]; simp [d2]); clear Hshp
    go_wp2_with fail
    go_ret
    exact ⟨by rw [Hr.out]; rfl, belowN HB.out _⟩
  have d2' : decide ((200 : Int) < K) = false := decide_eq_false (by omega)
  by_cases d3 : k = 9
  · have Hr := Hid2.mk (show R = if G = false then 3 else 0 by rw [Hshp.out]; simp [d1, d2, d3])
    clear Hshp; subst d3; cases G <;>
    (go_wp2_with (first | (refine Ld.load_on (by rfl) 82 (.tmp 1) rfl w.heap.size rfl 82 _ (0, 0) _ HR.out Tryz.underlying82 rfl infoValue ?_) | (go_fit (HF.out _); rintro e w' ⟨rfl, hbw⟩))
     go_ret
     exact ⟨by rw [Hr.out]; rfl, (belowN HB.out _).trans (hbw.mono HB.out.size)⟩)
  have d3' : (k == 9) = false := beq_eq_false_iff_ne.2 d3; have Hr := Hid2.mk (show R = 0 by rw [Hshp.out]; simp [d1, d2, d3]); clear Hshp
  go_wp2_with fail
  go_ret
  exact ⟨by rw [Hr.out]; rfl, belowN HB.out _⟩
end Vl
end Go.Proofs.YtpfkcfaifleliaaGreat

namespace Go.Proofs.YtpfkcfaifleliaaGreat
open Go.RowKit
namespace Vl

theorem shape_any {f : Nat} {w : World} {v : V} {cs : List Value} (h : IsV f w v cs) :
    Calls Tryz.prog 173 #[.agg cs.toArray] w fun e w' => e = .returned (.int .i64 (shp v)) ∧ Below w.heap.size w w' := by
  by_cases h1 : v.k = 1 ∨ v.k = 2 ∨ v.k = 3
  · exact shape_B h h1
  by_cases h4 : v.k = 4
  · exact shape_C h h4
  by_cases h5 : v.k = 5
  · exact shape_D h h5
  exact shape_E h ⟨fun e => h1 (.inl e), fun e => h1 (.inr (.inl e)), fun e => h1 (.inr (.inr e)), h4, h5⟩

theorem IsV.kids {f : Nat} {w : World} {v : V} {cs : List Value} (h : IsV (f + 1) w v cs) :
    ∃ sn kp kc, cs = [.int .i64 v.k, .int .i64 v.n, .int .i64 v.s, .string v.t, sn, .slice kp v.kids.length kc] ∧ v.kids.length ≤ kc ∧ kc ≤ 9223372036854775807 ∧
      (0 < v.kids.length → ∃ b o, kp = some ⟨b, o, none⟩ ∧ b < w.heap.size ∧ ∀ j, j < v.kids.length → ∃ c, c.length = 6 ∧ IsV f w (v.kids.getD j noV) c ∧ w.rangeAt b (o + j * 6) c) := by
  obtain ⟨sn, sk, rfl, -, -, -, -, -, ⟨kp, kc, rfl, kl, kc2, kr⟩⟩ := h; exact ⟨sn, kp, kc, rfl, kl, kc2, kr⟩

theorem IsV.ones {f : Nat} {w : World} {v : V} {cs : List Value} (h : IsV f w v cs) : cs.toArray.all (·.oneCell') = true := by
  obtain ⟨np, nc, kp, kc, rfl, -⟩ := IsV.open h; simp [Value.oneCell']
abbrev zero6 : List Value := [.int .i64 0, .int .i64 0, .int .i64 0, .string ByteArray.empty, .slice none 0 0, .slice none 0 0]

set_option maxRecDepth 100000 in
set_option maxHeartbeats 8000000 in
theorem check_any : ∀ {f : Nat} {w : World} {v : V} {cs : List Value} (m : Nat) (d : Int), IsV f w v cs → m ≤ 16 → d = 17 - (m : Int) →
    Calls Tryz.prog 144 #[.agg cs.toArray, .int .i64 d] w fun e w' => e = .returned (.int .i64 (chk m v)) ∧ Below w.heap.size w w'
  | 0, _, _, _, _, _, h, _, _ => h.elim
  | f + 1, w, v, cs, m, d, h, hm, hd => by
    have ih : ∀ {w : World} {v : V} {cs : List Value} (m : Nat) (d : Int), IsV f w v cs → m ≤ 16 → d = 17 - (m : Int) → Calls Tryz.prog 144 #[.agg cs.toArray, .int .i64 d] w fun e w' => e = .returned (.int .i64 (chk m v)) ∧ Below w.heap.size w w' := @check_any f; obtain ⟨sn, kp, kc, hcs, kl, kc2, kr⟩ := IsV.kids h; have hlen := h.len; have hbel : Below w.heap.size w (w.alloc (.cells cs.toArray 82)) := (Below.refl _ w).alloc (Nat.le_refl _) _; have hR : VBlk 82 (w.alloc (.cells cs.toArray 82)) w.heap.size cs := VBlk.mk w _ _; have h1 := h.below hbel; have HF := Hid2.mk (shape_any (f := f + 1) (v := v) h1); have HR := Hid2.mk hR; have HB := Hid2.mk hbel; have Hkr := Hid2.mk kr; have c5 := hR.cell 5 (by subst hcs; simp); have hinf : (Tryz.prog.info? 82).map (·.size) = some cs.toArray.size := by rw [infoValue]; simp [hlen]
    have Hih := Hid2.mk @ih; clear h hbel hR h1 kr ih; cases m with
    | zero =>
      have hd1 : 16 < d := by omega
      clear hd; clear hinf HF Hih; subst hcs; simp only [List.getD_cons_zero, List.getD_cons_succ] at c5
      go_enter Tryz.func144, Tryz.ntmps144
      go_wp2_with fail
      go_ret
      exact ⟨rfl, HB.out⟩
    | succ m =>
      have hd1 : d ≤ 16 := by omega
      have hd2 : 1 ≤ d := by omega
      have hd3 : d + 1 = 17 - (m : Int) := by omega
      have Hd3 := Hid2.mk hd3; have Hm := Hid2.mk (show m ≤ 16 by omega); have Hchk := Hid2.mk (show chk (m + 1) v = if shp v = 0 then firstBad (v.kids.map (chk m)) else shp v from rfl); have Hcl := Hid2.mk hcs; clear hd hm hd3; subst hcs; simp only [List.getD_cons_zero, List.getD_cons_succ] at c5; generalize hS : shp v = S at HF Hchk; generalize chk (m + 1) v = R at Hchk ⊢; clear hS
      by_cases h0 : S = 0
      · have Hr := Hid2.mk (show R = firstBad (v.kids.map (chk m)) by rw [Hchk.out, if_pos h0])
        clear Hchk; rw [h0] at HF; clear h0
        go_enter Tryz.func144, Tryz.ntmps144
        generalize hw1 : World.alloc _ _ = w1 at c5 HF HR HB ⊢
        go_wp2_with (first | (refine Ld.load_on (by rfl) 82 (.tmp 2) rfl w.heap.size rfl 82 _ (0, 0) _ HR.out Tryz.underlying82 rfl hinf ?_) | (go_fit HF.out; rintro e w' ⟨rfl, hbw⟩; have c5' := (hbw.cell (p := ⟨w.heap.size, 5, none⟩) (VBlk.lt HR.out)).trans c5))
        have Hbw := Hid2.mk (HB.out.trans (hbw.mono HB.out.size)); have Hkr1 := Hid2.mk (fun h0 => Hkr.out h0); clear hbw c5 c5' HR hinf
        go_loopw [19] (fun i wr => ∃ k : Nat, k ≤ v.kids.length ∧ i = .int .i64 (k : Nat) ∧ Below w.heap.size w wr ∧ ∀ j, j < k → chk m (v.kids.getD j noV) = 0) (fun i _ => v.kids.length - (intOf i).toNat)
        case atStart => exact ⟨0, Nat.zero_le _, rfl, Hbw.out, fun j hj => absurd hj (by omega)⟩
        case round =>
          clear Hbw; obtain ⟨k, hk, rfl, hbr, hall⟩ := hrel; have Hbr := Hid2.mk hbr; have Hall := Hid2.mk hall; clear hbr hall
          by_cases hkN : k < v.kids.length
          · have hkz : (k : Int) < (v.kids.length : Int) := by omega
            obtain ⟨b, o, rfl, hb, hr⟩ := Hkr.out (by omega); obtain ⟨c, hc6, hci, hcr⟩ := hr k hkN; have Hc1 := Hid2.mk (show wr.rangeAt b (o + k * 6) c from fun i u hu => by rw [Hbr.out.cell (p := ⟨b, o + k * 6 + i, none⟩) hb]; exact hcr i u hu); have Hci := Hid2.mk hci; have hic : (Tryz.prog.info? 82).map (·.size) = some c.length := by rw [infoValue, hc6]
            have hone := IsV.ones hci; have hinf2 : (Tryz.prog.info? 82).map (·.size) = some c.toArray.size := by rw [infoValue]; simp [hc6]
            have hZ : VBlk 82 (wr.alloc (.cells zero6.toArray 82)) wr.heap.size zero6 := VBlk.mk wr _ _; have hZ2 : VBlk 82 ((wr.alloc (.cells zero6.toArray 82)).setRow wr.heap.size c.toArray) wr.heap.size c := hZ.setRow c; have hbz : Below w.heap.size w ((wr.alloc (.cells zero6.toArray 82)).setRow wr.heap.size c.toArray) := below_setRow (Hbr.out.alloc Hbr.out.size _) Hbr.out.size _; have Hca := Hid2.mk (Hih.out m (d + 1) (hci.below hbz) Hm.out Hd3.out); have HZ := Hid2.mk hZ; have HZ2 := Hid2.mk hZ2; have Hbz := Hid2.mk hbz; have Hck := Hid2.mk (show (v.kids.map (chk m)).getD k 0 = chk m (v.kids.getD k noV) from chk_map m v.kids k hkN); generalize hx : chk m (v.kids.getD k noV) = x at Hca Hck; have Hx := Hid2.mk hx; clear hr hcr hci Hkr Hkr1 hZ hZ2 hbz hx
            by_cases hx0 : x = 0
            · obtain rfl := hx0
              go_wp2_with (first | (refine wpList_load_mid rfl 82 (.tmp 21) rfl b (o + k * 6) rfl c _ Hc1.out Tryz.underlying82 rfl hic ?_) | (refine wpList_store_row rfl 82 (.tmp 7) (.tmp 22) rfl wr.heap.size c.toArray rfl rfl 82 zero6.toArray HZ.out hinf2 (by simp [hc6]) hone ?_) | (refine Ld.load_on (by rfl) 82 (.tmp 7) rfl wr.heap.size rfl 82 _ (0, 0) _ HZ2.out Tryz.underlying82 rfl hinf2 ?_) | (go_fit Hca.out; rintro e w' ⟨rfl, hbw⟩))
              refine ⟨⟨k + 1, by omega, rfl, Hbz.out.trans (hbw.mono Hbz.out.size), fun j hj => (Nat.lt_succ_iff_lt_or_eq.1 hj).elim (Hall.out j) (fun e => by rw [e]; exact Hx.out)⟩, ?_⟩
              show v.kids.length - ((k : Int) + 1).toNat < v.kids.length - (k : Int).toNat
              omega
            · have hx0' : (x == 0) = false := beq_eq_false_iff_ne.2 hx0
              go_wp2_with (first | (refine wpList_load_mid rfl 82 (.tmp 21) rfl b (o + k * 6) rfl c _ Hc1.out Tryz.underlying82 rfl hic ?_) | (refine wpList_store_row rfl 82 (.tmp 7) (.tmp 22) rfl wr.heap.size c.toArray rfl rfl 82 zero6.toArray HZ.out hinf2 (by simp [hc6]) hone ?_) | (refine Ld.load_on (by rfl) 82 (.tmp 7) rfl wr.heap.size rfl 82 _ (0, 0) _ HZ2.out Tryz.underlying82 rfl hinf2 ?_) | (go_fit Hca.out; rintro e w' ⟨rfl, hbw⟩))
              go_ret
              refine ⟨?_, Hbz.out.trans (hbw.mono Hbz.out.size)⟩; rw [Hr.out, firstBad_take (i := k) (by rw [List.length_map]; exact hkN) (fun j hj => by rw [chk_map m v.kids j (by omega)]; exact Hall.out j hj) (by rw [Hck.out]; exact hx0), Hck.out]
              rfl
          · obtain rfl : k = v.kids.length := by omega
            have hkz : (v.kids.length : Int) ≤ (v.kids.length : Int) := by omega
            have Hr2 := Hid2.mk (show R = 0 by rw [Hr.out]; exact firstBad_all fun j hj => by rw [List.length_map] at hj; rw [chk_map m v.kids j hj]; exact Hall.out j hj)
            go_wp2_with fail
            go_ret
            exact ⟨by rw [Hr2.out]; rfl, Hbr.out⟩
      · have Hr := Hid2.mk (show R = S by rw [Hchk.out, if_neg h0])
        have h0' : (S == 0) = false := beq_eq_false_iff_ne.2 h0
        go_enter Tryz.func144, Tryz.ntmps144
        go_wp2_with (first | (refine Ld.load_on (by rfl) 82 (.tmp 2) rfl w.heap.size rfl 82 _ (0, 0) _ HR.out Tryz.underlying82 rfl hinf ?_) | (go_fit HF.out; rintro e w' ⟨rfl, hbw⟩))
        go_ret
        exact ⟨by rw [Hr.out]; rfl, HB.out.trans (hbw.mono HB.out.size)⟩

set_option maxHeartbeats 800000 in
theorem Check_any {f : Nat} {w : World} {v : V} {cs : List Value} (h : IsV f w v cs) :
    Calls Tryz.prog 112 #[.agg cs.toArray] w fun e w' => e = .returned (.int .i64 (chk 16 v)) ∧ Below w.heap.size w w' := by
  have hlen := h.len; have hbel : Below w.heap.size w (w.alloc (.cells cs.toArray 82)) := (Below.refl _ w).alloc (Nat.le_refl _) _; have hR : VBlk 82 (w.alloc (.cells cs.toArray 82)) w.heap.size cs := VBlk.mk w _ _; have HF := Hid2.mk (check_any (f := f) (v := v) 16 1 (h.below hbel) (by omega) (by omega)); have HR := Hid2.mk hR; have HB := Hid2.mk hbel; have hinf : (Tryz.prog.info? 82).map (·.size) = some cs.toArray.size := by rw [infoValue]; simp [hlen]
  clear h hbel hR hlen
  go_enter Tryz.func112, Tryz.ntmps112
  go_wp2_with (first | (refine Ld.load_on (by rfl) 82 (.tmp 1) rfl w.heap.size rfl 82 _ (0, 0) _ HR.out Tryz.underlying82 rfl hinf ?_) | (go_fit HF.out; rintro e w' ⟨rfl, hbw⟩))
  go_ret
  exact ⟨rfl, HB.out.trans (hbw.mono HB.out.size)⟩
end Vl
end Go.Proofs.YtpfkcfaifleliaaGreat

namespace Go.Proofs.YtpfkcfaifleliaaGreat
open Go.RowKit
namespace K
def readV (en : Bool) (l : List Int) : Rd V := match rdV 16 l with
  | .bad e => .bad e
  | .ok v r => if chk 16 v ≠ 0 then .bad (chk 16 v) else if en = true ∧ 0 < r.length then .bad 3 else if 65536 < l.length - r.length then .bad 5 else .ok v r
def ReadPost (en : Bool) (w : World) (l : List Int) (r : Ending) (w' : World) : Prop :=
  Below w.heap.size w w' ∧ ∃ (x : V) (cs : List Value) (n : Nat) (e : Int), r = .returned (.tuple #[.agg cs.toArray, .int .i64 n, .int .i64 e]) ∧ IsVo (fun b => w.heap.size ≤ b) 17 w' x cs ∧
    match readV en l with
    | .ok y q => x = y ∧ n = l.length - q.length ∧ e = 0
    | .bad z => x = zV ∧ n = 0 ∧ e = z ∧ z ≠ 0

structure RdSt (w0 : World) (vb rb xb : Nat) (l3 : List Int) (x : V) (cs : List Value) (e : Int) (wx : World) : Prop where
  rs : RS (rb + 1) wx rb l3 e
  vblk : VBlk 82 wx vb zCells
  xblk : VBlk 82 wx xb cs
  val : IsVo (fun b => w0.heap.size ≤ b ∧ b ≠ rb ∧ b ≠ vb) 17 wx x cs
  below : Below w0.heap.size w0 wx
  ne : vb ≠ rb ∧ xb ≠ rb ∧ w0.heap.size ≤ rb ∧ w0.heap.size ≤ vb
section
variable {w0 wx wy : World} {vb rb xb : Nat} {l3 : List Int} {x : V} {cs : List Value} {e e' : Int}
theorem RdSt.fail (h : RdSt w0 vb rb xb l3 x cs e wx) (hr : RS (rb + 1) wy rb l3 e') (hk : KeepR rb wx wy) : RdSt w0 vb rb xb l3 x cs e' wy := by
  have hb := h.below.size; have hne := h.ne; exact ⟨hr, h.vblk.keep hk ⟨h.vblk.lt, hne.1⟩, h.xblk.keep hk ⟨h.xblk.lt, hne.2.1⟩, h.val.keep hk (fun b hb hlt => ⟨hlt, hb.2.1⟩) fun b hb => hb, h.below.trans (Keep.below (Keep.mono hk fun b (hb : b < w0.heap.size) => ⟨by omega, by omega⟩)), hne⟩
theorem RdSt.step (h : RdSt w0 vb rb xb l3 x cs e wx) (hk : Below wx.heap.size wx wy) : RdSt w0 vb rb xb l3 x cs e wy := by
  obtain ⟨sp, cap, h1, h2⟩ := h.rs.ex; exact h.fail (h.rs.keep (Keep.of_below hk) fun b hb => by have := h1.lt; omega) (KeepR.below hk)
end

set_option maxHeartbeats 4000000 in
theorem read_any {w : World} {v : Value} {l : List Int} (en : Bool) (hs : Sl .u8 w v l) (hb : Byt l) (hl : l.length ≤ 140737488355328) :
    Calls Tryz.prog 120 #[v, .bool en] w (ReadPost en w l) := by
  refine enter (args := [v, .bool en]) Tryz.func120 rfl Tryz.ntmps120 rfl ?_; have hs0 := SlB.of_sl hs; obtain ⟨sp, cap, rfl, -⟩ := hs; refine K.kgo ?_; refine WL.alloc (z := .agg zCells.toArray) rfl rfl rfl rfl (fun _ => by kernel_rfl) fun vb w1 hf1 => ?_; have hf1' : Fresh w vb w1 82 zCells := hf1; clear hf1; refine K.kgo ?_; refine WL.build [.slice sp l.length cap, .int .i64 0] rfl rfl rfl rfl rfl (by kernel_rfl) ?_; refine WL.box rfl rfl rfl rfl rfl fun rb w2 hf2 => ?_; have hf2' : Fresh w1 rb w2 272 [.slice sp l.length cap, .int .i64 0] := hf2; clear hf2; have hz1 := hf1'.size; have hz2 := hf2'.size; have hvb := hf1'.eq; have hrb := hf2'.eq; have hw12 : Below w.heap.size w w2 := hf1'.below.trans (hf2'.below.mono (by omega)); have hr2 : RS (rb + 1) w2 rb l 0 := ⟨Nat.lt_succ_self _, hb, sp, cap, hf2'.blk, (hs0.keep (Keep.of_below hw12) fun b hb => hb).mono fun b hb => by omega⟩; have hblk2 : VBlk 82 w2 vb zCells := hf1'.blk.below hf2'.below hf1'.blk.lt; clear hf1' hf2'; refine K.kgo ?_; refine WL.call rfl rfl rfl rfl rfl Tryz.func146 rfl (by kernel_rfl) (value_any 16 1 rfl (by omega) hr2 (by omega)) ?_; rintro _ w3 ⟨x, cs, l3, e3, rfl, hv3, hr3, hk3, ho3⟩; refine ⟨_, rfl, ?_⟩; have hblk3 := hblk2.keep hk3 ⟨hblk2.lt, by omega⟩; refine WL.alloc (z := .agg zCells.toArray) rfl rfl rfl rfl (fun _ => by kernel_rfl) fun xb w4 hf4 => ?_; have hf4' : Fresh w3 xb w4 82 zCells := hf4; clear hf4; have hcs := hv3.len; refine WL.storeRow rfl rfl rfl rfl rfl rfl hf4'.blk hcs rfl hv3.one ?_; have hz3 := hk3.size; have hxb := hf4'.eq; have hz4 := hf4'.size; have hb4 : Below w3.heap.size w3 (w4.setRow xb cs.toArray) := below_setRow hf4'.below (by omega) _; have hx4 : VBlk 82 (w4.setRow xb cs.toArray) xb cs := hf4'.blk.setRow cs; have hz5 : (w4.setRow xb cs.toArray).heap.size = w3.heap.size + 1 := by simpa using hz4
  generalize w4.setRow xb cs.toArray = w5 at hb4 hx4 hz5; have hv5 : IsVo (fun b => w.heap.size ≤ b ∧ b ≠ rb ∧ b ≠ vb) 17 w5 x cs := (hv3.there.keep (Keep.of_below hb4) (fun b _ h => h) fun b hb => hb).mono fun b hb => by have := hb.1; omega
  have hr5 : RS (rb + 1) w5 rb l3 e3 := hr3.keep (Keep.of_below hb4) fun b hb => by omega
  have hblk5 : VBlk 82 w5 vb zCells := hblk3.below hb4 hblk3.lt; have hw5 : Below w.heap.size w w5 := by
    refine hw12.trans (Below.trans (Keep.below (Keep.mono hk3 fun b (hb : b < w.heap.size) => ⟨by omega, by omega⟩)) (hb4.mono (by omega)))
  have hne : vb ≠ rb ∧ xb ≠ rb ∧ w.heap.size ≤ rb ∧ w.heap.size ≤ vb := by omega
  have hst : RdSt w vb rb xb l3 x cs e3 w5 := ⟨hr5, hblk5, hx4, hv5, hw5, hne⟩; obtain ⟨rsp, rcap, hrc, -⟩ := hr5.ex; have hlen := ho3.len; clear hf4' hv3 hk3 hr3 hr5 hblk5 hx4 hv5 hw5 hblk3 hb4 hz5 hr2 hblk2 hw12 hs0; refine K.kgo ?_; refine WL.load rfl rfl rfl rfl rfl rfl (hrc.cell 1 (by simp)) ?_; refine K.kgo ?_; refine WC.mid (fun _ : Int => [(0, .slice sp l.length cap), (1, .bool en), (4, .pointer (some ⟨vb, 0, none⟩)), (7, .pointer (some ⟨rb, 0, none⟩)), (8, .pointer (some ⟨xb, 0, none⟩))]) (fun e4 wx => e4 = (if e3 = 0 then chk 16 x else e3) ∧ RdSt w vb rb xb l3 x cs e4 wx) rfl ?_ ?_
  · by_cases he : e3 = 0
    · refine WC.condT rfl he ?_
      refine K.kgo ?_; refine WL.loadMid rfl rfl rfl rfl rfl rfl (VBlk.rangeAt hst.xblk) hcs ?_; refine WL.call rfl rfl rfl rfl rfl Tryz.func112 rfl (by kernel_rfl) (Vl.Check_any hst.val.isV) ?_; rintro _ w6 ⟨rfl, hb6⟩; refine ⟨_, rfl, ?_⟩; have hst6 := hst.step hb6; refine WL.call rfl rfl rfl rfl rfl Tryz.func147 rfl (by kernel_rfl) (fail_any hst6.rs _) ?_; rintro _ w7 ⟨rfl, hr7, hk7⟩; refine ⟨_, rfl, ?_⟩; refine K.kgo ?_; rw [if_pos he] at hr7; exact WQ.meet _ ⟨rfl, rfl, rfl, rfl, rfl, trivial⟩ ⟨by rw [if_pos he], hst6.fail hr7 hk7⟩
    · refine WC.condF rfl he ?_
      refine K.kgo ?_; exact WQ.meet _ ⟨rfl, rfl, rfl, rfl, rfl, trivial⟩ ⟨by rw [if_neg he], hst⟩
  rintro e4 w6 ⟨he4, hst6⟩; clear hrc hst; obtain ⟨rsp, rcap, hrc, -⟩ := hst6.rs.ex; refine K.kgn ?_; refine WL.mid (fun b : Bool => [(0, .slice sp l.length cap), (4, .pointer (some ⟨vb, 0, none⟩)), (7, .pointer (some ⟨rb, 0, none⟩)), (8, .pointer (some ⟨xb, 0, none⟩)), (32, .bool b)]) (fun b wx => b = decide (en = true ∧ 0 < l3.length) ∧ wx = w6) rfl ?_ ?_
  · cases en with
    | true =>
      refine K.kgo ?_; refine WL.load rfl rfl rfl rfl rfl rfl (hrc.cell 0 (by simp)) ?_
      by_cases h0 : 0 < l3.length
      · refine K.kgo ?_
        exact WQ.meet true ⟨rfl, rfl, rfl, rfl, rfl, trivial⟩ ⟨by simp [h0], rfl⟩
      · refine K.kgo ?_
        exact WQ.meet false ⟨rfl, rfl, rfl, rfl, rfl, trivial⟩ ⟨by simp [h0], rfl⟩
    | false =>
      refine K.kgo ?_; exact WQ.meet false ⟨rfl, rfl, rfl, rfl, rfl, trivial⟩ ⟨by simp, rfl⟩
  rintro b _ ⟨hb5, rfl⟩; refine WC.mid (fun _ : Int => [(0, .slice sp l.length cap), (4, .pointer (some ⟨vb, 0, none⟩)), (7, .pointer (some ⟨rb, 0, none⟩)), (8, .pointer (some ⟨xb, 0, none⟩))]) (fun e5 wx => e5 = (if e4 = 0 then (if en = true ∧ 0 < l3.length then 3 else 0) else e4) ∧ RdSt w vb rb xb l3 x cs e5 wx) rfl ?_ ?_
  · cases b with
    | true =>
      refine K.kgo ?_; refine WL.call rfl rfl rfl rfl rfl Tryz.func147 rfl (by kernel_rfl) (fail_any hst6.rs 3) ?_; rintro _ w7 ⟨rfl, hr7, hk7⟩; refine ⟨_, rfl, ?_⟩; refine K.kgo ?_; refine WQ.meet _ ⟨rfl, rfl, rfl, rfl, trivial⟩ ⟨?_, hst6.fail hr7 hk7⟩; rw [if_pos (of_decide_eq_true hb5.symm)]
    | false =>
      refine K.kgo ?_; refine WQ.meet e4 ⟨rfl, rfl, rfl, rfl, trivial⟩ ⟨?_, hst6⟩; rw [if_neg (of_decide_eq_false hb5.symm)]
      split <;> omega
  rintro e5 w7 ⟨he5, hst7⟩; clear hrc hst6 hb5; obtain ⟨rsp, rcap, hrc, -⟩ := hst7.rs.ex; refine K.kgo ?_; refine WL.load rfl rfl rfl rfl rfl rfl (hrc.cell 0 (by simp)) ?_; refine K.kgo ?_; refine WC.mid (fun _ : Int => [(9, .int .i64 ((l.length : Int) - (l3.length : Int))), (0, .slice sp l.length cap), (4, .pointer (some ⟨vb, 0, none⟩)), (7, .pointer (some ⟨rb, 0, none⟩)), (8, .pointer (some ⟨xb, 0, none⟩))]) (fun e6 wx => e6 = (if e5 = 0 then (if 65536 < l.length - l3.length then 5 else 0) else e5) ∧ RdSt w vb rb xb l3 x cs e6 wx) rfl ?_ ?_
  · by_cases hbig : 65536 < l.length - l3.length
    · refine WC.condT rfl (by omega) ?_
      refine K.kgo ?_; refine WL.call rfl rfl rfl rfl rfl Tryz.func147 rfl (by kernel_rfl) (fail_any hst7.rs 5) ?_; rintro _ w8 ⟨rfl, hr8, hk8⟩; refine ⟨_, rfl, ?_⟩; refine K.kgo ?_; refine WQ.meet _ ⟨rfl, rfl, rfl, rfl, rfl, trivial⟩ ⟨?_, hst7.fail hr8 hk8⟩; rw [if_pos hbig]
    · refine WC.condF rfl (by omega) ?_
      refine K.kgo ?_; refine WQ.meet e5 ⟨rfl, rfl, rfl, rfl, rfl, trivial⟩ ⟨?_, hst7⟩; rw [if_neg hbig]
      split <;> omega
  rintro e6 w8 ⟨he6, hst8⟩; clear hrc hst7; obtain ⟨rsp, rcap, hrc, -⟩ := hst8.rs.ex
  -- what read tells
  have hout : match readV en l with
      | .ok y q => e6 = 0 ∧ x = y ∧ l3 = q
      | .bad z => e6 = z ∧ z ≠ 0 := by
    have h3 := ho3.ok rfl; unfold readV; cases hq : rdV 16 l with
    | bad z =>
      rw [hq] at h3; obtain ⟨rfl, hz⟩ := h3; rw [if_neg hz] at he4; subst he4; rw [if_neg hz] at he5; subst he5; rw [if_neg hz] at he6; subst he6; exact ⟨rfl, hz⟩
    | ok y q =>
      rw [hq] at h3; obtain ⟨rfl, rfl, rfl⟩ := h3; rw [if_pos rfl] at he4; simp only
      by_cases hc : chk 16 x = 0
      · rw [if_neg (by simpa using hc)]
        rw [he4, if_pos hc] at he5
        by_cases h1 : en = true ∧ 0 < l3.length
        · rw [if_pos h1] at he5 ⊢
          rw [he5] at he6; simp at he6
          exact ⟨he6, by omega⟩
        · rw [if_neg h1] at he5 ⊢
          rw [he5, if_pos rfl] at he6
          by_cases h2 : 65536 < l.length - l3.length
          · rw [if_pos h2] at he6 ⊢
            exact ⟨he6, by omega⟩
          · rw [if_neg h2] at he6 ⊢
            exact ⟨he6, rfl, rfl⟩
      · rw [if_pos hc]
        rw [he4, if_neg hc] at he5; rw [he5, if_neg hc] at he6; exact ⟨he6, hc⟩
  refine K.kgo ?_; refine WL.load rfl rfl rfl rfl rfl rfl (hrc.cell 1 (by simp)) ?_
  by_cases h6 : e6 = 0
  · refine K.kgo ?_
    refine WL.loadMid rfl rfl rfl rfl rfl rfl (VBlk.rangeAt hst8.xblk) hcs ?_; refine K.kgo ?_; refine WL.storeRow rfl rfl rfl rfl rfl rfl hst8.vblk hcs rfl hst8.val.one ?_; refine K.kgo ?_; have hset : Keep (fun b => b ≠ vb) w8 (w8.setRow vb cs.toArray) := Keep.setRow (Keep.refl _ w8) (fun hk => hk rfl) _; refine WQ.retCTT rfl rfl rfl rfl rfl hcs (hst8.vblk.setRow cs) ⟨Keep.below (Keep.setRow (Keep.of_below hst8.below) (fun hk => by omega) _), x, cs, l.length - l3.length, 0, ?_, (hst8.val.keep hset (fun b hb _ => hb.2.2) fun b hb => hb.1), ?_⟩
    · rw [show ((l.length - l3.length : Nat) : Int) = (l.length : Int) - (l3.length : Int) by omega]
    · cases hq : readV en l with
      | ok y q => rw [hq] at hout; obtain ⟨-, rfl, rfl⟩ := hout; exact ⟨rfl, rfl, rfl⟩
      | bad z => rw [hq] at hout; exact absurd (hout.1.symm.trans h6) hout.2
  · refine K.kgo ?_
    refine WC.drawn 7 (fun wx => VBlk 272 wx rb [.slice rsp l3.length rcap, .int .i64 e6]) fun w9 hd9 => ?_; have hst9 := hst8.step (hd9.below _); have hS : VBlk 272 w9 rb [.slice rsp l3.length rcap, .int .i64 e6] := hrc.below (hd9.below _) hrc.lt; refine WD.build zCells 0 rfl (by kernel_rfl) rfl rfl (fun _ _ _ _ _ h => h) rfl rfl rfl (by kernel_rfl) (.inr hS) ?_; refine K.fr [1, 2, 3] hS ?_; refine K.wl 4 [7] rfl rfl rfl rfl rfl rfl rfl (fun wx hx => hx.cell 1 (by simp)) hS ?_; refine K.wo 5 ?_; refine WL.storeRow rfl rfl rfl rfl rfl rfl hst9.vblk rfl rfl (zV_is (fun _ => True) 0 w9).one ?_; have hne2 := hst9.ne; have hS2 : VBlk 272 (w9.setRow vb zCells.toArray) rb [.slice rsp l3.length rcap, .int .i64 e6] := hS.setRow_other _ (by omega); have hvb2 := hst9.vblk.setRow zCells; have hbel2 : Below w.heap.size w (w9.setRow vb zCells.toArray) := Keep.below (Keep.setRow (Keep.of_below hst9.below) (fun hk => by omega) _); generalize w9.setRow vb zCells.toArray = w10 at hS2 hvb2 hbel2; refine K.di hS2 ?_; refine K.wo 6 ?_; refine WL.pure rfl rfl rfl rfl ?_; refine K.di hS2 ?_; refine K.wo 7 ?_; refine WL.pure rfl rfl rfl rfl ?_; refine K.dl ?_; refine WD.done (by kernel_rfl) ?_; refine K.kgo ?_; refine WQ.retCTT rfl rfl rfl rfl rfl rfl hvb2 ⟨hbel2, zV, zCells, 0, e6, rfl, zV_is _ _ _, ?_⟩; cases hq : readV en l with
    | ok y q => rw [hq] at hout; exact absurd hout.1 h6
    | bad z => rw [hq] at hout; exact ⟨rfl, rfl, hout.1, hout.2⟩

def DecPost (w : World) (l : List Int) (r : Ending) (w' : World) : Prop :=
  Below w.heap.size w w' ∧ ∃ (x : V) (cs : List Value) (e : Int), r = .returned (.tuple #[.agg cs.toArray, .int .i64 e]) ∧ IsVo (fun b => w.heap.size ≤ b) 17 w' x cs ∧
    match readV true l with
    | .ok y _ => x = y ∧ e = 0
    | .bad z => x = zV ∧ e = z ∧ z ≠ 0
theorem decode_any {w : World} {v : Value} {l : List Int} (hs : Sl .u8 w v l) (hb : Byt l) (hl : l.length ≤ 140737488355328) :
    Calls Tryz.prog 89 #[v] w (DecPost w l) := by
  refine enter (args := [v]) Tryz.func89 rfl Tryz.ntmps89 rfl ?_; refine K.kgo ?_; refine WL.alloc (z := .agg zCells.toArray) rfl rfl rfl rfl (fun _ => by kernel_rfl) fun vb w1 hf1 => ?_; have hf1' : Fresh w vb w1 82 zCells := hf1; clear hf1; have hz1 := hf1'.size; have hvb := hf1'.eq; have hb1 := hf1'.below; have hblk1 := hf1'.blk; clear hf1'; refine K.kgo ?_; refine WL.call rfl rfl rfl rfl rfl Tryz.func120 rfl (by kernel_rfl) (read_any true (hs.of_below hb1) hb hl) ?_; rintro _ w2 ⟨hb2, x, cs, n, e, rfl, hv2, hout⟩; refine ⟨_, rfl, ?_⟩; have hcs := hv2.len; have hblk2 := hblk1.below hb2 hblk1.lt; have hz2 := hb2.size; refine K.kgo ?_; refine WL.alloc (z := .agg zCells.toArray) rfl rfl rfl rfl (fun _ => by kernel_rfl) fun xb w3 hf3 => ?_; have hf3' : Fresh w2 xb w3 82 zCells := hf3; clear hf3; refine WL.storeRow rfl rfl rfl rfl rfl rfl hf3'.blk hcs rfl hv2.one ?_; have hxb := hf3'.eq; have hb4 : Below w2.heap.size w2 (w3.setRow xb cs.toArray) := below_setRow hf3'.below (by omega) _; have hx4 : VBlk 82 (w3.setRow xb cs.toArray) xb cs := hf3'.blk.setRow cs; generalize w3.setRow xb cs.toArray = w4 at hb4 hx4; clear hf3'; have hblk4 := hblk2.below hb4 hblk2.lt; have hw4 : Below w.heap.size w w4 := hb1.trans ((hb2.mono (by omega)).trans (hb4.mono (by omega))); have hv4 : IsVo (fun b => w.heap.size ≤ b ∧ b ≠ vb) 17 w4 x cs := hv2.keep (Keep.of_below hb4) (fun b _ h => h) fun b hb => by omega
  refine K.kgo ?_; refine WL.loadMid rfl rfl rfl rfl rfl rfl (VBlk.rangeAt hx4) hcs ?_; refine K.kgo ?_; refine WL.storeRow rfl rfl rfl rfl rfl rfl hblk4 hcs rfl hv4.one ?_; refine K.kgo ?_; have hset : Keep (fun b => b ≠ vb) w4 (w4.setRow vb cs.toArray) := Keep.setRow (Keep.refl _ w4) (fun hk => hk rfl) _; refine WQ.retCT rfl rfl rfl rfl hcs (hblk4.setRow cs) ⟨Keep.below (Keep.setRow (Keep.of_below hw4) (fun hk => by omega) _), x, cs, e, rfl, hv4.keep hset (fun b hb _ => hb.2) (fun b hb => hb.1), ?_⟩; cases hq : readV true l with
  | ok y q => rw [hq] at hout; exact ⟨hout.1, hout.2.2⟩
  | bad z => rw [hq] at hout; exact ⟨hout.1, hout.2.2⟩
end K
end Go.Proofs.YtpfkcfaifleliaaGreat

namespace Go.Proofs.YtpfkcfaifleliaaGreat
open Go.RowKit
namespace K

theorem encV_two {m : Nat} {v : V} : encV (m + 1) v = v.k ::
    (if v.k = 2 then [v.n] else if v.k = 3 then uvB (zig v.n) else if v.k = 4 then uvB (zig v.n) ++ [v.s] else if v.k = 5 then uvB v.n.toNat
     else if v.k = 6 ∨ v.k = 7 then uvB v.t.size ++ byI v.t
     else if v.k = 8 ∨ v.k = 9 then uvB v.kids.length ++ (List.range v.kids.length).flatMap (pieceE (encV m) (decide (v.k = 9)) v.names v.kids) else []) := rfl
set_option maxHeartbeats 16000000 in
theorem clay_any (m : Nat) (ih : ∀ {f : Nat} {w0 w : World} {v : V} {cs : List Value} {b : Value} {l : List Int}, IsV f w0 v cs → chk m v = 0 → Bu w b l → Apart w0 w b → l.length + (encV m v).length ≤ 70368744177664 →
      Calls Tryz.prog 113 #[b, .agg cs.toArray] w fun e w' => ∃ b', e = .returned b' ∧ Bu w' b' (l ++ encV m v) ∧ Grow w b w' b') {f : Nat} {w0 w : World} {v : V} {cs : List Value} {b : Value} {l : List Int}
    (hv : IsV f w0 v cs) (hc : chk (m + 1) v = 0) (hb : Bu w b l) (ha : Apart w0 w b) (hm : l.length + (encV (m + 1) v).length ≤ 70368744177664) :
    Calls Tryz.prog 113 #[b, .agg cs.toArray] w fun e w' => ∃ b', e = .returned b' ∧ Bu w' b' (l ++ encV (m + 1) v) ∧ Grow w b w' b' := by
  obtain ⟨hk, f2, f3, f4, f5, fk, ft, f9⟩ := shp_form (chk_shp hc); cases f with
  | zero => exact hv.elim
  | succ f =>
  obtain ⟨sn, sk, rfl, wk, wn, ws, -, hnames, hkids⟩ := hv; have hkey := encV_two (m := m) (v := v); rw [hkey] at hm; have hn : -9223372036854775808 ≤ v.n ∧ v.n ≤ 9223372036854775807 := by simp [Lit.wf, IntKind.min, IntKind.max, IntKind.bits, IntKind.signed] at wn; omega
  have hzl := zig_lt hn; refine enter (args := [b, .agg (six v sn sk).toArray]) Tryz.func113 rfl Tryz.ntmps113 rfl ?_; refine K.kgo ?_; refine WL.box rfl rfl rfl rfl rfl fun bb w1 hf => ?_; have hfb : Fresh w bb w1 47 [b] := by obtain ⟨sp, c, rfl, -, -⟩ := hb.form; exact hf
  clear hf; have hbb : bb = w.heap.size := hfb.eq; refine WL.box rfl rfl rfl rfl rfl fun g w2 hf => ?_; have hfg : Fresh w1 g w2 82 (six v sn sk) := hf; clear hf; have hgb : g = bb + 1 := by rw [hfg.eq, hfb.size, hbb]
  have hbw : ∀ x, b.ownBlock = some x → x < w.heap.size := hb.lt; have hbx : Bx bb w2 b l := ⟨(hfb.blk.below hfg.below hfb.blk.lt), (hb.below hfb.below).below hfg.below, fun e => by have := hbw _ e; omega⟩; have hblk : VBlk 82 w2 g (six v sn sk) := hfg.blk; have hgo : b.ownBlock ≠ some g := fun e => by have := hbw _ e; omega
  have hw12 : Below w.heap.size w w2 := hfb.below.trans (hfg.below.mono hfb.below.size); have hsz2 : w2.heap.size = w.heap.size + 2 := by rw [hfg.size, hfb.size]
  clear hfb hfg
  -- what stands while the own row grows
  have hR : ∀ {wk vk}, GrowB bb w2 b wk vk → VBlk 82 wk g (six v sn sk) := fun h => (Bx.keep h hblk hgo (by omega)).1; have hA : ∀ {wk vk}, GrowB bb w2 b wk vk → Apart w0 wk vk := fun {wk vk} h => by
    refine ⟨?_, fun x hx => (h.2 x hx).elim (fun h2 => ha.own x h2) (fun h2 => by have := ha.below.size; omega)⟩; have h1 : Below w0.heap.size w0 w2 := ha.below.trans (hw12.mono ha.below.size); refine h1.trans ((h.1.mono fun x (hx : x < w0.heap.size) => ⟨Nat.lt_of_lt_of_le hx h1.size, fun e => by have := ha.own x e; omega, by have := ha.below.size; omega⟩).below)
  have hG : ∀ {wk vk}, GrowB bb w2 b wk vk → Grow w b wk vk := fun {wk vk} h => by
    refine ⟨?_, fun x hx => (h.2 x hx).imp id (fun h2 => by omega)⟩; have h1 : Keep (fun x => x < w.heap.size ∧ b.ownBlock ≠ some x) w w2 := (Keep.of_below hw12).mono fun _ h => h.1; exact h1.trans (h.1.mono fun x hx => ⟨by omega, hx.2, by omega⟩)
  have g0 : GrowB bb w2 b w2 b := GrowB.refl _ _ _; have fin : ∀ {b' w' x}, Bu w' b' (l ++ v.k :: x) → GrowB bb w2 b w' b' → (v.k :: x = encV (m + 1) v) → ∃ b'', Ending.returned b' = .returned b'' ∧ Bu w' b'' (l ++ encV (m + 1) v) ∧ Grow w b w' b'' :=
    fun {b' w' x} h1 h2 h3 => ⟨b', rfl, by rw [← h3]; exact h1, hG h2⟩
  have e8 : IntKind.u8.wrap v.k = v.k := by rw [IntKind.wrap_u8]; omega
  have hl1 : l.length + 1 ≤ 70368744177664 := by simp at hm; omega
  refine K.kgo ?_; refine WL.fn (caps := [.tmp 2]) rfl rfl rfl rfl rfl ?_; refine K.kgo ?_; refine WL.load rfl rfl rfl rfl rfl rfl (hbx.blk.cell 0 (by simp)) ?_; refine K.kgo ?_; refine WL.load rfl rfl rfl rfl rfl rfl ((hR g0).cell 0 (by simp)) ?_; refine K.kgo ?_; refine WL.push rfl rfl rfl rfl rfl rfl rfl rfl rfl rfl rfl (fun _ => rfl) rfl hbx.bu (by simp; omega) fun b2 w3 hb2 hg2 => ?_; obtain ⟨hblk3, hbx3, g3⟩ := hbx.put hb2 hg2; refine WL.store rfl rfl rfl rfl rfl hb2.cell1 (by kernel_rfl) (hblk3.cell 0 (by simp)) (hblk3.free 0) ?_; generalize w3.setCell ⟨bb, 0, none⟩ b2 = w4 at hbx3 g3; clear hblk3 hg2 hb2; rw [e8] at hbx3; refine K.kgo ?_; refine WL.load rfl rfl rfl rfl rfl rfl ((hR g3).cell 0 (by simp)) ?_; have hl2 : (l ++ [v.k]).length = l.length + 1 := by simp
  have hL0 : ∀ x, l ++ v.k :: x = (l ++ [v.k]) ++ x := fun x => by simp
  generalize hL : l ++ [v.k] = L at hbx3 hl2 hL0; have hl3 : L.length + (encV (m + 1) v).length ≤ 70368744177664 + 1 := by rw [hkey]; simp at hm ⊢; omega
  by_cases k1 : v.k = 1
  · refine K.kgo ?_
    refine WL.load rfl rfl rfl rfl rfl rfl (hbx3.blk.cell 0 (by simp)) ?_; refine K.kgo ?_; refine WQ.ret1 rfl rfl (fin (x := []) (by rw [hL0, List.append_nil]; exact hbx3.bu) g3 ?_); rw [hkey]; simp [k1]
  by_cases k2 : v.k = 2
  · have hx := f2 k2
    have e8 : IntKind.u8.wrap v.n = v.n := by rw [IntKind.wrap_u8]; omega
    have hkx : encV (m + 1) v = v.k :: [v.n] := by rw [hkey, if_pos k2]
    rw [hkx] at hl3; simp at hl3
    refine K.kgo ?_; refine WL.load rfl rfl rfl rfl rfl rfl (hbx3.blk.cell 0 (by simp)) ?_; refine K.kgo ?_; refine WL.load rfl rfl rfl rfl rfl rfl ((hR g3).cell 1 (by simp)) ?_; refine K.kgo ?_; refine WL.push rfl rfl rfl rfl rfl rfl rfl rfl rfl rfl rfl (fun _ => rfl) rfl hbx3.bu (by simp; omega) fun b3 w5 hb3 hg3 => ?_; obtain ⟨hblk4, hbx4, g4⟩ := hbx3.put hb3 hg3; refine WL.store rfl rfl rfl rfl rfl hb3.cell1 (by kernel_rfl) (hblk4.cell 0 (by simp)) (hblk4.free 0) ?_; generalize w5.setCell ⟨bb, 0, none⟩ b3 = w6 at hbx4 g4; refine K.kgo ?_; refine WL.load rfl rfl rfl rfl rfl rfl (hbx4.blk.cell 0 (by simp)) ?_; refine K.kgo ?_; refine WQ.ret1 rfl rfl (fin (x := [v.n]) ?_ (g3.trans g4) hkx.symm); rw [hL0, ← e8]; exact hbx4.bu
  by_cases k3 : v.k = 3
  · have hkx : encV (m + 1) v = v.k :: uvB (zig v.n) := by rw [hkey, if_neg k2, if_pos k3]
    rw [hkx] at hl3; simp at hl3
    refine K.kgo ?_; refine WL.load rfl rfl rfl rfl rfl rfl ((hR g3).cell 1 (by simp)) ?_; refine K.kgo ?_; refine WL.call rfl rfl rfl rfl rfl Tryz.func76 rfl (by kernel_rfl) (zig_any v.n hn w4) ?_; rintro e _ ⟨rfl, rfl⟩; refine ⟨_, rfl, ?_⟩; refine WL.callF (args := [.tmp 30]) rfl rfl rfl rfl rfl rfl Tryz.func145 rfl (by kernel_rfl) (lay1_any hzl hbx3 (by omega)) ?_; rintro e w6 ⟨rfl, b4, hbx4, g4⟩; refine ⟨_, rfl, ?_⟩; refine K.kgo ?_; refine WL.load rfl rfl rfl rfl rfl rfl (hbx4.blk.cell 0 (by simp)) ?_; refine K.kgo ?_; exact WQ.ret1 rfl rfl (fin (by rw [hL0]; exact hbx4.bu) (g3.trans g4) hkx.symm)
  by_cases k4 : v.k = 4
  · have hx := f4 k4
    have e8 : IntKind.u8.wrap v.s = v.s := by rw [IntKind.wrap_u8]; omega
    have hkx : encV (m + 1) v = v.k :: (uvB (zig v.n) ++ [v.s]) := by rw [hkey, if_neg k2, if_neg k3, if_pos k4]
    rw [hkx] at hl3; simp at hl3
    refine K.kgo ?_; refine WL.load rfl rfl rfl rfl rfl rfl ((hR g3).cell 1 (by simp)) ?_; refine K.kgo ?_; refine WL.call rfl rfl rfl rfl rfl Tryz.func76 rfl (by kernel_rfl) (zig_any v.n hn w4) ?_; rintro e _ ⟨rfl, rfl⟩; refine ⟨_, rfl, ?_⟩; refine WL.callF (args := [.tmp 37]) rfl rfl rfl rfl rfl rfl Tryz.func145 rfl (by kernel_rfl) (lay1_any hzl hbx3 (by omega)) ?_; rintro e w6 ⟨rfl, b4, hbx4, g4⟩; refine ⟨_, rfl, ?_⟩; have g34 := g3.trans g4; refine K.kgo ?_; refine WL.load rfl rfl rfl rfl rfl rfl (hbx4.blk.cell 0 (by simp)) ?_; refine K.kgo ?_; refine WL.load rfl rfl rfl rfl rfl rfl ((hR g34).cell 2 (by simp)) ?_; refine K.kgo ?_; refine WL.push rfl rfl rfl rfl rfl rfl rfl rfl rfl rfl rfl (fun _ => rfl) rfl hbx4.bu (by simp; omega) fun b5 w7 hb5 hg5 => ?_; obtain ⟨hblk5, hbx5, g5⟩ := hbx4.put hb5 hg5; refine WL.store rfl rfl rfl rfl rfl hb5.cell1 (by kernel_rfl) (hblk5.cell 0 (by simp)) (hblk5.free 0) ?_; generalize w7.setCell ⟨bb, 0, none⟩ b5 = w8 at hbx5 g5; refine K.kgo ?_; refine WL.load rfl rfl rfl rfl rfl rfl (hbx5.blk.cell 0 (by simp)) ?_; refine K.kgo ?_; refine WQ.ret1 rfl rfl (fin (x := uvB (zig v.n) ++ [v.s]) ?_ (g34.trans g5) hkx.symm); rw [hL0, ← List.append_assoc, ← e8]; exact hbx5.bu
  by_cases k5 : v.k = 5
  · have hx := f5 k5
    have e8 : IntKind.u64.wrap v.n = (v.n.toNat : Int) := by rw [IntKind.wrap_u64]; omega
    have hkx : encV (m + 1) v = v.k :: uvB v.n.toNat := by rw [hkey, if_neg k2, if_neg k3, if_neg k4, if_pos k5]
    rw [hkx] at hl3; simp at hl3
    refine K.kgo ?_; refine WL.load rfl rfl rfl rfl rfl rfl ((hR g3).cell 1 (by simp)) ?_; refine K.kgo ?_; refine WL.callF (args := [.tmp 50]) rfl rfl rfl rfl rfl rfl Tryz.func145 rfl (by kernel_rfl) (by rw [e8]; exact lay1_any (by omega) hbx3 (by omega)) ?_; rintro e w6 ⟨rfl, b4, hbx4, g4⟩; refine ⟨_, rfl, ?_⟩; refine K.kgo ?_; refine WL.load rfl rfl rfl rfl rfl rfl (hbx4.blk.cell 0 (by simp)) ?_; refine K.kgo ?_; exact WQ.ret1 rfl rfl (fin (by rw [hL0]; exact hbx4.bu) (g3.trans g4) hkx.symm)
  by_cases k67 : v.k = 6 ∨ v.k = 7
  · have e8 : IntKind.u64.wrap (v.t.size : Int) = ((v.t.size : Nat) : Int) := by rw [IntKind.wrap_u64]; omega
    have hkx : encV (m + 1) v = v.k :: (uvB v.t.size ++ byI v.t) := by rw [hkey, if_neg k2, if_neg k3, if_neg k4, if_neg k5, if_pos k67]
    have hbl := byI_len v.t; rw [hkx] at hl3; simp only [List.length_cons, List.length_append] at hl3; rcases k67 with k6 | k7
    all_goals
      refine K.kgo ?_; refine WL.load rfl rfl rfl rfl rfl rfl ((hR g3).cell 3 (by simp)) ?_; refine K.kgo ?_; refine WL.callF (args := [.tmp 59]) rfl rfl rfl rfl rfl rfl Tryz.func145 rfl (by kernel_rfl) (by rw [e8]; exact lay1_any (by omega) hbx3 (by omega)) ?_; rintro e w6 ⟨rfl, b4, hbx4, g4⟩; refine ⟨_, rfl, ?_⟩; have g34 := g3.trans g4; refine K.kgo ?_; refine WL.load rfl rfl rfl rfl rfl rfl (hbx4.blk.cell 0 (by simp)) ?_; refine K.kgo ?_; refine WL.load rfl rfl rfl rfl rfl rfl ((hR g34).cell 3 (by simp)) ?_; refine WL.appS rfl rfl rfl rfl rfl hbx4.bu rfl (by rw [List.length_append]; omega) fun b5 w7 hb5 hg5 => ?_; obtain ⟨hblk5, hbx5, g5⟩ := hbx4.put hb5 hg5; refine WL.store rfl rfl rfl rfl rfl hb5.cell1 (by kernel_rfl) (hblk5.cell 0 (by simp)) (hblk5.free 0) ?_; generalize w7.setCell ⟨bb, 0, none⟩ b5 = w8 at hbx5 g5; refine K.kgo ?_; refine WL.load rfl rfl rfl rfl rfl rfl (hbx5.blk.cell 0 (by simp)) ?_; refine K.kgo ?_; refine WQ.ret1 rfl rfl (fin (x := uvB v.t.size ++ byI v.t) ?_ (g34.trans g5) hkx.symm); rw [hL0, ← List.append_assoc]; exact hbx5.bu
  have k89 : v.k = 8 ∨ v.k = 9 := by omega
  obtain ⟨sp, cap, rfl, hcap1, hcap2, hrow⟩ := hkids; have hkx : encV (m + 1) v = v.k :: (uvB v.kids.length ++ (List.range v.kids.length).flatMap (pieceE (encV m) (decide (v.k = 9)) v.names v.kids)) := by rw [hkey, if_neg k2, if_neg k3, if_neg k4, if_neg k5, if_neg k67, if_pos k89]
  rw [hkx] at hl3; simp only [List.length_cons, List.length_append] at hl3; have hkid : ∀ j, j < v.kids.length → chk m (v.kids.getD j noV) = 0 := fun j hj => chk_kid hc hj; have round : ∀ i, i + 1 ≤ v.kids.length → ((List.range i).flatMap (pieceE (encV m) (decide (v.k = 9)) v.names v.kids)).length + (pieceE (encV m) (decide (v.k = 9)) v.names v.kids i).length ≤ ((List.range v.kids.length).flatMap (pieceE (encV m) (decide (v.k = 9)) v.names v.kids)).length := fun i hi => by
    have := range_len_le (pieceE (encV m) (decide (v.k = 9)) v.names v.kids) hi; rw [range_piece, List.length_append] at this; exact this
  have eK : IntKind.u64.wrap (v.kids.length : Int) = ((v.kids.length : Nat) : Int) := by rw [IntKind.wrap_u64]; omega
  have huk : (uvB v.kids.length).length ≤ 10 := uvF_len 10 _; have hL1 : ∀ x, l ++ v.k :: (uvB v.kids.length ++ x) = (L ++ uvB v.kids.length) ++ x := fun x => by rw [hL0, List.append_assoc]
  rcases k89 with k8 | k9
  · rw [show decide (v.k = 9) = false from decide_eq_false (by omega)] at hkx hl3 round
    refine K.kgo ?_; refine WL.load rfl rfl rfl rfl rfl rfl ((hR g3).cell 5 (by simp)) ?_; refine K.kgo ?_; refine WL.callF (args := [.tmp 72]) rfl rfl rfl rfl rfl rfl Tryz.func145 rfl (by kernel_rfl) (by rw [eK]; exact lay1_any (by omega) hbx3 (by omega)) ?_; rintro e w6 ⟨rfl, b4, hbx4, g4⟩; refine ⟨_, rfl, ?_⟩; have g34 := g3.trans g4; have hLl : (L ++ uvB v.kids.length).length = L.length + (uvB v.kids.length).length := List.length_append; generalize L ++ uvB v.kids.length = M at hbx4 hL1 hLl; refine K.kgo ?_; refine WL.load rfl rfl rfl rfl rfl rfl ((hR g34).cell 5 (by simp)) ?_; refine K.kgo ?_; refine WC.loop (fun i : Nat × Value => [(2, .pointer (some ⟨bb, 0, none⟩)), (3, .pointer (some ⟨g, 0, none⟩)), (5, .func (.func 145) #[] #[.pointer (some ⟨bb, 0, none⟩)]), (75, .slice sp v.kids.length cap), (76, .int .i64 v.kids.length), (77, .int .i64 i.1)])
      (fun i w' => i.1 ≤ v.kids.length ∧ Bx bb w' i.2 (M ++ (List.range i.1).flatMap (pieceE (encV m) false v.names v.kids)) ∧ GrowB bb w2 b w' i.2) (fun i => v.kids.length - i.1) (0, b4)
      ⟨rfl, rfl, rfl, rfl, rfl, rfl, trivial⟩ ⟨Nat.zero_le _, by simpa using hbx4, g34⟩ ?_
    rintro ⟨i, br⟩ wr ⟨hi, hbr, hgr⟩; simp only at hi hbr hgr ⊢
    by_cases hik : i < v.kids.length
    · obtain ⟨kb, ko, rfl, hkb, hcells⟩ := hrow (by omega)
      obtain ⟨c, hc6, hci, hcr⟩ := hcells i hik; have har := hA hgr; have hcr' : wr.rangeAt kb (ko + i * 6) c := fun j u hu => by rw [har.below.cell (p := ⟨kb, ko + i * 6 + j, none⟩) hkb]; exact hcr j u hu
      have hro := round i hik; refine K.kgo ?_; refine WL.idx i (ko + i * 6) rfl rfl rfl rfl rfl rfl rfl rfl hik rfl ?_; refine WL.loadMid rfl rfl rfl rfl rfl rfl hcr' hc6 ?_; refine WL.alloc (z := .agg #[.int .i64 0, .int .i64 0, .int .i64 0, .string ByteArray.empty, .slice none 0 0, .slice none 0 0]) rfl rfl rfl rfl (fun _ => by kernel_rfl) fun g2 w7 hf2 => ?_; refine K.kgo ?_; refine WL.storeRow rfl rfl rfl rfl rfl rfl hf2.blk hc6 rfl (IsV.one hci) ?_; have hb3 : Below wr.heap.size wr (w7.setRow g2 c.toArray) := below_setRow hf2.below (by rw [hf2.eq]; exact Nat.le_refl _) _; have hblk7 : VBlk 82 (w7.setRow g2 c.toArray) g2 c := hf2.blk.setRow c; have hg2e := hf2.eq; generalize w7.setRow g2 c.toArray = w8 at hb3 hblk7; have hbx8 : Bx bb w8 br _ := hbr.below hb3; have hg8 : GrowB bb w2 b w8 br := hgr.below hb3; have hg2o : br.ownBlock ≠ some g2 := fun e => by have := hbr.bu.lt _ e; omega
      have hg2b : g2 ≠ bb := by have := hbr.blk.lt; omega
      refine K.kgo ?_; refine WL.load rfl rfl rfl rfl rfl rfl ((hR hg8).cell 0 (by simp)) ?_; have hpc : pieceE (encV m) false v.names v.kids i = encV m (v.kids.getD i noV) := rfl; rw [hpc] at hro; refine K.kgo ?_; refine WL.load rfl rfl rfl rfl rfl rfl (hbx8.blk.cell 0 (by simp)) ?_; refine WL.loadMid rfl rfl rfl rfl rfl rfl (VBlk.rangeAt hblk7) hc6 ?_; refine WL.call rfl rfl rfl rfl rfl Tryz.func113 rfl (by kernel_rfl) (ih (w0 := w0) hci (hkid i hik) hbx8.bu (hA hg8) (by rw [List.length_append]; omega)) ?_; rintro e w13 ⟨b13, rfl, hb13, hg13⟩; refine ⟨_, rfl, ?_⟩; obtain ⟨hblk13, hbx14, hg14⟩ := hbx8.put hb13 hg13; refine WL.store rfl rfl rfl rfl rfl hb13.cell1 (by kernel_rfl) (hblk13.cell 0 (by simp)) (hblk13.free 0) ?_; generalize w13.setCell ⟨bb, 0, none⟩ b13 = w14 at hbx14 hg14; refine K.kgo ?_; refine WQ.again (i + 1, b13) ⟨rfl, rfl, rfl, rfl, rfl, rfl, trivial⟩ ⟨hik, ?_, hg8.trans hg14⟩ (by show v.kids.length - (i + 1) < v.kids.length - i; omega)
      show Bx bb w14 b13 (M ++ (List.range (i + 1)).flatMap _)
      rw [range_piece, hpc, ← List.append_assoc]; exact hbx14
    · obtain rfl : i = v.kids.length := by omega
      refine K.kgo ?_; refine WL.load rfl rfl rfl rfl rfl rfl (hbr.blk.cell 0 (by simp)) ?_; refine K.kgo ?_; exact WQ.ret1 rfl rfl (fin (by rw [hL1]; exact hbr.bu) hgr hkx.symm)
  · rw [show decide (v.k = 9) = true from decide_eq_true k9] at hkx hl3 round
    obtain ⟨np, nc, rfl, nl, nc2, nsz, nr⟩ := hnames; have hnk := (f9 k9).1; refine K.kgo ?_; refine WL.load rfl rfl rfl rfl rfl rfl ((hR g3).cell 5 (by simp)) ?_; refine K.kgo ?_; refine WL.callF (args := [.tmp 72]) rfl rfl rfl rfl rfl rfl Tryz.func145 rfl (by kernel_rfl) (by rw [eK]; exact lay1_any (by omega) hbx3 (by omega)) ?_; rintro e w6 ⟨rfl, b4, hbx4, g4⟩; refine ⟨_, rfl, ?_⟩; have g34 := g3.trans g4; have hLl : (L ++ uvB v.kids.length).length = L.length + (uvB v.kids.length).length := List.length_append; generalize L ++ uvB v.kids.length = M at hbx4 hL1 hLl; refine K.kgo ?_; refine WL.load rfl rfl rfl rfl rfl rfl ((hR g34).cell 5 (by simp)) ?_; refine K.kgo ?_; refine WC.loop (fun i : Nat × Value => [(2, .pointer (some ⟨bb, 0, none⟩)), (3, .pointer (some ⟨g, 0, none⟩)), (5, .func (.func 145) #[] #[.pointer (some ⟨bb, 0, none⟩)]), (75, .slice sp v.kids.length cap), (76, .int .i64 v.kids.length), (77, .int .i64 i.1)])
      (fun i w' => i.1 ≤ v.kids.length ∧ Bx bb w' i.2 (M ++ (List.range i.1).flatMap (pieceE (encV m) true v.names v.kids)) ∧ GrowB bb w2 b w' i.2) (fun i => v.kids.length - i.1) (0, b4)
      ⟨rfl, rfl, rfl, rfl, rfl, rfl, trivial⟩ ⟨Nat.zero_le _, by simpa using hbx4, g34⟩ ?_
    rintro ⟨i, br⟩ wr ⟨hi, hbr, hgr⟩; simp only at hi hbr hgr ⊢
    by_cases hik : i < v.kids.length
    · obtain ⟨kb, ko, rfl, hkb, hcells⟩ := hrow (by omega)
      obtain ⟨c, hc6, hci, hcr⟩ := hcells i hik; have har := hA hgr; have hcr' : wr.rangeAt kb (ko + i * 6) c := fun j u hu => by rw [har.below.cell (p := ⟨kb, ko + i * 6 + j, none⟩) hkb]; exact hcr j u hu
      have hro := round i hik; refine K.kgo ?_; refine WL.idx i (ko + i * 6) rfl rfl rfl rfl rfl rfl rfl rfl hik rfl ?_; refine WL.loadMid rfl rfl rfl rfl rfl rfl hcr' hc6 ?_; refine WL.alloc (z := .agg #[.int .i64 0, .int .i64 0, .int .i64 0, .string ByteArray.empty, .slice none 0 0, .slice none 0 0]) rfl rfl rfl rfl (fun _ => by kernel_rfl) fun g2 w7 hf2 => ?_; refine K.kgo ?_; refine WL.storeRow rfl rfl rfl rfl rfl rfl hf2.blk hc6 rfl (IsV.one hci) ?_; have hb3 : Below wr.heap.size wr (w7.setRow g2 c.toArray) := below_setRow hf2.below (by rw [hf2.eq]; exact Nat.le_refl _) _; have hblk7 : VBlk 82 (w7.setRow g2 c.toArray) g2 c := hf2.blk.setRow c; have hg2e := hf2.eq; generalize w7.setRow g2 c.toArray = w8 at hb3 hblk7; have hbx8 : Bx bb w8 br _ := hbr.below hb3; have hg8 : GrowB bb w2 b w8 br := hgr.below hb3; have hg2o : br.ownBlock ≠ some g2 := fun e => by have := hbr.bu.lt _ e; omega
      have hg2b : g2 ≠ bb := by have := hbr.blk.lt; omega
      refine K.kgo ?_; refine WL.load rfl rfl rfl rfl rfl rfl ((hR hg8).cell 0 (by simp)) ?_; obtain ⟨nb, no, rfl, hnb, hnr⟩ := nr (by omega); have hnc := hnr i (by omega); have hns : (v.names.getD i noT).size ≤ 40 := (f9 k9).2 _ (by simp [show i < v.names.length by omega]); have hpc : pieceE (encV m) true v.names v.kids i = (uvB (v.names.getD i noT).size ++ byI (v.names.getD i noT)) ++ encV m (v.kids.getD i noV) := rfl; rw [hpc] at hro; have hbl := byI_len (v.names.getD i noT); simp only [List.length_append] at hro; have eN : IntKind.u64.wrap ((v.names.getD i noT).size : Int) = (((v.names.getD i noT).size : Nat) : Int) := by rw [IntKind.wrap_u64]; omega
      have hA8 := hA hg8; refine K.kgo ?_; refine WL.load rfl rfl rfl rfl rfl rfl ((hR hg8).cell 4 (by simp)) ?_; refine K.kgo ?_; refine WL.idx i (no + i) rfl rfl rfl rfl rfl rfl rfl rfl (by omega) (by omega) ?_; refine WL.load rfl rfl rfl rfl rfl rfl ((hA8.below.cell (p := ⟨nb, no + i, none⟩) hnb).trans hnc) ?_; refine K.kgo ?_; refine WL.callF (args := [.tmp 92]) rfl rfl rfl rfl rfl rfl Tryz.func145 rfl (by kernel_rfl) (by rw [eN]; exact lay1_any (by omega) hbx8 (by rw [List.length_append]; omega)) ?_; rintro e w9 ⟨rfl, b9, hbx9, g9⟩; refine ⟨_, rfl, ?_⟩; have hg9 := hg8.trans g9; obtain ⟨hblk9, ho9⟩ := Bx.keep g9 hblk7 hg2o hg2b; have hA9 := hA hg9; refine K.kgo ?_; refine WC.drawn 7 (fun wx => Below w0.heap.size w0 wx ∧ VBlk 47 wx bb [b9] ∧ VBlk 82 wx g (six v (.slice (some ⟨nb, no, none⟩) v.names.length nc) (.slice (some ⟨kb, ko, none⟩) v.kids.length cap))) fun w10 hd10 => ?_; have hS : Below w0.heap.size w0 w10 ∧ VBlk 47 w10 bb [b9] ∧ VBlk 82 w10 g (six v (.slice (some ⟨nb, no, none⟩) v.names.length nc) (.slice (some ⟨kb, ko, none⟩) v.kids.length cap)) :=
        ⟨hA9.below.trans (hd10.below _), hbx9.blk.below (hd10.below _) hbx9.blk.lt, (hR hg9).below (hd10.below _) (hR hg9).lt⟩
      have hbx10 : Bx bb w10 b9 _ := hbx9.below (hd10.below _); have hg10 := hg9.below (hd10.below _); have hblk10 : VBlk 82 w10 g2 c := hblk9.below (hd10.below _) hblk9.lt; refine K.wl 0 [6, 7] rfl rfl rfl rfl rfl rfl rfl (fun wx hx => hx.2.1.cell 0 (by simp)) hS ?_; refine K.fr [1] hS ?_; refine K.wl 2 [4, 5, 6, 7] rfl rfl rfl rfl rfl rfl rfl (fun wx hx => hx.2.2.cell 4 (by simp)) hS ?_; refine K.fr [3] hS ?_; refine K.wi 4 i (no + i) rfl rfl rfl rfl rfl rfl rfl rfl rfl (by omega) (by omega) (.inr hS) ?_; refine K.wl 5 [6, 7] rfl rfl rfl rfl rfl rfl rfl (fun wx hx => (hx.1.cell (p := ⟨nb, no + i, none⟩) hnb).trans hnc) hS ?_; refine K.wo 6 ?_; refine WL.appS rfl rfl rfl rfl rfl hbx10.bu rfl (by rw [List.length_append, List.length_append]; omega) fun b11 w11 hb11 hg11 => ?_; obtain ⟨hblk11, hbx12, hg12⟩ := hbx10.put hb11 hg11; have hg11' : GrowB bb w10 b9 w11 b11 := hg11.box; refine WL.nil (WQ.dk (.inr ⟨(hA (hg10.trans hg11')).below, hblk11, hR (hg10.trans hg11')⟩) ?_); refine K.wo 7 ?_; refine WL.store rfl rfl rfl rfl rfl hb11.cell1 (by kernel_rfl) (hblk11.cell 0 (by simp)) (hblk11.free 0) ?_; refine K.dl ?_; refine WD.done (by kernel_rfl) ?_; obtain ⟨hblk12, ho12⟩ := Bx.keep hg12 hblk10 ho9 hg2b; have hg12' := hg10.trans hg12; generalize w11.setCell ⟨bb, 0, none⟩ b11 = w12 at hbx12 hg12 hblk12 hg12'; refine K.kgo ?_; refine WL.load rfl rfl rfl rfl rfl rfl (hbx12.blk.cell 0 (by simp)) ?_; refine WL.loadMid rfl rfl rfl rfl rfl rfl (VBlk.rangeAt hblk12) hc6 ?_; refine WL.call rfl rfl rfl rfl rfl Tryz.func113 rfl (by kernel_rfl) (ih (w0 := w0) hci (hkid i hik) hbx12.bu (hA hg12') (by rw [List.length_append, List.length_append, List.length_append, bytesI_len]; omega)) ?_; rintro e w13 ⟨b13, rfl, hb13, hg13⟩; refine ⟨_, rfl, ?_⟩; obtain ⟨hblk13, hbx14, hg14⟩ := hbx12.put hb13 hg13; refine WL.store rfl rfl rfl rfl rfl hb13.cell1 (by kernel_rfl) (hblk13.cell 0 (by simp)) (hblk13.free 0) ?_; generalize w13.setCell ⟨bb, 0, none⟩ b13 = w14 at hbx14 hg14; refine K.kgo ?_; refine WQ.again (i + 1, b13) ⟨rfl, rfl, rfl, rfl, rfl, rfl, trivial⟩ ⟨hik, ?_, hg12'.trans hg14⟩ (by show v.kids.length - (i + 1) < v.kids.length - i; omega)
      show Bx bb w14 b13 (M ++ (List.range (i + 1)).flatMap _)
      rw [range_piece, hpc]
      simpa [List.append_assoc, bytesI, byI] using hbx14
    · obtain rfl : i = v.kids.length := by omega
      refine K.kgo ?_; refine WL.load rfl rfl rfl rfl rfl rfl (hbr.blk.cell 0 (by simp)) ?_; refine K.kgo ?_; exact WQ.ret1 rfl rfl (fin (by rw [hL1]; exact hbr.bu) hgr hkx.symm)
theorem clay_all : ∀ (m : Nat) {f : Nat} {w0 w : World} {v : V} {cs : List Value} {b : Value} {l : List Int}, IsV f w0 v cs → chk m v = 0 → Bu w b l → Apart w0 w b → l.length + (encV m v).length ≤ 70368744177664 →
      Calls Tryz.prog 113 #[b, .agg cs.toArray] w fun e w' => ∃ b', e = .returned b' ∧ Bu w' b' (l ++ encV m v) ∧ Grow w b w' b'
  | 0, _, _, _, _, _, _, _, _, h, _, _, _ => by cases h
  | m + 1, _, _, _, _, _, _, _, hv, hc, hb, ha, hm => clay_any m (clay_all m) hv hc hb ha hm
end K
end Go.Proofs.YtpfkcfaifleliaaGreat

namespace Go.Proofs.YtpfkcfaifleliaaGreat
namespace K

end K
end Go.Proofs.YtpfkcfaifleliaaGreat

namespace Go.Proofs.YtpfkcfaifleliaaGreat
open Go.RowKit
namespace K

end K
end Go.Proofs.YtpfkcfaifleliaaGreat

namespace Go.Proofs.YtpfkcfaifleliaaGreat
open Go.RowKit
namespace K

def encR (v : V) : List Int × Int := if chk 16 v ≠ 0 then ([], chk 16 v) else if 65536 < (encV 16 v).length then ([], 5) else (encV 16 v, 0)
def EncPost (w : World) (v : V) (e : Ending) (w' : World) : Prop := ∃ b, e = .returned (.tuple #[b, .int .i64 (encR v).2]) ∧ Bu w' b (encR v).1 ∧ Below w.heap.size w w' ∧ ∀ g, b.ownBlock = some g → w.heap.size ≤ g
theorem encode_any {f : Nat} {w : World} {v : V} {cs : List Value} (h : IsV f w v cs) (hlen : chk 16 v = 0 → (encV 16 v).length ≤ 70368744177664) :
    Calls Tryz.prog 77 #[.agg cs.toArray] w (EncPost w v) := by
  have hcs := h.len; refine enter (args := [.agg cs.toArray]) Tryz.func77 rfl Tryz.ntmps77 rfl ?_; refine K.kgo ?_; refine WL.box rfl rfl rfl rfl rfl fun g w1 hf => ?_; have hf' : Fresh w g w1 82 cs := hf; clear hf; have hz1 := hf'.size; have h1 := h.below hf'.below; refine K.kgo ?_; refine WL.loadMid rfl rfl rfl rfl rfl rfl (VBlk.rangeAt hf'.blk) hcs ?_; refine WL.call rfl rfl rfl rfl rfl Tryz.func112 rfl (by kernel_rfl) (Vl.Check_any h1) ?_; rintro _ w2 ⟨rfl, hb2⟩; refine ⟨_, rfl, ?_⟩; have hw2 : Below w.heap.size w w2 := hf'.below.trans (hb2.mono (by omega))
  by_cases hc : chk 16 v = 0
  · refine K.kgo ?_
    refine WL.loadMid rfl rfl rfl rfl rfl rfl (VBlk.rangeAt (hf'.blk.below hb2 hf'.blk.lt)) hcs ?_; refine WL.call rfl rfl rfl rfl rfl Tryz.func113 rfl (by kernel_rfl) (clay_all 16 (h1.below hb2) hc (Bu.nil w2) ⟨Below.refl _ _, fun g hg => by cases hg⟩ (by have := hlen hc; simp only [List.length_nil]; omega)) ?_; rintro _ w3 ⟨b, rfl, hb, hg⟩; refine ⟨_, rfl, ?_⟩; rw [List.nil_append] at hb; obtain ⟨sp, cap, rfl, hl1, hl2⟩ := hb.form; have hw3 : Below w.heap.size w w3 := hw2.trans (hg.old (B := w.heap.size) (hw2.size) fun g h => by cases h)
    by_cases hbig : 65536 < (encV 16 v).length
    · have hr : encR v = ([], 5) := by unfold encR; rw [if_neg (by simpa using hc), if_pos hbig]
      refine K.kgo ?_; exact WQ.ret2 rfl rfl rfl ⟨_, by rw [hr], by rw [hr]; exact Bu.nil _, hw3, fun g hg => by cases hg⟩
    · have hr : encR v = (encV 16 v, 0) := by unfold encR; rw [if_neg (by simpa using hc), if_neg hbig]
      refine K.kgo ?_; exact WQ.ret2 rfl rfl rfl ⟨_, by rw [hr], by rw [hr]; exact hb, hw3, fun g h => (hg.2 g h).elim (fun h2 => by cases h2) fun h2 => by have := hw2.size; omega⟩
  · have hr : encR v = ([], chk 16 v) := by unfold encR; rw [if_pos hc]
    refine K.kgo ?_; exact WQ.ret2 rfl rfl rfl ⟨_, by rw [hr], by rw [hr]; exact Bu.nil _, hw2, fun g hg => by cases hg⟩

theorem uvB_len (u : Nat) : (uvB u).length ≤ 10 := uvF_len 10 u
theorem encR_ok {v : V} (h : (encR v).2 = 0) : chk 16 v = 0 ∧ (encV 16 v).length ≤ 65536 ∧ (encR v).1 = encV 16 v := by
  unfold encR at h ⊢
  by_cases hc : chk 16 v = 0
  · rw [if_neg (by simpa using hc)] at h ⊢
    by_cases hb : 65536 < (encV 16 v).length
    · rw [if_pos hb] at h; cases h
    · rw [if_neg hb]; exact ⟨hc, by omega, rfl⟩
  · rw [if_pos hc] at h; exact absurd h hc
theorem Byt.nil : Byt [] := fun c h => by cases h
theorem Byt.one {c : Int} (h : 0 ≤ c ∧ c ≤ 255) : Byt [c] := fun x hx => by simp at hx; rw [hx]; exact h
theorem Byt.cons {c : Int} {l : List Int} (h : 0 ≤ c ∧ c ≤ 255) (hl : Byt l) : Byt (c :: l) := fun x hx => (List.mem_cons.1 hx).elim (fun e => by rw [e]; exact h) (hl x)
theorem uvF_byt : ∀ (f u : Nat), Byt (uvF f u)
  | 0, _ => Byt.nil
  | f + 1, u => by
    unfold uvF
    split
    · exact Byt.one (by omega)
    · exact Byt.cons (by omega) (uvF_byt f (u / 128))
theorem uvB_byt (u : Nat) : Byt (uvB u) := uvF_byt 10 u
theorem byI_byt (s : ByteArray) : Byt (byI s) := fun c hc => by
  unfold byI at hc; obtain ⟨x, -, rfl⟩ := List.mem_map.1 hc; have := x.toNat_lt; omega
theorem encV_byt : ∀ (m : Nat) {v : V}, chk m v = 0 → Byt (encV m v)
  | 0, _, h => by cases h
  | m + 1, v, h => by
    obtain ⟨hk, f2, f3, f4, f5, fk, ft, f9⟩ := shp_form (chk_shp h); rw [encV_two]; refine Byt.cons (by omega) ?_
    split
    · exact Byt.one (by have := f2 (by assumption); omega)
    split
    · exact uvB_byt _
    split
    · exact (uvB_byt _).app (Byt.one (by have := f4 (by assumption); omega))
    split
    · exact uvB_byt _
    split
    · exact (uvB_byt _).app (byI_byt _)
    split
    · refine (uvB_byt _).app fun c hc => ?_
      obtain ⟨j, hj, hc⟩ := List.mem_flatMap.1 hc; have hj := List.mem_range.1 hj; unfold pieceE at hc; rcases List.mem_append.1 hc with hc | hc
      · split at hc
        · exact (uvB_byt _).app (byI_byt _) c hc
        · cases hc
      · exact encV_byt m (chk_kid h hj) c hc
    · exact Byt.nil
end K
end Go.Proofs.YtpfkcfaifleliaaGreat

namespace Go.Proofs.YtpfkcfaifleliaaGreat
namespace K
def nmB (l : List Int) : List Int := l.flatMap fun n => uvB (zig n)
def vlB (l : List V) : List Int := l.flatMap fun v => uvB (encV 16 v).length ++ encV 16 v
def vlE : List V → Int
  | [] => 0
  | v :: r => if (encR v).2 ≠ 0 then (encR v).2 else vlE r
def headB (m k : Int) (seq : Nat) (nums : List Int) : List Int := m :: k :: (uvB seq ++ (uvB nums.length ++ nmB nums))
def valsB (l : List V) : List Int := uvB l.length ++ vlB l
structure Rq where
  kind : Int
  seq : Int
  nums : List Int
  text : ByteArray
  params : List V
  hash : List Int
structure Rp where
  seq : Int
  err : Int
  nums : List Int
  rows : List V
  data : List Int
def rqB (r : Rq) : List Int := headB 81 r.kind r.seq.toNat r.nums ++ (uvB r.text.size ++ bytesI r.text) ++ valsB r.params ++ r.hash
def rqE (r : Rq) : Int := if r.kind < 1 ∨ 20 < r.kind ∨ r.seq < 0 ∨ 9007199254740992 < r.seq ∨ 8 < r.nums.length then 1 else if 4096 < r.text.size ∨ 40 < r.params.length then 5 else vlE r.params
def rpB (r : Rp) : List Int := headB 82 r.err r.seq.toNat r.nums ++ valsB r.rows ++ (uvB r.data.length ++ r.data)
def rpE (r : Rp) : Int := if r.err < 0 ∨ 100 < r.err ∨ r.seq < 0 ∨ 9007199254740992 < r.seq ∨ 8 < r.nums.length then 1 else if 4096 < r.rows.length then 5 else vlE r.rows

theorem vlE_mem : ∀ {l : List V}, vlE l = 0 → ∀ v ∈ l, (encR v).2 = 0
  | [], _, v, h => by cases h
  | k :: r, h, v, hv => by
    unfold vlE at h
    by_cases h0 : (encR k).2 ≠ 0
    · rw [if_pos h0] at h; exact absurd h h0
    · rw [if_neg h0] at h
      rcases List.mem_cons.1 hv with rfl | h1
      · omega
      · exact vlE_mem h v h1
theorem vlE_take {l : List V} {i : Nat} (hi : i < l.length) (h : ∀ v ∈ l.take i, (encR v).2 = 0) : (encR (l.getD i noV)).2 ≠ 0 → vlE l = (encR (l.getD i noV)).2 := by
  induction l generalizing i with
  | nil => simp at hi
  | cons k r ih =>
    intro hne; unfold vlE; cases i with
    | zero => simp only [List.getD_cons_zero] at hne ⊢; rw [if_pos hne]
    | succ i =>
      have h0 : (encR k).2 = 0 := h k (by simp); rw [if_neg (by omega)]; simp only [List.getD_cons_succ] at hne ⊢; exact ih (by simpa using hi) (fun v hv => h v (by simp [hv])) hne
theorem vlE_all {l : List V} (h : ∀ v ∈ l, (encR v).2 = 0) : vlE l = 0 := by
  induction l with
  | nil => rfl
  | cons k r ih =>
    unfold vlE; rw [if_neg (by have := h k (by simp); omega)]; exact ih fun v hv => h v (by simp [hv])
theorem vlB_take {l : List V} {i : Nat} (hi : i < l.length) : vlB (l.take (i + 1)) = vlB (l.take i) ++ (uvB (encV 16 (l.getD i noV)).length ++ encV 16 (l.getD i noV)) := by
  unfold vlB; rw [List.take_add_one, List.flatMap_append]; simp [hi]
theorem nmB_take {l : List Int} {i : Nat} (hi : i < l.length) : nmB (l.take (i + 1)) = nmB (l.take i) ++ uvB (zig (nth l i)) := by
  unfold nmB nth; rw [List.take_add_one, List.flatMap_append]; simp [hi]
theorem nmB_len : ∀ (l : List Int), (nmB l).length ≤ 10 * l.length
  | [] => by simp [nmB]
  | k :: r => by
    have := uvB_len (zig k); have h2 := nmB_len r; unfold nmB at h2 ⊢; rw [List.flatMap_cons, List.length_append, List.length_cons]; omega
structure Few (f : Nat) (l : List V) (n : Nat) : Prop where
  len : l.length ≤ 4096
  one : ∀ {v : V}, v ∈ l → chk 16 v = 0 → (encV 16 v).length ≤ 70368744177664
  take : ∀ i : Nat, (∀ v ∈ l.take i, (encR v).2 = 0) → (vlB (l.take i)).length ≤ 200000
theorem Few.bytes {f : Nat} {l : List V} {n : Nat} (h : Few f l n) (h0 : ∀ v ∈ l, (encR v).2 = 0) : (vlB l).length ≤ 200000 := by
  have := h.take l.length; rw [List.take_length] at this; exact this h0
end K
end Go.Proofs.YtpfkcfaifleliaaGreat

namespace Go.Proofs.YtpfkcfaifleliaaGreat
open Go.RowKit
namespace K
abbrev R64w (l : List Int) : Prop := ∀ n ∈ l, -9223372036854775808 ≤ n ∧ n ≤ 9223372036854775807
theorem whead_any {w : World} {nv : Value} {nums : List Int} (m k : Int) (n : Nat) (hn : n ≤ 9007199254740992) (hs : Sl .i64 w nv nums) (h64 : R64w nums) (h8 : nums.length ≤ 8) :
    Calls Tryz.prog 43 #[.int .u8 m, .int .u8 k, .int .i64 (n : Int), nv] w (Makes w (headB m k n nums)) := by
  obtain ⟨sp, cap, rfl, -⟩ := id hs; refine enter (args := [.int .u8 m, .int .u8 k, .int .i64 (n : Int), .slice sp nums.length cap]) Tryz.func43 rfl Tryz.ntmps43 rfl ?_; have hul := uvB_lenw n; refine K.kgo ?_; refine WL.lit rfl rfl rfl rfl rfl rfl rfl fun v w1 h1 h2 h3 => ?_; refine K.kgo ?_; refine WL.call rfl rfl rfl rfl rfl Tryz.func45 rfl (by kernel_rfl) (wcount_any h1 n hn (by simp)) ?_; rintro _ w2 ⟨b2, rfl, q2, g2⟩; refine ⟨_, rfl, ?_⟩; have e2 : [m, k] ++ uvB n = m :: k :: uvB n := rfl; refine K.kgo ?_; refine WL.call rfl rfl rfl rfl rfl Tryz.func45 rfl (by kernel_rfl) (wcount_any q2 nums.length (by omega) (by rw [e2]; simp only [List.length_cons]; omega)) ?_; rintro _ w3 ⟨b3, rfl, q3, g3⟩; refine ⟨_, rfl, ?_⟩; have ap3 : Apart w w3 b3 := (Apart.grow ⟨h2, h3⟩ g2).grow g3; have q3' : Bu w3 b3 (m :: k :: (uvB n ++ (uvB nums.length ++ nmB (nums.take 0)))) := by simpa [nmB] using q3
  clear q3 q2 h1 g2 g3 h2 h3; refine K.kgo ?_; refine WC.loop (fun i : Nat × Value => [(9, i.2), (20, .slice sp nums.length cap), (21, .int .i64 nums.length), (22, .int .i64 i.1)])
    (fun i wr => i.1 ≤ nums.length ∧ Apart w wr i.2 ∧ Bu wr i.2 (m :: k :: (uvB n ++ (uvB nums.length ++ nmB (nums.take i.1))))) (fun i => nums.length - i.1) (0, b3) ⟨rfl, rfl, rfl, rfl, trivial⟩ ⟨Nat.zero_le _, ap3, q3'⟩ ?_
  rintro ⟨i, b⟩ wr ⟨hi, ap, q⟩; simp only at hi ap q ⊢
  by_cases hik : i < nums.length
  · have hr := h64 _ (nth_mem' nums i hik)
    have hzl := zig_lt hr; refine K.kgo ?_; refine WL.idxI i rfl rfl rfl rfl rfl rfl (hs.of_below ap.below) rfl rfl hik fun p hp => ?_; refine K.kgl ?_; refine WL.call rfl rfl rfl rfl rfl Tryz.func76 rfl (by kernel_rfl) (zig_any (nth nums i) hr wr) ?_; rintro _ _ ⟨rfl, rfl⟩; refine ⟨_, rfl, ?_⟩; refine WL.call rfl rfl rfl rfl rfl Tryz.func75 rfl (by kernel_rfl) (uvarint_any (zig (nth nums i)) hzl _) ?_; rintro _ w5 ⟨u, rfl, h5, k5, o5⟩; refine ⟨_, rfl, ?_⟩; have hnl := nmB_len (nums.take i); have hul2 := uvB_lenw nums.length; have hul3 := uvB_lenw (zig (nth nums i)); refine WL.app rfl rfl rfl rfl rfl (q.below k5) rfl h5.sl (by simp only [List.length_cons, List.length_append, List.length_take] at *; omega) fun b6 w6 q6 g6 => ?_; refine K.kgo ?_; refine WQ.again (i + 1, b6) ⟨rfl, rfl, rfl, rfl, trivial⟩ ⟨by show i + 1 ≤ nums.length; omega, ap.grow (((Grow.refl _ b).below k5).trans g6), ?_⟩ (by show nums.length - (i + 1) < nums.length - i; omega)
    show Bu w6 b6 (m :: k :: (uvB n ++ (uvB nums.length ++ nmB (nums.take (i + 1)))))
    rw [nmB_take hik]
    simpa [List.append_assoc] using q6
  · obtain rfl : i = nums.length := by omega
    rw [List.take_length] at q; refine K.kgo ?_; exact WQ.ret1 rfl rfl ⟨b, rfl, q, ap.below, ap.own⟩
def ValsOut (w0 : World) (L : List Int) (l : List V) : Ending → World → Prop := fun e w' => ∃ b, e = .returned (.tuple #[b, .int .i64 (vlE l)]) ∧ Apart w0 w' b ∧ Bu w' b (if vlE l = 0 then L ++ valsB l else [])
set_option maxHeartbeats 1000000 in
theorem wvalues_any {f : Nat} {w0 w : World} {b pv : Value} {L : List Int} {l : List V} {n : Nat} (hl : IsVs f w0 pv l) (hfew : Few f l n) (ap : Apart w0 w b) (hb : Bu w b L) (hL : L.length ≤ 100000) :
    Calls Tryz.prog 44 #[b, pv] w (ValsOut w0 L l) := by
  obtain ⟨sp, cap, rfl, hcap1, hcap2, hrow⟩ := hl; refine enter (args := [b, .slice sp l.length cap]) Tryz.func44 rfl Tryz.ntmps44 rfl ?_; have hl2 := hfew.len; refine K.kgo ?_; refine WL.call rfl rfl rfl rfl rfl Tryz.func45 rfl (by kernel_rfl) (wcount_any hb l.length (by omega) (by omega)) ?_; rintro _ w3 ⟨b3, rfl, q3, g3⟩; refine ⟨_, rfl, ?_⟩; have ap3 := ap.grow g3; have q3' : Bu w3 b3 (L ++ (uvB l.length ++ vlB (l.take 0))) := by simpa [vlB] using q3
  clear q3 g3 ap hb; refine K.kgo ?_; refine WC.loop (fun i : Nat × Value => [(0, i.2), (14, .slice sp l.length cap), (15, .int .i64 l.length), (16, .int .i64 i.1)])
    (fun i wr => i.1 ≤ l.length ∧ Apart w0 wr i.2 ∧ Bu wr i.2 (L ++ (uvB l.length ++ vlB (l.take i.1))) ∧ ∀ v ∈ l.take i.1, (encR v).2 = 0) (fun i => l.length - i.1) (0, b3) ⟨rfl, rfl, rfl, rfl, trivial⟩ ⟨Nat.zero_le _, ap3, q3', by simp⟩ ?_
  rintro ⟨i, b⟩ wr ⟨hi, ap, q, hok⟩; simp only at hi ap q hok ⊢
  by_cases hik : i < l.length
  · obtain ⟨kb, ko, rfl, hkb, hcells⟩ := hrow (by omega)
    obtain ⟨c, hc6, hci, hcr⟩ := hcells i hik; have hmem : l.getD i noV ∈ l := by rw [List.getD_eq_getElem?_getD, List.getElem?_eq_getElem hik]; exact List.getElem_mem hik
    have hvl := hfew.take i hok; have hvt := vlE_take hik hok; have hBt := vlB_take hik; have hone := hfew.one hmem; have hul := uvB_lenw l.length; generalize hvd : l.getD i noV = v at hci hmem hvt hBt hone; replace hvd := hvd.symm; refine K.kgo ?_; refine WL.idx i (ko + i * 6) rfl rfl rfl rfl rfl rfl rfl rfl hik rfl ?_; refine WL.loadMid rfl rfl rfl rfl rfl rfl (fun j u hu => (ap.below.cell (p := ⟨kb, ko + i * 6 + j, none⟩) hkb).trans (hcr j u hu)) hc6 ?_; refine WL.alloc (z := .agg zCells.toArray) rfl rfl rfl rfl (fun _ => by kernel_rfl) fun g w4 hf => ?_; have hf' : Fresh wr g w4 82 zCells := hf; clear hf; refine K.kgo ?_; refine WL.storeRow rfl rfl rfl rfl rfl rfl hf'.blk hc6 (by rfl) (IsV.one hci) ?_; have hk5 : Below wr.heap.size wr (w4.setRow g c.toArray) := below_setRow hf'.below (by rw [hf'.eq]; exact Nat.le_refl _) _; have T5 := hf'.blk.setRow c; generalize w4.setRow g c.toArray = w5 at hk5 T5 ⊢; clear hf'; have hb5 : Below w0.heap.size w0 w5 := ap.below.trans (hk5.mono ap.below.size); refine K.kgo ?_; refine WL.loadMid rfl rfl rfl rfl rfl rfl (VBlk.rangeAt T5) hc6 ?_; refine WL.call rfl rfl rfl rfl rfl Tryz.func77 rfl (by kernel_rfl) (encode_any (hci.below hb5) hone) ?_; rintro _ w6 ⟨b6, rfl, q6, k6, o6⟩; refine ⟨_, rfl, ?_⟩; have k56 : Below wr.heap.size wr w6 := hk5.trans (k6.mono hk5.size); have hq6 := q.below k56; have g6 : Grow wr b w6 b := (Grow.refl wr b).below k56
    by_cases he : (encR v).2 ≠ 0
    · have hE := hvt he
      refine K.kgo ?_; refine WQ.ret2 rfl rfl rfl ⟨.slice none 0 0, ?_, ⟨ap.below.trans (k56.mono ap.below.size), fun g h => by cases h⟩, ?_⟩
      · rw [hE]; rfl
      · rw [if_neg (by rw [hE]; exact he)]; exact Bu.nil _
    · replace he : (encR v).2 = 0 := by omega
      obtain ⟨hc0, h65, hx⟩ := encR_ok he; rw [hx] at q6; rw [he]; obtain ⟨sp6, cap6, rfl, -⟩ := q6.form; refine K.kgo ?_; refine WL.call rfl rfl rfl rfl rfl Tryz.func45 rfl (by kernel_rfl) (wcount_any hq6 (encV 16 v).length (by omega) (by simp only [List.length_append]; omega)) ?_; rintro _ w7 ⟨b7, rfl, q7, g7⟩; refine ⟨_, rfl, ?_⟩; have hk7 : ∀ {x : Value}, (∀ g, x.ownBlock = some g → b.ownBlock ≠ some g) → Bu w6 x (encV 16 v) → Bu w7 x (encV 16 v) := fun hx h => h.keep g7.1 fun g hg => ⟨h.lt g hg, hx g hg⟩; have q67 := hk7 (fun g hg e => by
        have h1 := o6 g hg; have h2 := q.lt g e; have h3 := hk5.size; omega) q6
      refine K.kgo ?_; refine WL.app rfl rfl rfl rfl rfl q7 rfl q67.sl (by simp only [List.length_append]; have := uvB_lenw (encV 16 v).length; omega) fun b8 w8 q8 g8 => ?_; refine K.kgo ?_; refine WQ.again (i + 1, b8) ⟨rfl, rfl, rfl, rfl, trivial⟩ ⟨by show i + 1 ≤ l.length; omega, ap.grow ((g6.trans g7).trans g8), ?_, ?_⟩ (by show l.length - (i + 1) < l.length - i; omega)
      · show Bu w8 b8 (L ++ (uvB l.length ++ vlB (l.take (i + 1))))
        rw [hBt]
        simpa [List.append_assoc] using q8
      · intro x hx
        rw [List.take_add_one, List.mem_append] at hx; rcases hx with h | h
        · exact hok x h
        · have hg : l[i]? = some v := by rw [hvd]; simp [hik]
          rw [hg] at h; simp at h
          rw [h]; exact he
  · obtain rfl : i = l.length := by omega
    rw [List.take_length] at q hok; have hE := vlE_all hok; refine K.kgo ?_; refine WQ.ret2 rfl rfl rfl ⟨b, by rw [hE], ap, ?_⟩; rw [if_pos hE]; exact q
end K
end Go.Proofs.YtpfkcfaifleliaaGreat

namespace Go.Proofs.YtpfkcfaifleliaaGreat
open Go.RowKit
namespace K
def rqC (r : Rq) (nv pv : Value) : List Value := .int .i64 r.kind :: .int .i64 r.seq :: nv :: .string r.text :: pv :: r.hash.map (Value.int .u8)
structure IsRq (f : Nat) (w : World) (r : Rq) (nv pv : Value) : Prop where
  nums : Sl .i64 w nv r.nums
  r64 : R64w r.nums
  params : IsVs f w pv r.params
  hash : r.hash.length = 32
  byt : Frm.Byt r.hash
theorem rq_hash {T g : Nat} {w : World} {r : Rq} {nv pv : Value} (h : VBlk T w g (rqC r nv pv)) (hl : r.hash.length = 32) : Sl .u8 w (.slice (some ⟨g, 0 + 5, none⟩) 32 32) r.hash := by
  have := Sl.mk (k := .u8) (w := w) (b := g) (o := 0 + 5) (cap := 32) (l := r.hash) (by omega) (by omega) h.lt (fun j hj => by
    have h1 := (VBlk.rangeAt h) (5 + j) (.int .u8 (nth r.hash j)) (by unfold rqC; rw [show 5 + j = (j + 1 + 1 + 1 + 1 + 1) by omega]; simp [nth, hj]); rw [show (0 + 5 + j) = 0 + (5 + j) by omega]; exact h1)
  rw [hl] at this; exact this
def FrOut (w : World) (E : Int) (P : List Int) : Ending → World → Prop := fun e w' => ∃ b, e = .returned (.tuple #[b, .int .i64 E]) ∧ Apart w w' b ∧ Bu w' b (if E = 0 then Frm.frameL P else [])
theorem FrOut.bad {w w' : World} {E x : Int} {P : List Int} (h : E = x) (hx : x ≠ 0) (hB : Below w.heap.size w w') : FrOut w E P (.returned (.tuple #[.slice none 0 0, .int .i64 x])) w' :=
  ⟨.slice none 0 0, by rw [h], ⟨hB, fun g h => by cases h⟩, by rw [if_neg (by omega)]; exact Bu.nil _⟩
theorem headB_len (m k : Int) (n : Nat) (nums : List Int) (h : nums.length ≤ 8) : (headB m k n nums).length ≤ 102 := by
  unfold headB; have h1 := uvB_lenw n; have h2 := uvB_lenw nums.length; have h3 := nmB_len nums; simp only [List.length_cons, List.length_append]; omega
theorem nmB_byt (l : List Int) : Frm.Byt (nmB l) := fun c hc => by
  unfold nmB at hc; obtain ⟨n, -, h⟩ := List.mem_flatMap.1 hc; exact uvB_bytw _ c h
theorem headB_byt {m k : Int} (hm : 0 ≤ m ∧ m ≤ 255) (hk : 0 ≤ k ∧ k ≤ 255) (n : Nat) (nums : List Int) : Frm.Byt (headB m k n nums) := fun c hc => by
  unfold headB at hc; simp only [List.mem_cons, List.mem_append] at hc; rcases hc with rfl | rfl | h | h | h
  · exact hm
  · exact hk
  · exact uvB_bytw _ c h
  · exact uvB_bytw _ c h
  · exact nmB_byt _ c h
theorem valsB_byt {l : List V} (h : ∀ v ∈ l, (encR v).2 = 0) : Frm.Byt (valsB l) := fun c hc => by
  unfold valsB vlB at hc; rcases List.mem_append.1 hc with h1 | h1
  · exact uvB_bytw _ c h1
  · obtain ⟨v, hv, h2⟩ := List.mem_flatMap.1 h1
    rcases List.mem_append.1 h2 with h3 | h3
    · exact uvB_bytw _ c h3
    · exact encV_byt 16 (encR_ok (h v hv)).1 c h3
theorem valsB_len {f n : Nat} {l : List V} (h : Few f l n) (h0 : vlE l = 0) : (valsB l).length ≤ 200010 := by
  have h1 := h.bytes (vlE_mem h0); have h2 := uvB_lenw l.length; unfold valsB; rw [List.length_append]; omega
set_option maxHeartbeats 2000000 in
theorem rqenc_any {f n : Nat} {w : World} {r : Rq} {nv pv : Value} (h : IsRq f w r nv pv) (hfew : Few f r.params n) (ht : r.text.size ≤ 100000) :
    Calls Tryz.prog 24 #[.agg (rqC r nv pv).toArray] w (FrOut w (rqE r) (rqB r)) := by
  obtain ⟨⟨kind, seq, nums, text, params, hash⟩, rfl⟩ : ∃ r', r = r' := ⟨r, rfl⟩; obtain ⟨hnums, h64, hpar, hh, hhb⟩ := h; simp only at hnums h64 hpar hh hhb hfew ht; obtain ⟨sn, cn, rfl, -⟩ := id hnums; obtain ⟨sp, cp, rfl, -⟩ := id hpar; refine enter (args := [.agg (rqC ⟨kind, seq, nums, text, params, hash⟩ (.slice sn nums.length cn) (.slice sp params.length cp)).toArray]) Tryz.func24 rfl Tryz.ntmps24 rfl ?_; generalize hr : (⟨kind, seq, nums, text, params, hash⟩ : Rq) = r; have hcells : rqC r (.slice sn nums.length cn) (.slice sp params.length cp) = .int .i64 kind :: .int .i64 seq :: .slice sn nums.length cn :: .string text :: .slice sp params.length cp :: hash.map (Value.int .u8) := by rw [← hr]; rfl
  rw [hcells]; refine K.kgn ?_; refine WL.box rfl rfl rfl rfl rfl fun g w1 hf0 => ?_; have hf : Fresh w g w1 95 (rqC r (.slice sn nums.length cn) (.slice sp params.length cp)) := by rw [hcells]; exact hf0
  clear hf0; have hB := hf.below; have hT0 := hf.blk; have cell : ∀ {wx : World}, VBlk 95 wx g (rqC r (.slice sn nums.length cn) (.slice sp params.length cp)) → wx.cell? ⟨g, 0, none⟩ = some (.int .i64 kind) ∧ wx.cell? ⟨g, 1, none⟩ = some (.int .i64 seq) ∧ wx.cell? ⟨g, 2, none⟩ = some (.slice sn nums.length cn) ∧ wx.cell? ⟨g, 3, none⟩ = some (.string text) ∧ wx.cell? ⟨g, 4, none⟩ = some (.slice sp params.length cp) := fun h => by
    rw [hcells] at h; exact ⟨h.cell 0 (by simp), h.cell 1 (by simp), h.cell 2 (by simp), h.cell 3 (by simp), h.cell 4 (by simp)⟩
  obtain ⟨c0, c1, c2, c3, c4⟩ := cell hT0; have bad1 : (kind < 1 ∨ 20 < kind ∨ seq < 0 ∨ 9007199254740992 < seq ∨ 8 < nums.length) → rqE r = 1 := fun h => by rw [← hr]; unfold rqE; rw [if_pos h]
  by_cases h1 : kind < 1
  · refine K.kgl ?_
    exact WQ.ret2 rfl rfl rfl (FrOut.bad (bad1 (.inl h1)) (by decide) hB)
  by_cases h2 : 20 < kind
  · refine K.kgl ?_
    exact WQ.ret2 rfl rfl rfl (FrOut.bad (bad1 (.inr (.inl h2))) (by decide) hB)
  by_cases h3 : seq < 0
  · refine K.kgl ?_
    exact WQ.ret2 rfl rfl rfl (FrOut.bad (bad1 (.inr (.inr (.inl h3)))) (by decide) hB)
  by_cases h4 : 9007199254740992 < seq
  · refine K.kgl ?_
    exact WQ.ret2 rfl rfl rfl (FrOut.bad (bad1 (.inr (.inr (.inr (.inl h4))))) (by decide) hB)
  by_cases h8 : 8 < nums.length
  · refine K.kgl ?_
    exact WQ.ret2 rfl rfl rfl (FrOut.bad (bad1 (.inr (.inr (.inr (.inr h8))))) (by decide) hB)
  clear bad1; have hno : ¬ (kind < 1 ∨ 20 < kind ∨ seq < 0 ∨ 9007199254740992 < seq ∨ 8 < nums.length) := by omega
  have bad5 : (4096 < text.size ∨ 40 < params.length) → rqE r = 5 := fun h => by rw [← hr]; unfold rqE; rw [if_neg hno, if_pos h]
  by_cases h5 : 4096 < text.size
  · refine K.kgl ?_
    exact WQ.ret2 rfl rfl rfl (FrOut.bad (bad5 (.inl h5)) (by decide) hB)
  by_cases h6 : 40 < params.length
  · refine K.kgl ?_
    exact WQ.ret2 rfl rfl rfl (FrOut.bad (bad5 (.inr h6)) (by decide) hB)
  have he : rqE r = vlE params := by rw [← hr]; unfold rqE; rw [if_neg hno, if_neg (show ¬ (4096 < text.size ∨ 40 < params.length) by omega)]
  clear bad5; refine K.kgl ?_; have hw8 : IntKind.u8.wrap kind = kind := by rw [IntKind.wrap_u8]; omega
  obtain ⟨sq, rfl⟩ : ∃ n : Nat, seq = (n : Int) := ⟨seq.toNat, by omega⟩; refine WL.as 44 (.int .u8 kind) rfl (congrArg (Value.int .u8) hw8) ?_; refine WL.call rfl rfl rfl rfl rfl Tryz.func43 rfl (by kernel_rfl) (whead_any 81 kind sq (by omega) (hnums.of_below hB) h64 (by omega)) ?_; rintro _ w2 ⟨b2, rfl, q2, k2, o2⟩; refine ⟨_, rfl, ?_⟩; have hfe := hf.eq; have hfs := hf.size; have ap2 : Apart w1 w2 b2 := ⟨k2, o2⟩; have T2 := hT0.below k2 hT0.lt; have own2 : ∀ x, b2.ownBlock = some x → x ≠ g := fun x hx => by have := o2 x hx; omega
  have hAp : ∀ {wx : World} {bx : Value}, Grow w2 b2 wx bx → VBlk 95 wx g (rqC r (.slice sn nums.length cn) (.slice sp params.length cp)) := fun h => T2.keep h.1 ⟨T2.lt, fun e => own2 _ e rfl⟩; have hhl := headB_len 81 kind sq nums (by omega); have u3 := uvB_lenw text.size; have T1 := hT0; clear c0 c1 c2 c3 c4 k2 hf hT0; refine K.kgo ?_; refine WC.drawn 10 (fun wx => VBlk 95 wx g (rqC r (.slice sn nums.length cn) (.slice sp params.length cp))) fun w3 hd => ?_; have kd : Below w2.heap.size w2 w3 := hd.below _; have g3 : Grow w2 b2 w3 b2 := (Grow.refl w2 b2).below kd; have q3 := q2.below kd; have hS := hAp g3; clear hd kd q2; refine K.fr [0, 1, 5, 8] hS ?_; refine K.wl 2 [3, 4, 7, 10, 11, 12, 13, 14, 15] rfl rfl rfl rfl rfl rfl rfl (fun wx hx => (cell hx).2.2.2.1) hS ?_; refine K.wl 6 [7, 10, 11, 12, 13, 14, 15] rfl rfl rfl rfl rfl rfl rfl (fun wx hx => (cell hx).2.2.2.1) hS ?_; refine K.wl 9 [10, 11, 12, 13, 14, 15] rfl rfl rfl rfl rfl rfl rfl (fun wx hx => (cell hx).2.2.2.2) hS ?_; refine K.fr [3] hS ?_; refine K.wo 4 ?_; refine WL.call rfl rfl rfl rfl rfl Tryz.func45 rfl (by kernel_rfl) (wcount_any q3 text.size (by omega) (by omega)) ?_; rintro _ w4 ⟨b4, rfl, q4, g4⟩; refine ⟨_, rfl, ?_⟩; replace hS := hAp (g3.trans g4); refine K.di hS ?_; refine K.wo 7 ?_; refine WL.appS rfl rfl rfl rfl rfl q4 rfl (by rw [List.length_append]; omega) fun b5 w5 q5 g5 => ?_; replace hS := hAp ((g3.trans g4).trans g5); have ap5 := ap2.grow ((g3.trans g4).trans g5); refine K.di hS ?_; refine K.wo 10 ?_; have htl := bytesI_len text; have hHlen : (headB 81 kind sq nums ++ uvB text.size ++ bytesI text).length ≤ 5000 := by simp only [List.length_append]; omega
  refine WL.call rfl rfl rfl rfl rfl Tryz.func44 rfl (by kernel_rfl) (wvalues_any (hpar.below hB) hfew ap5 q5 (by omega)) ?_; rintro _ w6 ⟨b6, rfl, ap6, q6⟩; refine ⟨_, rfl, ?_⟩; have T6 : VBlk 95 w6 g (rqC r (.slice sn nums.length cn) (.slice sp params.length cp)) := (T1.below ap6.below T1.lt); refine K.dl ?_
  (refine K.fzl 11 rfl (q := ?_); refine K.fzl 12 rfl (q := ?_); refine K.fzl 13 rfl (q := ?_); refine K.fzl 14 rfl (q := ?_); refine K.fzl 15 rfl (q := ?_))
  refine WD.done (by kernel_rfl) ?_; have hw6 : Below w.heap.size w w6 := hB.trans (ap6.below.mono hB.size)
  by_cases hv : vlE params ≠ 0
  · refine K.kgo ?_
    exact WQ.ret2 rfl rfl rfl (FrOut.bad he hv hw6)
  replace hv : vlE params = 0 := by omega
  rw [if_pos hv] at q6; rw [hv]; have hvl := valsB_len hfew hv; have hvb := valsB_byt (vlE_mem hv); have hrh : r.hash = hash := by rw [← hr]
  have hhs := rq_hash T6 (by rw [hrh]; exact hh); rw [hrh] at hhs; refine K.kgo ?_; refine WL.all rfl rfl rfl rfl rfl rfl ?_; refine WL.app rfl rfl rfl rfl rfl q6 rfl hhs (by rw [List.length_append, hh]; omega) fun b7 w7 q7 g7 => ?_; have hall : headB 81 kind sq nums ++ uvB text.size ++ bytesI text ++ valsB params ++ hash = rqB r := by rw [← hr]; unfold rqB; simp [List.append_assoc]
  have hbytes : Frm.Byt (rqB r) := by
    rw [← hall]; intro c hc; simp only [List.mem_append] at hc; rcases hc with (((h | h) | h) | h) | h
    · exact headB_byt (by omega) (by omega) _ _ c h
    · exact uvB_bytw _ c h
    · exact bytesI_byt _ c h
    · exact hvb c h
    · exact hhb c h
  have hlen : (rqB r).length ≤ 300000 := by rw [← hall, List.length_append, List.length_append, hh]; omega
  rw [hall] at q7; have ap7 := ap6.grow g7; refine WL.call rfl rfl rfl rfl rfl Tryz.func46 rfl (by kernel_rfl) (fenc_any q7.sl hbytes (by omega)) ?_; rintro _ w8 ⟨b8, rfl, q8, k8, o8⟩; refine ⟨_, rfl, ?_⟩; have hw7 : Below w.heap.size w w7 := hB.trans (ap7.below.mono hB.size); rw [if_neg (by omega)] at q8; rw [if_neg (by omega)]; refine K.kgo ?_; refine WQ.ret2 rfl rfl rfl ⟨b8, ?_, ⟨hw7.trans (k8.mono hw7.size), fun x hx => Nat.le_trans hw7.size (o8 x hx)⟩, ?_⟩
  · rw [he, hv]; rfl
  · rw [if_pos (by rw [he, hv])]; exact q8
end K
end Go.Proofs.YtpfkcfaifleliaaGreat

namespace Go.Proofs.YtpfkcfaifleliaaGreat
namespace Tre
open Go.Op

abbrev Ky := ByteArray
def kl (a b : Ky) : Bool := bytesLess a.toList b.toList
end Tre
end Go.Proofs.YtpfkcfaifleliaaGreat

namespace Go.Proofs.YtpfkcfaifleliaaGreat
open Go.RowKit
namespace K
variable {n : NN} {Q : Exit → Act → World → Prop} {l : Env} {w w' : World} {ops : Array Oper} {o : Oper} {rest : List Oper} {d : Nat}
section
variable {S : World → Prop} {m fuel : Nat} {listed : Array Bool}
end
theorem eqGuard_ptr {P : Program} (op : BinOp) (t : TypeId) (x y : Operand) (p q : Option Addr) (w : World) : (eqGuard op t x y (.pointer p) (.pointer q)).run P w = .ok () w := by
  cases op <;> simp [eqGuard]
theorem WL.nilP {x : Operand} {t t2 e : Nat} {p : Option Addr} (hg : o.guard = none) (hd : o.dst = some d) (hn : Nat.blt d n.n = true) (ho : o.op = .binOp .eql t x (.const (.pointer none)) t2) (ht : tyOf ty t = some (.ptr e)) (hx : evl l x = some (.pointer p)) (_hgd : Tryz.prog.eqGuardType Tryz.prog.depth t = false)
    (h : WL n ops Q rest ((d, .bool p.isNone) :: l) w) : WL n ops Q (o :: rest) l w :=
  WL.step hg hd hn (fun a ha => by
    have hu : Tryz.prog.underlying t = some (.pointer e) := TyOk.of tyOk ht; have he : Tryz.prog.pointee t = e := by simp [Program.pointee, hu]
    have hy : a.eval (.const (.pointer none)) = .pointer none := rfl; unfold execOp; rw [ho]; simp [ha.eval hx, hy, eqGuard_ptr _ _ _ _ _ _ _, run_eql_pointer_nil w t p (by rw [he]; exact hu)]) h
theorem WL.notNilP {x : Operand} {t t2 e : Nat} {p : Option Addr} (hg : o.guard = none) (hd : o.dst = some d) (hn : Nat.blt d n.n = true) (ho : o.op = .binOp .neq t x (.const (.pointer none)) t2) (ht : tyOf ty t = some (.ptr e)) (hx : evl l x = some (.pointer p)) (_hgd : Tryz.prog.eqGuardType Tryz.prog.depth t = false)
    (h : WL n ops Q rest ((d, .bool (!p.isNone)) :: l) w) : WL n ops Q (o :: rest) l w :=
  WL.step hg hd hn (fun a ha => by
    have hu : Tryz.prog.underlying t = some (.pointer e) := TyOk.of tyOk ht; have he : Tryz.prog.pointee t = e := by simp [Program.pointee, hu]
    have hy : a.eval (.const (.pointer none)) = .pointer none := rfl; unfold execOp; rw [ho]; simp [ha.eval hx, hy, eqGuard_ptr _ _ _ _ _ _ _, run_neq_pointer_nil w t p (by rw [he]; exact hu)]) h
end K
end Go.Proofs.YtpfkcfaifleliaaGreat

namespace Go.Proofs.YtpfkcfaifleliaaGreat
open Go.RowKit
namespace K
section
variable {n : NN} {Q : Exit → Act → World → Prop} {l : Env} {w w' : World} {ops : Array Oper} {o : Oper} {rest : List Oper} {d : Nat}
theorem WL.fnM {f : FuncId} {x : Operand} {u : Value} (hg : o.guard = none) (hd : o.dst = some d) (hn : Nat.blt d n.n = true) (ho : o.op = .makeFunc (.func f) #[x] #[]) (hx : evl l x = some u)
    (h : WL n ops Q rest ((d, .func (.func f) #[u] #[]) :: l) w) : WL n ops Q (o :: rest) l w :=
  WL.step hg hd hn (fun a ha => by
    unfold execOp; rw [ho]; simp [Instr.makeFunc, ha.eval hx]) h
theorem WL.callM {f : FuncId} {fn : Func} {x : Operand} {u : Value} {args : List Operand} {ts : Array TypeId} {vs : List Value} {R : Ending → World → Prop} (hg : o.guard = none) (hd : o.dst = some d) (hn : Nat.blt d n.n = true)
    (ho : o.op = .call { callee := .value x, args := args.toArray, argTypes := ts }) (hx : evl l x = some (.func (.func f) #[u] #[])) (hv : evlAll l args = some vs) (hf : Tryz.prog.funcs[f]? = some fn) (hb : fn.body.isNone = false) (hname : (fn.name == "runtime.NumGoroutine") = false)
    (hc : Calls Tryz.prog f (u :: vs).toArray w R) (h : ∀ e w', R e w' → ∃ v, e = .returned v ∧ WL n ops Q rest ((d, v) :: l) w') : WL n ops Q (o :: rest) l w :=
  ⟨fun a ha => by
    have hrun : (execOp a.eval o).run Tryz.prog w = .ok (.enter f (u :: vs).toArray) w := by
      unfold execOp; rw [ho]; have := evlAll_map ha hv; have e1 : (args.toArray.map a.eval) = vs.toArray := by rw [List.map_toArray, this]
      have e2 : a.eval x = .func (.func f) #[u] #[] := ha.eval hx; have hb' : ¬ fn.body = none := fun e => by rw [e] at hb; cases hb
      have hn' : ¬ fn.name = "runtime.NumGoroutine" := by simpa using hname
      simp [resolve, e1, e2, Deferred.ofValue, invoke, callFunc, hf, hb', hn']
    refine lw_enter hg hrun (hc.mono fun e w'' hh => ?_); obtain ⟨v, rfl, hwl⟩ := h e w'' hh; exact ⟨v, rfl, by rw [hd]; exact hwl.go _ (ha.put hn v)⟩⟩
end
end K
namespace Cl
open K
set_option maxRecDepth 100000
abbrev clT : Nat := 100
abbrev jbT : Nat := 116
abbrev msT : Nat := 57
abbrev rqT : Nat := 95
abbrev nos : Value := .slice none 0 0
structure Cli where
  id : Int
  tries : Int
  seq : Nat
  ses : Int
  has : Bool
  jobs : Value
  nums : Int
  now : Option Addr
  frame : Value
  waited : Int
  sends : Int
  size : Int
  root : List Int
  out : Value
def clC (c : Cli) : List Value := .int .i64 c.id :: .int .i64 c.tries :: .int .u64 c.seq :: .int .i64 c.ses :: .bool c.has :: c.jobs :: .int .i64 c.nums :: .pointer c.now :: c.frame :: .int .i64 c.waited :: .int .i64 c.sends :: .int .i64 c.size :: (c.root.map (Value.int .u8) ++ [c.out])
structure Jb where
  num : Int
  l : Value
  tries : Int
  txn : Int
  dig : List Int
  rows : Value
  com : Bool
  block : Int
  nsize : Int
  nroot : List Int
  err : Int
  hears : Value
def jbC (j : Jb) : List Value := .int .i64 j.num :: j.l :: .int .i64 j.tries :: .int .i64 j.txn :: (j.dig.map (Value.int .u8) ++ (j.rows :: .bool j.com :: .int .i64 j.block :: .int .i64 j.nsize :: (j.nroot.map (Value.int .u8) ++ [.int .i64 j.err, j.hears])))
theorem cut_at {a : List Value} {b : List Value} {m : Nat} (h : a.length = m) (i : Nat) : (a ++ b)[m + i]? = b[i]? := by rw [List.getElem?_append_right (by omega)]; congr 1; omega
theorem clC_len {c : Cli} (h : c.root.length = 32) : (clC c).length = 45 := by unfold clC; simp [h]
theorem clC_out {c : Cli} (h : c.root.length = 32) : (clC c).getD 44 undef = c.out := by
  unfold clC; simp only [List.getD_eq_getElem?_getD, List.getElem?_cons_succ]; rw [show 32 = 32 + 0 from rfl, cut_at (by simpa using h)]
  rfl
theorem set_at {a : List Value} {b : List Value} {m : Nat} (h : a.length = m) (i : Nat) (v : Value) : (a ++ b).set (m + i) v = a ++ b.set i v := by rw [List.set_append_right _ _ (by omega)]; congr 2; omega
theorem clC_set {c : Cli} (h : c.root.length = 32) (v : Value) : (clC c).set 44 v = clC { c with out := v } := by
  unfold clC; simp only [List.set_cons_succ]; rw [show 32 = 32 + 0 from rfl, set_at (by simpa using h)]
  rfl
theorem jbC_len {j : Jb} (h : j.dig.length = 32) (h2 : j.nroot.length = 32) : (jbC j).length = 74 := by unfold jbC; simp [h, h2]
theorem jbC_hears {j : Jb} (h : j.dig.length = 32) (h2 : j.nroot.length = 32) (v : Value) : (jbC j).set 73 v = jbC { j with hears := v } := by
  unfold jbC; simp only [List.set_cons_succ]; rw [show 69 = 32 + 37 from rfl, set_at (by simpa using h)]; simp only [List.set_cons_succ]; rw [show 33 = 32 + 1 from rfl, set_at (by simpa using h2)]
  rfl
theorem cloneB_any {w : World} {v : Value} {l : List Int} (hv : Sl .u8 w v l) (hl : l.length ≤ 140737488355328) : Calls Tryz.prog 62 #[v] w (Makes w l) := by
  obtain ⟨sp, cap, rfl, h1, h2, h3, h4⟩ := id hv; refine enter (args := [.slice sp l.length cap]) Tryz.func62 rfl Tryz.ntmps62 rfl ?_; refine K.kgo ?_; refine WL.nilB rfl rfl rfl rfl rfl rfl rfl ?_; cases sp with
  | none =>
    have hc := h4 rfl; obtain rfl : l = [] := List.eq_nil_of_length_eq_zero (by omega); refine K.kgo ?_; exact WQ.ret1 rfl rfl ⟨_, rfl, Bu.nil w, Below.refl _ _, fun g h => by cases h⟩
  | some p =>
    refine K.kgo ?_; refine WL.empty rfl rfl rfl rfl rfl fun g w1 hf => ?_; have hB := hf.below; have hg := hf.eq; refine K.kgo ?_; refine WL.app rfl rfl rfl rfl rfl (Bu.ofFresh hf) rfl (hv.of_below hB) (by simpa using hl) fun b w2 hb gr => ?_; refine K.kgo ?_; have hg' : ∀ g', (Value.slice (some ⟨g, 0, none⟩) 0 0).ownBlock = some g' → w.heap.size ≤ g' := fun g' h => by cases h; show w.heap.size ≤ g; omega
    exact WQ.ret1 rfl rfl ⟨b, rfl, hb, hB.trans (gr.old hB.size hg'), fun g' h => gr.own hB.size hg' g' h⟩
def Msg1 (w : World) (B : Nat) (v : Value) (id : Int) (l : List Int) : Prop := ∃ g fb, v = .slice (some ⟨g, 0, none⟩) 1 1 ∧ B ≤ g ∧ VBlk msT w g [.int .i64 id, .int .i64 0, fb] ∧ Bu w fb l ∧ ∀ x, fb.ownBlock = some x → B ≤ x
theorem sent_any {w : World} {cb : Nat} {c : Cli} {l : List Int} (h : VBlk clT w cb (clC c)) (hf : Bu w c.frame l) (hl : l.length ≤ 140737488355328) : Calls Tryz.prog 36 #[.pointer (some ⟨cb, 0, none⟩)] w fun e w' => ∃ v, e = .returned v ∧ Msg1 w' w.heap.size v c.id l ∧ Below w.heap.size w w' := by
  refine enter (args := [.pointer (some ⟨cb, 0, none⟩)]) Tryz.func36 rfl Tryz.ntmps36 rfl ?_; refine K.kgo ?_; refine WC.drawn 11 (fun wx => VBlk clT wx cb (clC c)) fun w2 hd => ?_; have hS : VBlk clT w2 cb (clC c) := VBlk.below h (hd.below _) (VBlk.lt h); have f2 := Bu.below hf (hd.below _); have b2 := hd.below w.heap.size; clear hd; refine K.fr [0, 1, 2] hS ?_; refine K.wl 3 [9, 10, 11] rfl rfl rfl rfl rfl rfl rfl (v := .int .i64 c.id) (fun wx hx => hx.cell 0 (by simp [clC])) hS ?_; refine K.fr [4, 5, 6] hS ?_; refine K.wl 7 [8, 9, 10, 11] rfl rfl rfl rfl rfl rfl rfl (v := c.frame) (fun wx hx => hx.cell 8 (by simp [clC])) hS ?_; refine K.wo 8 ?_; refine WL.call rfl rfl rfl rfl rfl Tryz.func62 rfl (by kernel_rfl) (cloneB_any f2.sl hl) ?_; rintro _ w3 ⟨fb, rfl, hb3, b3, o3⟩; refine ⟨_, rfl, ?_⟩; have hS3 := VBlk.below hS b3 (VBlk.lt hS); refine K.di hS3 ?_; obtain ⟨sp, cp, rfl, -, -⟩ := hb3.form; refine K.wo 9 ?_; refine WL.build [.int .i64 c.id, .int .i64 0, .slice sp l.length cp] rfl rfl rfl rfl rfl (by kernel_rfl) ?_; refine K.di hS3 ?_; refine K.wo 10 ?_; refine WL.lit1 (cs := [.int .i64 c.id, .int .i64 0, .slice sp l.length cp]) rfl rfl rfl rfl rfl rfl rfl rfl ⟨by omega, by omega⟩ (by kernel_rfl) fun g w4 f4 => ?_; have hS4 := VBlk.below hS3 f4.below (VBlk.lt hS3); refine K.di hS4 ?_; refine K.wo 11 ?_; refine WL.pure rfl rfl rfl rfl ?_; refine K.dl ?_; refine WD.done (by kernel_rfl) ?_; refine K.kgo ?_; have z2 := b2.size; have z3 := b3.size; have e4 := f4.eq; exact WQ.ret1 rfl rfl ⟨_, rfl, ⟨g, _, rfl, by omega, f4.blk, Bu.below hb3 f4.below, fun x hx => Nat.le_trans b2.size (o3 x hx)⟩, (b2.trans (b3.mono b2.size)).trans (f4.below.mono (by omega))⟩
theorem rqC_len {r : Rq} {nv pv : Value} (h : r.hash.length = 32) : (rqC r nv pv).length = 37 := by unfold rqC; simp [h]
def Asked (w : World) (cb jb : Nat) (c : Cli) (j : Jb) (hv : Value) (L : List Int) : Ending → World → Prop := fun e w' => ∃ v fb, e = .returned v ∧ VBlk clT w' cb (clC { c with seq := c.seq + 1, frame := fb, waited := 0, sends := 1 }) ∧ VBlk jbT w' jb (jbC { j with hears := hv }) ∧
  Bu w' fb L ∧ (∀ x, fb.ownBlock = some x → w.heap.size ≤ x) ∧ Msg1 w' w.heap.size v c.id L ∧ Keep (fun x => x < w.heap.size ∧ x ≠ cb ∧ x ≠ jb) w w'
set_option maxHeartbeats 8000000 in
theorem asks_any {f n : Nat} {w : World} {cb jb : Nat} {c : Cli} {j : Jb} {r : Rq} {nv pv hv : Value} (h : VBlk clT w cb (clC c)) (hj : VBlk jbT w jb (jbC j)) (hn : c.now = some ⟨jb, 0, none⟩) (hne : cb ≠ jb) (hq : ∀ w', Keep (fun x => x < w.heap.size ∧ x ≠ cb ∧ x ≠ jb) w w' → IsRq f w' r nv pv) (hfew : Few f r.params n) (ht : r.text.size ≤ 100000) (hs : c.seq ≤ 9007199254740990)
    (hd : j.dig.length = 32) (hd2 : j.nroot.length = 32) (hE : rqE { r with seq := ((c.seq + 1 : Nat) : Int) } = 0) (hlen : (Frm.frameL (rqB { r with seq := ((c.seq + 1 : Nat) : Int) })).length ≤ 140737488355328) (h1 : hv.oneCell' = true) :
    Calls Tryz.prog 59 #[.pointer (some ⟨cb, 0, none⟩), .agg (rqC r nv pv).toArray, hv] w (Asked w cb jb c j hv (Frm.frameL (rqB { r with seq := ((c.seq + 1 : Nat) : Int) }))) := by
  refine enter (args := [.pointer (some ⟨cb, 0, none⟩), .agg (rqC r nv pv).toArray, hv]) Tryz.func59 rfl Tryz.ntmps59 rfl ?_; refine K.kgn ?_; refine WL.box rfl rfl rfl rfl rfl fun g w1 f1 => ?_; have q1 : VBlk rqT w1 g (rqC r nv pv) := f1.blk; have v1 := VBlk.below h f1.below (VBlk.lt h); have j1 := VBlk.below hj f1.below (VBlk.lt hj); have e1 := f1.eq; have b1 := f1.below; have lcb := VBlk.lt h; have ljb := VBlk.lt hj; have hg1 : g ≠ cb := by omega
  have hg2 : g ≠ jb := by omega
  clear f1; have k1 : Keep (fun x => x < w.heap.size ∧ x ≠ cb ∧ x ≠ jb) w w1 := (Keep.of_below b1).mono fun x hx => hx.1; have s2 : w1.cell? ⟨cb, 2, none⟩ = some (.int .u64 c.seq) := v1.cell 2 (by simp [clC]); have hw2 : IntKind.u64.wrap ((c.seq : Int) + 1) = ((c.seq + 1 : Nat) : Int) := by rw [IntKind.wrap_u64]; omega
  refine K.kgl ?_; refine WL.store (v := .int .u64 ((c.seq + 1 : Nat) : Int)) rfl rfl rfl rfl (congrArg (fun z => some (Value.int .u64 z)) hw2) rfl (by kernel_rfl) s2 (VBlk.free v1 2) ?_; have v2 : VBlk clT (w1.setCell ⟨cb, 2, none⟩ (.int .u64 ((c.seq + 1 : Nat) : Int))) cb (clC { c with seq := c.seq + 1 }) := VBlk.set v1 2 _; have j2 := VBlk.other j1 ⟨cb, 2, none⟩ (.int .u64 ((c.seq + 1 : Nat) : Int)) (fun e => hne e.symm); have q2 := VBlk.other q1 ⟨cb, 2, none⟩ (.int .u64 ((c.seq + 1 : Nat) : Int)) hg1; have k2 := k1.setCell (p := ⟨cb, 2, none⟩) (fun hx => hx.2.1 rfl) (.int .u64 ((c.seq + 1 : Nat) : Int)); generalize w1.setCell ⟨cb, 2, none⟩ (.int .u64 ((c.seq + 1 : Nat) : Int)) = w2 at v2 j2 q2 k2 ⊢; clear v1 j1 q1 k1 s2; have s3 : w2.cell? ⟨cb, 2, none⟩ = some (.int .u64 ((c.seq + 1 : Nat) : Int)) := v2.cell 2 (by simp [clC]); refine K.kgl ?_; refine WL.store (v := .int .i64 ((c.seq + 1 : Nat) : Int)) rfl rfl rfl rfl rfl rfl (by kernel_rfl) (VBlk.cell q2 1 (by simp [rqC])) (VBlk.free q2 1) ?_; have q3 : VBlk rqT (w2.setCell ⟨g, 1, none⟩ (.int .i64 ((c.seq + 1 : Nat) : Int))) g (rqC { r with seq := ((c.seq + 1 : Nat) : Int) } nv pv) := VBlk.set q2 1 _; have v3 := VBlk.other v2 ⟨g, 1, none⟩ (.int .i64 ((c.seq + 1 : Nat) : Int)) (fun e => hg1 e.symm); have j3 := VBlk.other j2 ⟨g, 1, none⟩ (.int .i64 ((c.seq + 1 : Nat) : Int)) (fun e => hg2 e.symm); have k3 := k2.setCell (p := ⟨g, 1, none⟩) (fun hx => by have : g < w.heap.size := hx.1; omega) (.int .i64 ((c.seq + 1 : Nat) : Int)); have hw3 : w2.setCell ⟨g, 0 + 1, none⟩ (.int .i64 ((c.seq + 1 : Nat) : Int)) = w2.setCell ⟨g, 1, none⟩ (.int .i64 ((c.seq + 1 : Nat) : Int)) := rfl; rw [hw3]; generalize w2.setCell ⟨g, 1, none⟩ (.int .i64 ((c.seq + 1 : Nat) : Int)) = w3 at q3 v3 j3 k3 ⊢; clear v2 j2 q2 k2 s3 hw3; have hq3 := hq w3 k3; refine K.kgo ?_; refine WL.loadMid rfl rfl rfl rfl rfl rfl (VBlk.rangeAt q3) (rqC_len hq3.hash) ?_; refine WL.call rfl rfl rfl rfl rfl Tryz.func24 rfl (by kernel_rfl) (rqenc_any (r := { r with seq := ((c.seq + 1 : Nat) : Int) }) (f := f) (n := n) ⟨hq3.nums, hq3.r64, hq3.params, hq3.hash, hq3.byt⟩ hfew ht) ?_; rintro _ w4 ⟨b, rfl, ⟨b4, o4⟩, hbu⟩; rw [if_pos hE] at hbu; rw [hE]; refine ⟨_, rfl, ?_⟩; generalize Frm.frameL (rqB { r with seq := ((c.seq + 1 : Nat) : Int) }) = L at hbu hlen ⊢; have v4 := VBlk.below v3 b4 (VBlk.lt v3); have j4 := VBlk.below j3 b4 (VBlk.lt j3); have k4 := k3.trans ((Keep.of_below b4).mono fun x hx => Nat.lt_of_lt_of_le hx.1 k3.size); have z3 := k3.size; clear v3 j3 q3 hq hq3 hfew hE; have s7 : w4.cell? ⟨cb, 7, none⟩ = some (.pointer (some ⟨jb, 0, none⟩)) := by
    have := v4.cell 7 (by simp [clC]); rw [this, ← hn]
    rfl
  refine K.kgl ?_; refine WL.store (v := hv) rfl rfl rfl rfl rfl h1 (by kernel_rfl) (VBlk.cell j4 73 (by rw [jbC_len hd hd2]; omega)) (VBlk.free j4 73) ?_; have j5 := VBlk.set j4 73 hv; rw [jbC_hears hd hd2] at j5; have v5 := VBlk.other v4 ⟨jb, 73, none⟩ hv hne; have k5 := k4.setCell (p := ⟨jb, 73, none⟩) (fun hx => hx.2.2 rfl) hv; have n5 : Keep (fun x => x ≠ cb ∧ x ≠ jb) w4 (w4.setCell ⟨jb, 73, none⟩ hv) := (Keep.refl _ w4).setCell (fun hx => hx.2 rfl) hv; generalize hw5 : w4.setCell ⟨jb, _, none⟩ hv = w5; have hw5' : w4.setCell ⟨jb, 73, none⟩ hv = w5 := hw5; rw [hw5'] at j5 v5 k5 n5; clear hw5 hw5' s7 v4 j4 k4; refine K.kgo ?_; refine WL.store (v := b) rfl rfl rfl rfl rfl hbu.cell1 (by kernel_rfl) (VBlk.cell v5 8 (by simp [clC])) (VBlk.free v5 8) ?_; have v6 : VBlk clT (w5.setCell ⟨cb, 8, none⟩ b) cb (clC { c with seq := c.seq + 1, frame := b }) := VBlk.set v5 8 _; have j6 := VBlk.other j5 ⟨cb, 8, none⟩ b (fun e => hne e.symm); have k6 := k5.setCell (p := ⟨cb, 8, none⟩) (fun hx => hx.2.1 rfl) b; have n6 := n5.setCell (p := ⟨cb, 8, none⟩) (fun hx => hx.1 rfl) b; generalize hw6 : w5.setCell ⟨cb, _, none⟩ b = w6; have hw6' : w5.setCell ⟨cb, 8, none⟩ b = w6 := hw6; rw [hw6'] at v6 j6 k6 n6; clear hw6 hw6' v5 j5 k5 n5; refine K.kgo ?_; refine WL.store (v := .int .i64 0) rfl rfl rfl rfl rfl rfl (by kernel_rfl) (VBlk.cell v6 9 (by simp [clC])) (VBlk.free v6 9) ?_; have v7 : VBlk clT (w6.setCell ⟨cb, 9, none⟩ (.int .i64 0)) cb (clC { c with seq := c.seq + 1, frame := b, waited := 0 }) := VBlk.set v6 9 _; have j7 := VBlk.other j6 ⟨cb, 9, none⟩ (.int .i64 0) (fun e => hne e.symm); have k7 := k6.setCell (p := ⟨cb, 9, none⟩) (fun hx => hx.2.1 rfl) (.int .i64 0); have n7 := n6.setCell (p := ⟨cb, 9, none⟩) (fun hx => hx.1 rfl) (.int .i64 0); generalize hw7 : w6.setCell ⟨cb, _, none⟩ (.int .i64 0) = w7; have hw7' : w6.setCell ⟨cb, 9, none⟩ (.int .i64 0) = w7 := hw7; rw [hw7'] at v7 j7 k7 n7; clear hw7 hw7' v6 j6 k6 n6; refine K.kgo ?_; refine WL.store (v := .int .i64 1) rfl rfl rfl rfl rfl rfl (by kernel_rfl) (VBlk.cell v7 10 (by simp [clC])) (VBlk.free v7 10) ?_; have v8 : VBlk clT (w7.setCell ⟨cb, 10, none⟩ (.int .i64 1)) cb (clC { c with seq := c.seq + 1, frame := b, waited := 0, sends := 1 }) := VBlk.set v7 10 _; have j8 := VBlk.other j7 ⟨cb, 10, none⟩ (.int .i64 1) (fun e => hne e.symm); have k8 := k7.setCell (p := ⟨cb, 10, none⟩) (fun hx => hx.2.1 rfl) (.int .i64 1); have n8 := n7.setCell (p := ⟨cb, 10, none⟩) (fun hx => hx.1 rfl) (.int .i64 1); generalize hw8 : w7.setCell ⟨cb, _, none⟩ (.int .i64 1) = w8; have hw8' : w7.setCell ⟨cb, 10, none⟩ (.int .i64 1) = w8 := hw8; rw [hw8'] at v8 j8 k8 n8; clear hw8 hw8' v7 j7 k7 n7; have hb8 : Bu w8 b L := hbu.keep n8 fun x hx => by have := o4 x hx; exact ⟨by omega, by omega⟩
  refine K.kgo ?_; refine WL.call rfl rfl rfl rfl rfl Tryz.func36 rfl (by kernel_rfl) (sent_any v8 hb8 hlen) ?_; rintro _ w9 ⟨v, rfl, hm, b9⟩; refine ⟨_, rfl, ?_⟩; refine K.kgo ?_; have z8 := k8.size; obtain ⟨gm, fm, e1m, e2m, e3m, e4m, e5m⟩ := hm; exact WQ.ret1 rfl rfl ⟨v, b, rfl, VBlk.below v8 b9 (VBlk.lt v8), VBlk.below j8 b9 (VBlk.lt j8), Bu.below hb8 b9, fun x hx => Nat.le_trans z3 (o4 x hx), ⟨gm, fm, e1m, by omega, e3m, e4m, fun x hx => Nat.le_trans z8 (e5m x hx)⟩, k8.trans ((Keep.of_below b9).mono fun x hx => Nat.lt_of_lt_of_le hx.1 z8)⟩
end Cl
end Go.Proofs.YtpfkcfaifleliaaGreat

namespace Go.Proofs.YtpfkcfaifleliaaGreat
open Go.RowKit
namespace K
section
variable {n : NN} {Q : Exit → Act → World → Prop} {l : Env} {w w' : World} {ops : Array Oper} {o : Oper} {rest : List Oper} {d : Nat}
theorem WL.app0 {s x : Operand} {t e sz : Nat} {sp xp : Option Addr} {m cap xc : Nat} (hg : o.guard = none) (hd : o.dst = some d) (hn : Nat.blt d n.n = true)
    (ho : o.op = .call { callee := .builtin .append, args := #[s, x], argTypes := #[t, t] }) (ht : tyOf ty t = some (.slice e sz)) (hs : evl l s = some (.slice sp m cap)) (hc : m ≤ cap) (hx : evl l x = some (.slice xp 0 xc))
    (h : WL n ops Q rest ((d, .slice sp m cap) :: l) w) : WL n ops Q (o :: rest) l w :=
  WL.step hg hd hn (fun a ha => by
    obtain ⟨hu, hsz⟩ := TyOk.of tyOk ht; have hs' : (sizeOf e).run Tryz.prog w = .ok sz w := by
      cases hq : Tryz.prog.info? e with
      | none => rw [hq] at hsz; cases hsz
      | some q => rw [hq] at hsz; simp at hsz; simp [sizeOf, typeInfo, hq, hsz]
    unfold execOp; simp only [ho, resolve, invoke, builtin, Sem.run_bind, Sem.run_pure, Result.andThen_ok, List.map_toArray, List.map_cons, List.map_nil, ha.eval hs, ha.eval hx]; have hrun : (Builtin.append_ #[t, t] o.type #[.slice sp m cap, .slice xp 0 xc]).run Tryz.prog w = .ok (.slice sp m cap) w := by
      cases sp <;> cases xp <;> simp [Builtin.append_, run_underlying hu, hs', Builtin.lenOf, Builtin.firstCells, hc, loadCells, loadCellsFrom, storeCells]
    rw [hrun]
    rfl) h
end
end K
end Go.Proofs.YtpfkcfaifleliaaGreat

namespace Go.Proofs.YtpfkcfaifleliaaGreat
open Go.RowKit
namespace Cl
open K
set_option maxRecDepth 100000
abbrev smT : Nat := 67
abbrev sts : Nat := 39
def z32 : List Int := List.replicate 32 0
def cl0 (id tries : Int) : Cli := ⟨id, tries, 0, 0, false, nos, 0, none, nos, 0, 0, 0, z32, nos⟩
variable {w : World} {cb : Nat}
theorem newC {id tries : Int} (h1 : 1 ≤ id) (h2 : 1 ≤ tries) (h3 : tries ≤ 100) : Calls Tryz.prog 17 #[.int .i64 id, .int .i64 tries] w fun e w' => ∃ cb, e = .returned (.tuple #[.pointer (some ⟨cb, 0, none⟩), .int .i64 0]) ∧ VBlk clT w' cb (clC (cl0 id tries)) ∧ cb = w.heap.size ∧ Below w.heap.size w w' := by
  refine enter (args := [.int .i64 id, .int .i64 tries]) Tryz.func17 rfl Tryz.ntmps17 rfl ?_; refine K.kgo ?_; refine WL.build (clC (cl0 id tries)) rfl rfl rfl rfl rfl (by kernel_rfl) ?_; refine WL.box rfl rfl rfl rfl rfl fun cb w1 f1 => ?_; have v1 : VBlk clT w1 cb (clC (cl0 id tries)) := f1.blk; refine K.kgo ?_; exact WQ.ret2 rfl rfl rfl ⟨cb, rfl, v1, f1.eq, f1.below⟩
theorem valuesNil : Calls Tryz.prog 25 #[nos] w fun e w' => e = .returned nos ∧ w = w' := by
  refine enter (args := [nos]) Tryz.func25 rfl Tryz.ntmps25 rfl ?_; refine K.kgo ?_; refine WC.loop (fun _ : Unit => [(3, nos), (7, .int .i64 0), (8, .int .i64 0)]) (fun _ wz => w = wz) (fun _ => 0) () ⟨rfl, rfl, rfl, trivial⟩ rfl ?_; rintro ⟨⟩ _ rfl; refine K.kgo ?_; exact WQ.ret1 rfl rfl ⟨rfl, rfl⟩
theorem left0 {c : Cli} (h : VBlk clT w cb (clC c)) (hn : c.now = none) {sp : Option Addr} {m cp : Nat} (hj : c.jobs = .slice sp m cp) : Calls Tryz.prog 16 #[.pointer (some ⟨cb, 0, none⟩)] w fun e w' => e = .returned (.int .i64 m) ∧ w = w' := by
  refine enter (args := [.pointer (some ⟨cb, 0, none⟩)]) Tryz.func16 rfl Tryz.ntmps16 rfl ?_; have s7 : w.cell? ⟨cb, 7, none⟩ = some (.pointer none) := by have := h.cell 7 (by simp [clC]); rw [this, ← hn]; rfl
  have s5 : w.cell? ⟨cb, 5, none⟩ = some (.slice sp m cp) := by have := h.cell 5 (by simp [clC]); rw [this, ← hj]; rfl
  refine K.kgo ?_; refine WL.nilP rfl rfl rfl rfl rfl rfl (by kernel_rfl) ?_; refine K.kgl ?_; refine WL.notNilP rfl rfl rfl rfl rfl rfl (by kernel_rfl) ?_; refine K.kgl ?_; exact WQ.ret1 rfl rfl ⟨rfl, rfl⟩
theorem told_any {c : Cli} (h : VBlk clT w cb (clC c)) (hr : c.root.length = 32) : Calls Tryz.prog 33 #[.pointer (some ⟨cb, 0, none⟩)] w fun e w' => e = .returned c.out ∧ VBlk clT w' cb (clC { c with out := nos }) ∧ Keep (fun x => x < w.heap.size ∧ x ≠ cb) w w' := by
  refine enter (args := [.pointer (some ⟨cb, 0, none⟩)]) Tryz.func33 rfl Tryz.ntmps33 rfl ?_; have s44 : w.cell? ⟨cb, 44, none⟩ = some c.out := by have := h.cell 44 (by rw [clC_len hr]; omega); rw [clC_out hr] at this; exact this
  refine K.kgl ?_; refine WL.store (v := nos) rfl rfl rfl rfl rfl rfl (by kernel_rfl) s44 (VBlk.free h 44) ?_; have v2 := VBlk.set h 44 nos; rw [clC_set hr] at v2; have k2 := (Keep.refl (fun x => x < w.heap.size ∧ x ≠ cb) w).setCell (p := ⟨cb, 44, none⟩) (fun hx => hx.2 rfl) nos; refine K.kgo ?_; exact WQ.ret1 rfl rfl ⟨rfl, v2, k2⟩
theorem elemSt : ElemV Tryz.prog sts smT 2 40 := ElemV.mk' (z := .agg #[.string ByteArray.empty, nos]) Tryz.underlying39 (by kernel_rfl) rfl (by omega)
theorem elemJob : ElemV Tryz.prog 22 sts 1 24 := ElemV.mk' (z := nos) Tryz.underlying22 (by kernel_rfl) rfl (by omega)
theorem own1 {e m : Nat} {w : World} {O : Nat → Prop} {v : Value} {cs : List Value} (h : OwnE e m () (fun (_ : Unit) c => c = cs) O w v [()]) : ∃ g cp, v = .slice (some ⟨g, 0, none⟩) 1 cp ∧ O g ∧ OwnV e m w O (.slice (some ⟨g, 0, none⟩) 1 cp) 1 cs := by
  obtain ⟨kcs, q1, q2, q3⟩ := h; obtain ⟨c, rfl⟩ : ∃ c, kcs = [c] := by
    match kcs, q1 with
    | [c], _ => exact ⟨c, rfl⟩
  obtain rfl : c = cs := (q2 0 (by simp)).2; have q4 : OwnV e m w O v 1 c := by simpa using q3
  rcases q4.form with ⟨-, e, -⟩ | ⟨g, cp, cur, rfl, hO, -⟩
  · exact absurd e (by omega)
  · exact ⟨g, cp, rfl, hO, q4⟩
def rq4 (s : ByteArray) : Rq := ⟨4, 9007199254740992, [9007199254740992, 9007199254740992], s, [], z32⟩
theorem few0 : Few 17 [] 0 := ⟨(by simp), fun h => (by cases h), fun i _ => (by simp [vlB])⟩
theorem z32_byt : Frm.Byt z32 := fun c hc => by
  obtain ⟨-, rfl⟩ := List.mem_replicate.1 hc; omega
theorem rq4_ok {s : ByteArray} (hs : s.size ≤ 4096) : rqE (rq4 s) = 0 := by
  unfold rqE rq4; rw [if_neg (by simp), if_neg (by simp; omega)]
  rfl
theorem isVs_none (f : Nat) (w : World) : IsVs f w nos [] := ⟨none, 0, rfl, Nat.le_refl _, by omega, fun h => absurd h (by simp)⟩
set_option maxHeartbeats 8000000 in
theorem do1 {id tries : Int} {g : Nat} {s : ByteArray} (hs : s.size ≤ 4096) (h : VBlk clT w cb (clC (cl0 id tries))) (hg : VBlk smT w g [.string s, nos]) :
    Calls Tryz.prog 10 #[.pointer (some ⟨cb, 0, none⟩), .slice (some ⟨g, 0, none⟩) 1 1] w fun e w' => e = .returned (.tuple #[.int .i64 0, .int .i64 0]) ∧ ∃ gj cj gl cl, VBlk clT w' cb (clC { cl0 id tries with jobs := .slice (some ⟨gj, 0, none⟩) 1 cj, nums := 1 }) ∧
      OwnV sts 1 w' (fun x => w.heap.size ≤ x) (.slice (some ⟨gj, 0, none⟩) 1 cj) 1 [.slice (some ⟨gl, 0, none⟩) 1 cl] ∧ OwnV smT 2 w' (fun x => w.heap.size ≤ x) (.slice (some ⟨gl, 0, none⟩) 1 cl) 1 [.string s, nos] ∧ Keep (fun x => x < w.heap.size ∧ x ≠ cb) w w' := by
  refine enter (args := [.pointer (some ⟨cb, 0, none⟩), .slice (some ⟨g, 0, none⟩) 1 1]) Tryz.func10 rfl Tryz.ntmps10 rfl ?_; have lcb := VBlk.lt h; refine K.kgo ?_; refine WL.nilP rfl rfl rfl rfl rfl rfl (by kernel_rfl) ?_; refine K.kgo ?_; refine WC.loop (fun i : Nat => [(0, .pointer (some ⟨cb, 0, none⟩)), (1, .slice (some ⟨g, 0, none⟩) 1 1), (26, .slice (some ⟨g, 0, none⟩) 1 1), (27, .int .i64 1), (28, .int .i64 i)]) (fun i wz => i ≤ 1 ∧ Below w.heap.size w wz) (fun i => 1 - i) 0 ⟨rfl, rfl, rfl, rfl, rfl, trivial⟩ ⟨by omega, Below.refl _ _⟩ ?_; rintro i wr ⟨hi, br⟩; have hr := VBlk.below h br (VBlk.lt h); have hgr := VBlk.below hg br (VBlk.lt hg)
  by_cases h0 : i = 0
  · subst h0
    clear h hg; refine K.kgo ?_; refine WL.idx 0 0 rfl rfl rfl rfl rfl rfl rfl rfl (by omega) rfl ?_; refine WL.loadMid rfl rfl rfl rfl rfl rfl (VBlk.rangeAt hgr) rfl ?_; refine WL.alloc (z := .agg #[.string ByteArray.empty, nos]) rfl rfl rfl rfl (fun _ => by kernel_rfl) fun g8 w6 f6 => ?_; refine WL.storeRow rfl rfl rfl rfl rfl rfl f6.blk rfl rfl (fun u hu => by rcases List.mem_cons.1 hu with rfl | hu; rfl; rcases List.mem_cons.1 hu with rfl | hu; rfl; cases hu) ?_; have z6 := f6.below; have e6 := f6.eq; have t7 : VBlk smT (w6.setRow g8 #[.string s, nos]) g8 [.string s, nos] := f6.blk.setRow [.string s, nos]; have b7 : Below wr.heap.size wr (w6.setRow g8 #[.string s, nos]) := below_setRow f6.below (by omega) _; generalize hw7 : w6.setRow g8 _ = w7; have hw7' : w6.setRow g8 #[.string s, nos] = w7 := hw7; rw [hw7'] at t7 b7; clear hw7 hw7' f6 z6; refine K.kgo ?_; refine WL.litV [.int .i64 9007199254740992, .int .i64 9007199254740992] rfl rfl rfl rfl rfl rfl (by kernel_rfl) fun gn w8 f8 => ?_; have t8 := VBlk.below t7 f8.below (VBlk.lt t7); have b8 := b7.trans (f8.below.mono b7.size); have s0 : w8.cell? ⟨g8, 0, none⟩ = some (.string s) := t8.cell 0 (by simp); have s1 : w8.cell? ⟨g8, 1, none⟩ = some nos := t8.cell 1 (by simp); have hnv : Sl .i64 w8 (.slice (some ⟨gn, 0, none⟩) 2 2) [9007199254740992, 9007199254740992] := Sl.mk (l := [9007199254740992, 9007199254740992]) (by decide) (by omega) (VBlk.lt f8.blk) (fun j hj => by
      match j, hj with
      | 0, _ => exact f8.blk.cell 0 (by simp)
      | 1, _ => exact f8.blk.cell 1 (by simp))
    clear f8; refine K.kgl ?_; refine WL.build (rqC (rq4 s) (.slice (some ⟨gn, 0, none⟩) 2 2) nos) rfl rfl rfl rfl rfl (by kernel_rfl) ?_; refine WL.call rfl rfl rfl rfl rfl Tryz.func24 rfl (by kernel_rfl) (rqenc_any (r := rq4 s) ⟨hnv, fun x hx => (by rcases List.mem_cons.1 hx with rfl | hx; omega; rcases List.mem_cons.1 hx with rfl | hx; omega; cases hx), isVs_none _ _, rfl, z32_byt⟩ few0 (by show s.size ≤ 100000; omega)) ?_; rintro _ w9 ⟨b, rfl, ⟨b9, -⟩, -⟩; rw [rq4_ok hs]; refine ⟨_, rfl, ?_⟩; refine K.kgo ?_; exact WQ.again 1 ⟨rfl, rfl, rfl, rfl, rfl, trivial⟩ ⟨by omega, br.trans ((b8.trans (b9.mono b8.size)).mono br.size)⟩ (by omega)
  obtain rfl : i = 1 := by omega
  clear h hg h0; refine K.kgo ?_; refine WL.call rfl rfl rfl rfl rfl Tryz.func16 rfl (by kernel_rfl) (left0 (c := cl0 id tries) hr rfl rfl) ?_; rintro _ _ ⟨rfl, rfl⟩; refine ⟨_, rfl, ?_⟩; refine K.kgo ?_; refine WC.loop (fun i : Nat × Value => [(0, .pointer (some ⟨cb, 0, none⟩)), (10, i.2), (49, .slice (some ⟨g, 0, none⟩) 1 1), (50, .int .i64 1), (51, .int .i64 i.1)])
    (fun i wz => i.1 ≤ 1 ∧ Below wr.heap.size wr wz ∧ (i.1 = 0 → i.2 = nos) ∧ (i.1 = 1 → ∃ gl cl, i.2 = .slice (some ⟨gl, 0, none⟩) 1 cl ∧ OwnV smT 2 wz (fun x => w.heap.size ≤ x) (.slice (some ⟨gl, 0, none⟩) 1 cl) 1 [.string s, nos])) (fun i => 1 - i.1) (0, nos) ⟨rfl, rfl, rfl, rfl, rfl, trivial⟩ ⟨by simp, Below.refl _ _, fun _ => rfl, fun h => by simp at h⟩ ?_
  rintro ⟨i, v⟩ wz ⟨hi, bz, hv0, hv1⟩; simp only at hi hv0 hv1 ⊢; have zr := br.size; have zz := bz.size; have hz := VBlk.below hr bz (VBlk.lt hr); have hgz := VBlk.below hgr bz (VBlk.lt hgr)
  by_cases h0 : i = 0
  · subst h0
    obtain rfl := hv0 rfl; clear hv0 hv1 hi; refine K.kgo ?_; refine WL.idx 0 0 rfl rfl rfl rfl rfl rfl rfl rfl (by omega) rfl ?_; refine WL.loadMid rfl rfl rfl rfl rfl rfl (VBlk.rangeAt hgz) rfl ?_; refine WL.alloc (z := .agg #[.string ByteArray.empty, nos]) rfl rfl rfl rfl (fun _ => by kernel_rfl) fun g8 w6 f6 => ?_; refine WL.storeRow rfl rfl rfl rfl rfl rfl f6.blk rfl rfl (fun u hu => by rcases List.mem_cons.1 hu with rfl | hu; rfl; rcases List.mem_cons.1 hu with rfl | hu; rfl; cases hu) ?_; have e6 := f6.eq; have t7 : VBlk smT (w6.setRow g8 #[.string s, nos]) g8 [.string s, nos] := f6.blk.setRow [.string s, nos]; have b7 : Below wz.heap.size wz (w6.setRow g8 #[.string s, nos]) := below_setRow f6.below (by omega) _; generalize hw7 : w6.setRow g8 _ = w7; have hw7' : w6.setRow g8 #[.string s, nos] = w7 := hw7; rw [hw7'] at t7 b7; clear hw7 hw7' f6; refine K.kgo ?_; refine WC.drawn 9 (fun wx => VBlk smT wx g8 [.string s, nos] ∧ Below wz.heap.size wz wx) fun wa hd => ?_; have hS : VBlk smT wa g8 [.string s, nos] ∧ Below wz.heap.size wz wa := ⟨VBlk.below t7 (hd.below _) (VBlk.lt t7), b7.trans (hd.below _)⟩; clear hd t7 b7; refine K.fr [0, 1] hS ?_; refine K.wl 2 [6, 7, 8, 9] rfl rfl rfl rfl rfl rfl rfl (v := .string s) (fun wx hx => hx.1.cell 0 (by simp)) hS ?_; refine K.fr [3] hS ?_; refine K.wl 4 [5, 6, 7, 8, 9] rfl rfl rfl rfl rfl rfl rfl (v := nos) (fun wx hx => hx.1.cell 1 (by simp)) hS ?_; refine K.wo 5 ?_; refine WL.call rfl rfl rfl rfl rfl Tryz.func25 rfl (by kernel_rfl) valuesNil ?_; rintro _ _ ⟨rfl, rfl⟩; refine ⟨_, rfl, ?_⟩; refine K.di hS ?_; refine K.wo 6 ?_; refine WL.build [.string s, nos] rfl rfl rfl rfl rfl (by kernel_rfl) ?_; refine K.di hS ?_; refine K.wo 7 ?_; refine WL.lit1 (cs := [.string s, nos]) rfl rfl rfl rfl rfl rfl rfl rfl ⟨by omega, by omega⟩ (by kernel_rfl) fun g5 w5 f5 => ?_; have hS5 : VBlk smT w5 g8 [.string s, nos] ∧ Below wz.heap.size wz w5 := ⟨VBlk.below hS.1 f5.below (VBlk.lt hS.1), hS.2.trans (f5.below.mono hS.2.size)⟩; refine K.di hS5 ?_; refine K.wo 8 ?_; refine WL.snoc (y := ()) (P := fun (_ : Unit) c => c = [.string s, nos]) (z := ()) rfl rfl rfl rfl elemSt rfl (OwnE.nil _ _ _ _ (fun _ => False) _) rfl f5.blk (fun u hu => by rcases List.mem_cons.1 hu with rfl | hu; rfl; rcases List.mem_cons.1 hu with rfl | hu; rfl; cases hu) rfl rfl (by simp) (by simp) fun v8 w8 own8 gr8 => ?_; have z5 := hS5.2.size; have b8 : Below w5.heap.size w5 w8 := gr8.old (Nat.le_refl _) fun g hg => by cases hg
    have hS8 : VBlk smT w8 g8 [.string s, nos] ∧ Below wz.heap.size wz w8 := ⟨VBlk.below hS5.1 b8 (VBlk.lt hS5.1), hS5.2.trans (b8.mono hS5.2.size)⟩; refine K.di hS8 ?_; refine K.wo 9 ?_; refine WL.pure rfl rfl rfl rfl ?_; refine K.dl ?_; refine WD.done (by kernel_rfl) ?_; refine K.kgo ?_; obtain ⟨gl, cl, rfl, hO, hown⟩ := own1 own8; exact WQ.again (1, .slice (some ⟨gl, 0, none⟩) 1 cl) ⟨rfl, rfl, rfl, rfl, rfl, trivial⟩ ⟨by simp, bz.trans (hS8.2.mono bz.size), fun h => by simp at h, fun _ => ⟨gl, cl, rfl, hown.mono fun x hx => by rcases hx with hx | hx; exact hx.elim; omega⟩⟩ (by simp)
  obtain rfl : i = 1 := by omega
  obtain ⟨gl, cl, rfl, hown⟩ := hv1 rfl; clear hv0 hv1 h0 hi; have s5 : wz.cell? ⟨cb, 5, none⟩ = some nos := hz.cell 5 (by simp [clC]); refine K.kgl ?_; refine WL.lit1 (cs := [.slice (some ⟨gl, 0, none⟩) 1 cl]) rfl rfl rfl rfl rfl rfl rfl rfl ⟨by omega, by omega⟩ (by kernel_rfl) fun g5 w5 f5 => ?_; refine WL.snoc (y := ()) (P := fun (_ : Unit) c => c = [.slice (some ⟨gl, 0, none⟩) 1 cl]) (z := ()) rfl rfl rfl rfl elemJob rfl (OwnE.nil _ _ _ _ (fun _ => False) _) rfl f5.blk (fun u hu => by rcases List.mem_cons.1 hu with rfl | hu; rfl; cases hu) rfl rfl (by simp) (by simp) fun v8 w8 own8 gr8 => ?_; have b8 : Below w5.heap.size w5 w8 := gr8.old (Nat.le_refl _) fun g hg => by cases hg
  have z5 := f5.size; have b58 : Below wz.heap.size wz w8 := f5.below.trans (b8.mono (by omega)); obtain ⟨gj, cj, rfl, hO, hownj⟩ := own1 own8; have v8 := VBlk.below hz b58 (VBlk.lt hz); have o8 := OwnV.keep hown (Keep.of_below b58) (fun g hg => OwnV.lt hown hg); have b08 : Below w.heap.size w w8 := br.trans ((bz.trans (b58.mono zz)).mono zr); have k8 : Keep (fun x => x < w.heap.size ∧ x ≠ cb) w w8 := (Keep.of_below b08).mono fun x hx => hx.1; have e5 := f5.eq; have l8 : gj = w5.heap.size := by rcases hO with hO | hO; exact hO.elim; exact hO
  have lgl : w.heap.size ≤ gl := OwnV.own hown rfl; clear own8 gr8 f5 hown b8 b58 s5 b08; refine K.kgo ?_; refine WL.store (v := .slice (some ⟨gj, 0, none⟩) 1 cj) rfl rfl rfl rfl rfl rfl (by kernel_rfl) (VBlk.cell v8 5 (by simp [clC])) (VBlk.free v8 5) ?_; have v9 : VBlk clT (w8.setCell ⟨cb, 5, none⟩ (.slice (some ⟨gj, 0, none⟩) 1 cj)) cb (clC { cl0 id tries with jobs := .slice (some ⟨gj, 0, none⟩) 1 cj }) := VBlk.set v8 5 _; have n9 := (Keep.refl (fun x => x ≠ cb) w8).setCell (p := ⟨cb, 5, none⟩) (fun hx => hx rfl) (.slice (some ⟨gj, 0, none⟩) 1 cj); have k9 := k8.setCell (p := ⟨cb, 5, none⟩) (fun hx => hx.2 rfl) (.slice (some ⟨gj, 0, none⟩) 1 cj); generalize hw9 : w8.setCell ⟨cb, _, none⟩ (.slice (some ⟨gj, 0, none⟩) 1 cj) = w9; have hw9' : w8.setCell ⟨cb, 5, none⟩ (.slice (some ⟨gj, 0, none⟩) 1 cj) = w9 := hw9; rw [hw9'] at v9 n9 k9; clear hw9 hw9' v8 k8; have s6 : w9.cell? ⟨cb, 6, none⟩ = some (.int .i64 0) := v9.cell 6 (by simp [clC]); refine K.kgl ?_; refine WL.store (v := .int .i64 1) rfl rfl rfl rfl rfl rfl (by kernel_rfl) s6 (VBlk.free v9 6) ?_; have v10 : VBlk clT (w9.setCell ⟨cb, 6, none⟩ (.int .i64 1)) cb (clC { cl0 id tries with jobs := .slice (some ⟨gj, 0, none⟩) 1 cj, nums := 1 }) := VBlk.set v9 6 _; have n10 := n9.setCell (p := ⟨cb, 6, none⟩) (fun hx => hx rfl) (.int .i64 1); have k10 := k9.setCell (p := ⟨cb, 6, none⟩) (fun hx => hx.2 rfl) (.int .i64 1); generalize hwA : w9.setCell ⟨cb, _, none⟩ (.int .i64 1) = wA; have hwA' : w9.setCell ⟨cb, 6, none⟩ (.int .i64 1) = wA := hwA; rw [hwA'] at v10 n10 k10; clear hwA hwA' v9 k9 n9 s6; have s6 : wA.cell? ⟨cb, 6, none⟩ = some (.int .i64 1) := v10.cell 6 (by simp [clC]); refine K.kgl ?_; refine WQ.ret2 rfl rfl rfl ⟨rfl, gj, cj, gl, cl, v10, (OwnV.keep hownj n10 (fun x hx => by cases hx; show gj ≠ cb; omega)).mono (fun x hx => by rcases hx with hx | hx; exact hx.elim; omega), OwnV.keep o8 n10 (fun x hx => by cases hx; show gl ≠ cb; omega), k10⟩
end Cl
end Go.Proofs.YtpfkcfaifleliaaGreat

namespace Go.Proofs.YtpfkcfaifleliaaGreat
open Go.RowKit Go.Maps

section
variable {κ : Type} {P : Program} {k : TypeId} {mk : κ → Value} {w : World} {b n : Nat} {F : κ → Option Value}

end
end Go.Proofs.YtpfkcfaifleliaaGreat

namespace Go.Proofs.YtpfkcfaifleliaaGreat
open Go.RowKit Go.Maps
namespace K
section
variable {n : NN} {Q : Exit → Act → World → Prop} {l : Env} {w w' : World} {ops : Array Oper} {o : Oper} {rest : List Oper} {d : Nat} {S : World → Prop} {m fuel : Nat} {listed : Array Bool}
theorem WL.mkMap {t : Nat} (hg : o.guard = none) (hd : o.dst = some d) (hn : Nat.blt d n.n = true) (ho : o.op = .makeMap t none) (h : WL n ops Q rest ((d, .map (some w.heap.size)) :: l) (w.alloc (.map #[] 0))) : WL n ops Q (o :: rest) l w :=
  WL.step hg hd hn (fun a ha => by
    unfold execOp; rw [ho]; simp [go_sem, Instr.makeMap, Result.andThen]) h
end
end K
end Go.Proofs.YtpfkcfaifleliaaGreat

namespace Go.Proofs.YtpfkcfaifleliaaGreat
open Go.RowKit Go.Maps
namespace K
section
variable {n : NN} {Q : Exit → Act → World → Prop} {l : Env} {w w' : World} {ops : Array Oper} {o : Oper} {rest : List Oper} {d : Nat}
theorem sliceT {t e s : Nat} (ht : tyOf ty t = some (.slice e s)) (w : World) : Tryz.prog.underlying t = some (.slice (Tryz.prog.elem t)) ∧ (sizeOf (Tryz.prog.elem t)).run Tryz.prog w = .ok s w := by
  obtain ⟨hu, hsz⟩ := TyOk.of tyOk ht; have he : Tryz.prog.elem t = e := by simp [Program.elem, hu]
  refine ⟨by rw [he]; exact hu, ?_⟩; rw [he]; cases hq : Tryz.prog.info? e with
  | none => rw [hq] at hsz; cases hsz
  | some q => rw [hq] at hsz; simp at hsz; simp [sizeOf, typeInfo, hq, hsz]
theorem WL.nilTo {t e s : Nat} {x hi : Operand} {k1 : IntKind} (hg : o.guard = none) (hd : o.dst = some d) (hn : Nat.blt d n.n = true) (ho : o.op = .slice t x none (some hi) none) (ht : tyOf ty t = some (.slice e s))
    (hx : evl l x = some (.slice none 0 0)) (hhi : evl l hi = some (.int k1 0)) (h : WL n ops Q rest ((d, .slice none 0 0) :: l) w) : WL n ops Q (o :: rest) l w :=
  WL.step hg hd hn (fun a ha => by
    obtain ⟨hu', hs⟩ := sliceT ht w; unfold execOp; rw [ho]; have hr := run_slice_h w t none 0 0 hu' k1 0 (by omega) (by omega); simp [ha.eval hx, ha.eval hhi, run_sliceAt_slice w t _ _ _ _ hu', hr, hs, sliced]) h
theorem WL.nilFrom {t e s : Nat} {x lo : Operand} {k1 : IntKind} (hg : o.guard = none) (hd : o.dst = some d) (hn : Nat.blt d n.n = true) (ho : o.op = .slice t x (some lo) none none) (ht : tyOf ty t = some (.slice e s))
    (hx : evl l x = some (.slice none 0 0)) (hlo : evl l lo = some (.int k1 0)) (h : WL n ops Q rest ((d, .slice none 0 0) :: l) w) : WL n ops Q (o :: rest) l w :=
  WL.step hg hd hn (fun a ha => by
    obtain ⟨hu', hs⟩ := sliceT ht w; unfold execOp; rw [ho]; have hr := run_slice_l w t none 0 0 hu' k1 0 (by omega) (by omega); simp [ha.eval hx, ha.eval hlo, run_sliceAt_slice w t _ _ _ _ hu', hr, hs, sliced]) h
end
end K
namespace Cl
open K
set_option maxRecDepth 100000
abbrev dkT : Nat := 132
abbrev flT : Nat := 232
abbrev jT : Nat := 177
abbrev no : Value := .slice none 0 0
abbrev dkC (v : Value) : List Value := [.int .i64 4194304, v, .int .i64 (-1)]
abbrev jC (db : Nat) : List Value := [.pointer (some ⟨db, 0, none⟩), no, no, .bool false]
variable {w : World} {db jb : Nat}
theorem new3 : Calls Tryz.prog 22 #[.int .i64 4194304] w fun e w' => ∃ db, e = .returned (.tuple #[.pointer (some ⟨db, 0, none⟩), .int .i64 0]) ∧ VBlk dkT w' db (dkC no) ∧ db = w.heap.size ∧ Below w.heap.size w w' := by
  refine enter (args := [.int .i64 4194304]) Tryz.func22 rfl Tryz.ntmps22 rfl ?_; refine K.kgo ?_; refine WL.build (dkC no) rfl rfl rfl rfl rfl (by kernel_rfl) ?_; refine WL.box rfl rfl rfl rfl rfl fun db w1 f1 => ?_; have v1 : VBlk dkT w1 db (dkC no) := f1.blk; refine K.kgo ?_; exact WQ.ret2 rfl rfl rfl ⟨db, rfl, v1, f1.eq, f1.below⟩
theorem spot3 (h : VBlk dkT w db (dkC no)) (s : ByteArray) : Calls Tryz.prog 107 #[.pointer (some ⟨db, 0, none⟩), .string s] w fun e w' => e = .returned (.tuple #[.int .i64 0, .bool false]) ∧ Below w.heap.size w w' := by
  refine enter (args := [.pointer (some ⟨db, 0, none⟩), .string s]) Tryz.func107 rfl Tryz.ntmps107 rfl ?_; have c1 : w.cell? ⟨db, 1, none⟩ = some no := h.cell 1 (by simp); refine K.kgo ?_; refine WC.loop (fun _ : Unit => [(0, .pointer (some ⟨db, 0, none⟩)), (1, .string s), (6, .int .i64 0)]) (fun _ wz => w = wz) (fun _ => 0) () ⟨rfl, rfl, rfl, trivial⟩ rfl ?_; rintro ⟨⟩ _ rfl; refine K.kgl ?_; refine WC.drawn 21 (fun wx => VBlk dkT wx db (dkC no)) fun w2 hd => ?_; have hS : VBlk dkT w2 db (dkC no) := VBlk.below h (hd.below _) (VBlk.lt h); refine K.fr [0, 1, 2, 3, 4] hS ?_; refine K.wl 5 [6, 7, 8, 9, 10, 11, 12, 13, 14, 15, 16, 17, 18, 19, 20, 21] rfl rfl rfl rfl rfl rfl rfl (fun wx hx => hx.cell 1 (by simp)) hS ?_; refine K.fr [6, 7, 8, 9, 10, 11, 12, 13, 14, 15, 16, 17, 18, 19, 20] hS ?_; refine K.wo 21 ?_; refine WL.pure rfl rfl rfl rfl ?_; refine K.dl ?_; refine WD.done (by kernel_rfl) ?_; refine K.kgo ?_; exact WQ.ret2 rfl rfl rfl ⟨rfl, hd.below _⟩
theorem list3 (h : VBlk dkT w db (dkC no)) : Calls Tryz.prog 105 #[.pointer (some ⟨db, 0, none⟩)] w fun e w' => e = .returned no ∧ w = w' := by
  refine enter (args := [.pointer (some ⟨db, 0, none⟩)]) Tryz.func105 rfl Tryz.ntmps105 rfl ?_; have c1 : w.cell? ⟨db, 1, none⟩ = some no := h.cell 1 (by simp); refine K.kgo ?_; refine WC.loop (fun _ : Unit => [(0, .pointer (some ⟨db, 0, none⟩)), (3, no), (4, .int .i64 0)]) (fun _ wz => w = wz) (fun _ => 0) () ⟨rfl, rfl, rfl, trivial⟩ rfl ?_; rintro ⟨⟩ _ rfl; refine K.kgl ?_; exact WQ.ret1 rfl rfl ⟨rfl, rfl⟩
theorem used3 (h : VBlk dkT w db (dkC no)) : Calls Tryz.prog 108 #[.pointer (some ⟨db, 0, none⟩)] w fun e w' => e = .returned (.int .i64 0) ∧ w = w' := by
  refine enter (args := [.pointer (some ⟨db, 0, none⟩)]) Tryz.func108 rfl Tryz.ntmps108 rfl ?_; have c1 : w.cell? ⟨db, 1, none⟩ = some no := h.cell 1 (by simp); refine K.kgo ?_; refine WC.loop (fun _ : Unit => [(0, .pointer (some ⟨db, 0, none⟩)), (3, .int .i64 0), (4, .int .i64 0)]) (fun _ wz => w = wz) (fun _ => 0) () ⟨rfl, rfl, rfl, trivial⟩ rfl ?_; rintro ⟨⟩ _ rfl; refine K.kgl ?_; exact WQ.ret1 rfl rfl ⟨rfl, rfl⟩
theorem did3 {v : Value} (h : VBlk dkT w db (dkC v)) : Calls Tryz.prog 109 #[.pointer (some ⟨db, 0, none⟩)] w fun e w' => e = .returned (.int .i64 0) ∧ w = w' := by
  refine enter (args := [.pointer (some ⟨db, 0, none⟩)]) Tryz.func109 rfl Tryz.ntmps109 rfl ?_; have c1 : w.cell? ⟨db, 2, none⟩ = some (.int .i64 (-1)) := h.cell 2 (by simp); refine K.kgl ?_; exact WQ.ret1 rfl rfl ⟨rfl, rfl⟩
theorem may3 {v : Value} (h : VBlk dkT w db (dkC v)) {g : Nat} {s : ByteArray} (hg : VBlk 9 w g [.string s]) (h1 : 1 ≤ s.size) (h2 : s.size ≤ 64) : Calls Tryz.prog 106 #[.pointer (some ⟨db, 0, none⟩), .slice (some ⟨g, 0, none⟩) 1 1] w fun e w' => e = .returned (.int .i64 0) ∧ w = w' := by
  refine enter (args := [.pointer (some ⟨db, 0, none⟩), .slice (some ⟨g, 0, none⟩) 1 1]) Tryz.func106 rfl Tryz.ntmps106 rfl ?_; have c1 : w.cell? ⟨db, 2, none⟩ = some (.int .i64 (-1)) := h.cell 2 (by simp); have c2 : w.cell? ⟨g, 0, none⟩ = some (.string s) := hg.cell 0 (by simp); refine K.kgl ?_; refine WC.loop (fun i : Nat => [(0, .pointer (some ⟨db, 0, none⟩)), (1, .slice (some ⟨g, 0, none⟩) 1 1), (5, .int .i64 i)]) (fun i wz => w = wz ∧ i ≤ 1) (fun i => 1 - i) 0 ⟨rfl, rfl, rfl, trivial⟩ ⟨rfl, by omega⟩ ?_; rintro i _ ⟨rfl, hi⟩
  by_cases h0 : i = 0
  · subst h0
    refine K.kgo ?_; refine WL.idx 0 0 rfl rfl rfl rfl rfl rfl rfl rfl (by omega) rfl ?_; refine K.kgl ?_; refine WL.idx 0 0 rfl rfl rfl rfl rfl rfl rfl rfl (by omega) rfl ?_; refine K.kgl ?_; exact WQ.again 1 ⟨rfl, rfl, rfl, trivial⟩ ⟨rfl, by omega⟩ (by omega)
  · refine K.kgl ?_
    exact WQ.ret1 rfl rfl ⟨rfl, rfl⟩
def flP (s : ByteArray) (_ : Unit) (cs : List Value) : Prop := cs = [.string s, no, .int .i64 0]
theorem elemF : ElemV Tryz.prog 130 flT 3 48 := ElemV.mk' (z := .agg #[.string ByteArray.empty, no, .int .i64 0]) Tryz.underlying130 (by kernel_rfl) rfl (by omega)
set_option maxHeartbeats 4000000 in
theorem append3 (h : VBlk dkT w db (dkC no)) {s : ByteArray} (h1 : 1 ≤ s.size) (h2 : s.size ≤ 64) : Calls Tryz.prog 72 #[.pointer (some ⟨db, 0, none⟩), .string s, no] w fun e w' => e = .returned (.int .i64 0) ∧ Keep (fun x => x < w.heap.size ∧ x ≠ db) w w' := by
  refine enter (args := [.pointer (some ⟨db, 0, none⟩), .string s, no]) Tryz.func72 rfl Tryz.ntmps72 rfl ?_; refine K.kgo ?_; refine WL.lit1 (cs := [.string s]) rfl rfl rfl rfl rfl rfl rfl rfl ⟨by omega, by omega⟩ (by kernel_rfl) fun g w1 f1 => ?_; have v1 := VBlk.below h f1.below (VBlk.lt h); have b1 := f1.below; refine WL.call rfl rfl rfl rfl rfl Tryz.func106 rfl (by kernel_rfl) (may3 v1 f1.blk h1 h2) ?_; rintro _ _ ⟨rfl, rfl⟩; refine ⟨_, rfl, ?_⟩; clear f1; refine K.kgo ?_; refine WL.call rfl rfl rfl rfl rfl Tryz.func107 rfl (by kernel_rfl) (spot3 v1 s) ?_; rintro _ w2 ⟨rfl, b2⟩; refine ⟨_, rfl, ?_⟩; have v2 := VBlk.below v1 b2 (VBlk.lt v1); have b02 := b1.trans (b2.mono b1.size); clear b1 b2 v1; refine K.kgo ?_; refine WC.drawn 21 (fun wx => VBlk dkT wx db (dkC no) ∧ Below w.heap.size w wx) fun w3 hd => ?_; have hS : VBlk dkT w3 db (dkC no) ∧ Below w.heap.size w w3 := ⟨VBlk.below v2 (hd.below _) (VBlk.lt v2), b02.trans (hd.below _)⟩; clear hd; refine K.fr [0, 2, 3, 5, 6, 7] hS ?_; refine K.wl 8 [9, 10, 11, 12, 13, 14, 15, 16, 17, 18, 19, 20, 21] rfl rfl rfl rfl rfl rfl rfl (fun wx hx => hx.1.cell 0 (by simp)) hS ?_; refine K.wo 1 ?_; refine WL.call rfl rfl rfl rfl rfl Tryz.func108 rfl (by kernel_rfl) (used3 hS.1) ?_; rintro _ _ ⟨rfl, rfl⟩; refine ⟨_, rfl, ?_⟩; refine K.di hS ?_; refine K.fr [4, 9, 10, 11, 12, 13, 14, 15, 16] hS ?_; refine K.wl 17 [18, 19, 20, 21] rfl rfl rfl rfl rfl rfl rfl (fun wx hx => hx.1.cell 1 (by simp)) hS ?_; refine K.fr [18, 19, 20] hS ?_; refine K.wo 21 ?_; refine WL.pure rfl rfl rfl rfl ?_; refine K.dl ?_; refine WD.done (by kernel_rfl) ?_; obtain ⟨v3, b3⟩ := hS; clear v2 b02; have c3 : w3.cell? ⟨db, 1, none⟩ = some no := v3.cell 1 (by simp); refine K.kgo ?_; refine WL.empty rfl rfl rfl rfl rfl fun g4 w4 f4 => ?_; have c4 : w4.cell? ⟨db, 1, none⟩ = some no := (VBlk.below v3 f4.below (VBlk.lt v3)).cell 1 (by simp); refine K.kgl ?_; refine WL.nilTo rfl rfl rfl rfl rfl rfl rfl ?_; refine WL.app0 rfl rfl rfl rfl rfl rfl (Nat.le_refl 0) rfl ?_; refine K.kgo ?_; have l4 : g4 = w3.heap.size := f4.eq; have own4 : OwnE flT 3 () (flP s) (fun x => x = g4) w4 (.slice (some ⟨g4, 0, none⟩) 0 0) [] := ⟨[], rfl, fun j hj => absurd hj (by simp), ⟨by simp, .inr ⟨g4, 0, #[], rfl, Nat.zero_le _, f4.blk, Nat.le_refl _, by unfold maxLen; omega, by simp, by simp⟩⟩, fun _ h => (List.not_mem_nil h).elim, fun g h => by cases h; rfl⟩; have v4 := VBlk.below v3 f4.below (VBlk.lt v3); have b4 := b3.trans (f4.below.mono b3.size); have z3 := b3.size; have z4 := f4.size; clear f4 c3 c4; refine WL.build [.string s, no, .int .i64 0] rfl rfl rfl rfl rfl (by kernel_rfl) ?_; refine WL.lit1 (cs := [.string s, no, .int .i64 0]) rfl rfl rfl rfl rfl rfl rfl rfl ⟨by omega, by omega⟩ (by kernel_rfl) fun g5 w5 f5 => ?_; have own5 := OwnE.keep own4 (Keep.of_below f5.below) (fun g hg => OwnE.lt own4 hg) (fun _ h => h) (fun _ _ h => h); have v5 := VBlk.below v4 f5.below (VBlk.lt v4); have b5 := b4.trans (f5.below.mono b4.size); have z5 := f5.size; have ldb := VBlk.lt h; refine WL.snoc (y := ()) rfl rfl rfl rfl elemF rfl own5 rfl f5.blk (fun u hu => by rcases List.mem_cons.1 hu with rfl | hu; rfl; rcases List.mem_cons.1 hu with rfl | hu; rfl; rcases List.mem_cons.1 hu with rfl | hu; rfl; cases hu) rfl rfl (by simp) (by simp) fun v6 w6 own6 gr6 => ?_; have b6 := b5.trans ((gr6.old (B := w.heap.size) (by have := b5.size; omega) fun g hg => by cases hg; show w.heap.size ≤ g4; omega)); have v6b := VBlk.keep v5 gr6.1 ⟨VBlk.lt v5, fun e => by have : g4 = db := Option.some.inj e; omega⟩; clear gr6 own5 own4 f5 v5 v4 b4 b5 b3 v3; refine K.kgo ?_; have c6 : w6.cell? ⟨db, 1, none⟩ = some no := v6b.cell 1 (by simp); refine K.kgl ?_; refine WL.nilFrom rfl rfl rfl rfl rfl rfl rfl ?_; obtain ⟨kcs, q1, q2, q3⟩ := own6; obtain ⟨cs, rfl⟩ : ∃ cs, kcs = [cs] := by
    match kcs, q1 with
    | [cs], _ => exact ⟨cs, rfl⟩
  obtain rfl : cs = [.string s, no, .int .i64 0] := (q2 0 (by simp)).2; clear q1 q2; have q4 : OwnV flT 3 w6 (fun b => b = g4 ∨ b = w5.heap.size) v6 1 [.string s, no, .int .i64 0] := q3; clear q3; rcases q4.form with ⟨-, e, -⟩ | ⟨g6, cap6, cur6, rfl, hO6, lt6, -, hc6, -⟩
  · exact absurd e (by omega)
  refine WL.app0 rfl rfl rfl rfl rfl rfl hc6 rfl ?_; refine K.kgo ?_; refine WL.store rfl rfl rfl rfl rfl rfl (by kernel_rfl) c6 (VBlk.free v6b 1) ?_; have hg6 : g6 ≠ db := by omega
  have v7 : VBlk dkT (w6.setCell ⟨db, 1, none⟩ (.slice (some ⟨g6, 0, none⟩) 1 cap6)) db (dkC (.slice (some ⟨g6, 0, none⟩) 1 cap6)) := VBlk.set v6b 1 _; have k7 : Keep (fun x => x < w.heap.size ∧ x ≠ db) w (w6.setCell ⟨db, 1, none⟩ (.slice (some ⟨g6, 0, none⟩) 1 cap6)) := ((Keep.of_below b6).mono fun x hx => hx.1).setCell (fun h => h.2 rfl) _; have o7 := OwnV.keep q4 ((Keep.refl (fun x => x ≠ db) w6).setCell (p := ⟨db, 1, none⟩) (fun h => h rfl) (.slice (some ⟨g6, 0, none⟩) 1 cap6)) (fun g hg => by cases hg; exact hg6); have hw6 : w.heap.size ≤ g6 := by omega
  generalize w6.setCell ⟨db, 1, none⟩ _ = w7 at v7 k7 o7 ⊢; clear q4 v6b c6 b6; refine K.kgo ?_; refine WC.drawn 19 (fun wx => VBlk dkT wx db (dkC (.slice (some ⟨g6, 0, none⟩) 1 cap6)) ∧ OwnV flT 3 wx (fun b => b = g4 ∨ b = w5.heap.size) (.slice (some ⟨g6, 0, none⟩) 1 cap6) 1 [.string s, no, .int .i64 0] ∧ Keep (fun x => x < w.heap.size ∧ x ≠ db) w wx) fun w8 hd => ?_; have hS : VBlk dkT w8 db (dkC (.slice (some ⟨g6, 0, none⟩) 1 cap6)) ∧ OwnV flT 3 w8 (fun b => b = g4 ∨ b = w5.heap.size) (.slice (some ⟨g6, 0, none⟩) 1 cap6) 1 [.string s, no, .int .i64 0] ∧ Keep (fun x => x < w.heap.size ∧ x ≠ db) w w8 :=
    ⟨VBlk.below v7 (hd.below _) (VBlk.lt v7), OwnV.keep o7 (Keep.of_below (hd.below _)) (fun g hg => OwnV.lt o7 hg), k7.trans ((Keep.of_below (hd.below _)).mono fun x hx => Nat.lt_of_lt_of_le hx.1 k7.size)⟩
  clear hd v7 o7 k7; refine K.fr [0, 1, 2] hS ?_; refine K.wl 3 [17, 18, 19] rfl rfl rfl rfl rfl rfl rfl (fun wx hx => hx.1.cell 1 (by simp)) hS ?_; refine K.fr [4, 6, 7, 8] hS ?_; refine K.wl 9 [11, 12, 13, 14, 16, 17, 18, 19] rfl rfl rfl rfl rfl rfl rfl (fun wx hx => hx.1.cell 1 (by simp)) hS ?_; refine K.fr [10] hS ?_; refine K.wi 11 0 0 rfl rfl rfl rfl rfl rfl rfl rfl rfl (by omega) rfl (.inr hS) ?_; refine K.fr [12] hS ?_; refine K.wl 13 [14, 16, 17, 18, 19] rfl rfl rfl rfl rfl rfl rfl (fun wx hx => hx.2.1.at 1 (by simp)) hS ?_; refine K.fr [15] hS ?_; refine K.wo 5 ?_; refine WL.empty rfl rfl rfl rfl rfl fun g9 w9 f9 => ?_; have hS9 : VBlk dkT w9 db (dkC (.slice (some ⟨g6, 0, none⟩) 1 cap6)) ∧ OwnV flT 3 w9 (fun b => b = g4 ∨ b = w5.heap.size) (.slice (some ⟨g6, 0, none⟩) 1 cap6) 1 [.string s, no, .int .i64 0] ∧ Keep (fun x => x < w.heap.size ∧ x ≠ db) w w9 :=
    ⟨VBlk.below hS.1 f9.below (VBlk.lt hS.1), OwnV.keep hS.2.1 (Keep.of_below f9.below) (fun g hg => OwnV.lt hS.2.1 hg), hS.2.2.trans ((Keep.of_below f9.below).mono fun x hx => Nat.lt_of_lt_of_le hx.1 hS.2.2.size)⟩
  clear hS f9; refine K.di hS9 ?_; refine K.wo 14 ?_; refine WL.app0 rfl rfl rfl rfl rfl rfl (Nat.le_refl 0) rfl ?_; refine K.di hS9 ?_; refine K.wo 16 ?_; refine WL.app0 rfl rfl rfl rfl rfl rfl (Nat.le_refl 0) rfl ?_; refine K.di hS9 ?_; have hS := hS9; refine K.wi 17 0 0 rfl rfl rfl rfl rfl rfl rfl rfl rfl (by omega) rfl (.inr hS9) ?_; refine K.fr [18] hS ?_; refine K.wo 19 ?_; obtain ⟨v9, o9, k9⟩ := hS9; refine WL.store rfl rfl rfl rfl rfl rfl (by kernel_rfl) (o9.at 1 (by simp)) (OwnV.free o9 1) ?_; have v10 := VBlk.other v9 ⟨g6, 1, none⟩ (.slice (some ⟨g9, 0, none⟩) 0 0) (fun e => hg6 e.symm); have k10 := k9.setCell (p := ⟨g6, 1, none⟩) (fun h => by have : g6 < w.heap.size := h.1; omega) (.slice (some ⟨g9, 0, none⟩) 0 0); refine K.dl ?_; refine WD.done (by kernel_rfl) ?_; refine K.kgo ?_; refine WL.call rfl rfl rfl rfl rfl Tryz.func109 rfl (by kernel_rfl) (did3 v10) ?_; rintro _ _ ⟨rfl, rfl⟩; refine ⟨_, rfl, ?_⟩; refine K.kgo ?_; exact WQ.ret1 rfl rfl ⟨rfl, k10⟩
theorem read3 (h : VBlk dkT w db (dkC no)) (s : ByteArray) : Calls Tryz.prog 96 #[.pointer (some ⟨db, 0, none⟩), .string s] w fun e w' => e = .returned (.tuple #[no, .int .i64 7]) ∧ Below w.heap.size w w' := by
  refine enter (args := [.pointer (some ⟨db, 0, none⟩), .string s]) Tryz.func96 rfl Tryz.ntmps96 rfl ?_; refine K.kgo ?_; refine WL.call rfl rfl rfl rfl rfl Tryz.func107 rfl (by kernel_rfl) (spot3 h s) ?_; rintro _ w2 ⟨rfl, b2⟩; refine ⟨_, rfl, ?_⟩; refine K.kgo ?_; exact WQ.ret2 rfl rfl rfl ⟨rfl, b2⟩
theorem gone12 (h : VBlk jT w jb (jC db)) : Calls Tryz.prog 133 #[.pointer (some ⟨jb, 0, none⟩)] w fun e w' => ∃ v, e = .returned v ∧ Below w.heap.size w w' := by
  refine enter (args := [.pointer (some ⟨jb, 0, none⟩)]) Tryz.func133 rfl Tryz.ntmps133 rfl ?_; refine K.kgo ?_; refine WL.mkMap rfl rfl rfl rfl ?_; have b1 : Below w.heap.size w (w.alloc (.map #[] 0)) := (Below.refl _ w).alloc (Nat.le_refl _) _; have v1 := VBlk.below h b1 (VBlk.lt h); generalize w.alloc (.map #[] 0) = w1 at v1 b1 ⊢; have c1 : w1.cell? ⟨jb, 1, none⟩ = some no := v1.cell 1 (by simp); refine K.kgo ?_; refine WC.loop (fun _ : Unit => [(0, .pointer (some ⟨jb, 0, none⟩)), (3, .map (some w.heap.size)), (4, .int .i64 0)]) (fun _ wz => w1 = wz) (fun _ => 0) () ⟨rfl, rfl, rfl, trivial⟩ rfl ?_; rintro ⟨⟩ _ rfl; refine K.kgl ?_; exact WQ.ret1 rfl rfl ⟨_, rfl, b1⟩
theorem load12 (h : VBlk jT w jb (jC db)) (hd : VBlk dkT w db (dkC no)) : Calls Tryz.prog 101 #[.pointer (some ⟨jb, 0, none⟩)] w fun e w' => e = .returned (.int .i64 0) ∧ Below w.heap.size w w' := by
  refine enter (args := [.pointer (some ⟨jb, 0, none⟩)]) Tryz.func101 rfl Tryz.ntmps101 rfl ?_; have c0 : w.cell? ⟨jb, 0, none⟩ = some (.pointer (some ⟨db, 0, none⟩)) := h.cell 0 (by simp); refine K.kgl ?_; refine WL.call rfl rfl rfl rfl rfl Tryz.func105 rfl (by kernel_rfl) (list3 hd) ?_; rintro _ _ ⟨rfl, rfl⟩; refine ⟨_, rfl, ?_⟩; refine K.kgo ?_; refine WC.loop (fun _ : Unit => [(0, .pointer (some ⟨jb, 0, none⟩)), (3, no), (4, .int .i64 0)]) (fun _ wz => w = wz) (fun _ => 0) () ⟨rfl, rfl, rfl, trivial⟩ rfl ?_; rintro ⟨⟩ _ rfl; refine K.kgo ?_; refine WL.call rfl rfl rfl rfl rfl Tryz.func133 rfl (by kernel_rfl) (gone12 h) ?_; rintro _ w1 ⟨v, rfl, b1⟩; refine ⟨_, rfl, ?_⟩; refine K.kgo ?_; refine WL.mkMap rfl rfl rfl rfl ?_; have b2 : Below w.heap.size w (w1.alloc (.map #[] 0)) := b1.trans (((Below.refl _ w1).alloc (Nat.le_refl _) _).mono b1.size); have c1 : (w1.alloc (.map #[] 0)).cell? ⟨jb, 1, none⟩ = some no := (VBlk.below h b2 (VBlk.lt h)).cell 1 (by simp); generalize hmb : w1.heap.size = mb; generalize w1.alloc (.map #[] 0) = w2 at c1 b2 ⊢; refine K.kgo ?_; refine WC.loop (fun _ : Unit => [(0, .pointer (some ⟨jb, 0, none⟩)), (8, no), (10, .int .i64 0)]) (fun _ wz => w2 = wz) (fun _ => 0) () ⟨rfl, rfl, rfl, trivial⟩ rfl ?_; rintro ⟨⟩ _ rfl; refine K.kgl ?_; refine WC.loop (fun _ : Unit => [(8, no), (13, .int .i64 0)]) (fun _ wz => w2 = wz) (fun _ => 0) () ⟨rfl, rfl, trivial⟩ rfl ?_; rintro ⟨⟩ _ rfl; refine K.kgo ?_; exact WQ.ret1 rfl rfl ⟨rfl, b2⟩
theorem open12 (h : VBlk dkT w db (dkC no)) : Calls Tryz.prog 67 #[.pointer (some ⟨db, 0, none⟩)] w fun e w' => ∃ jb, e = .returned (.tuple #[.pointer (some ⟨jb, 0, none⟩), .int .i64 0]) ∧ VBlk jT w' jb (jC db) ∧ Below w.heap.size w w' := by
  refine enter (args := [.pointer (some ⟨db, 0, none⟩)]) Tryz.func67 rfl Tryz.ntmps67 rfl ?_; refine K.kgo ?_; refine WL.nilP rfl rfl rfl rfl rfl rfl (by kernel_rfl) ?_; refine K.kgo ?_; refine WL.build (jC db) rfl rfl rfl rfl rfl (by kernel_rfl) ?_; refine WL.box rfl rfl rfl rfl rfl fun jb w1 f1 => ?_; have v1 : VBlk jT w1 jb (jC db) := f1.blk; have d1 := VBlk.below h f1.below (VBlk.lt h); have b1 := f1.below; clear f1; refine K.kgo ?_; have c0 : w1.cell? ⟨jb, 0, none⟩ = some (.pointer (some ⟨db, 0, none⟩)) := v1.cell 0 (by simp); refine K.kgl ?_; refine WL.call rfl rfl rfl rfl rfl Tryz.func96 rfl (by kernel_rfl) (read3 d1 _) ?_; rintro _ w2 ⟨rfl, b2⟩; refine ⟨_, rfl, ?_⟩; refine K.kgo ?_; refine WL.call rfl rfl rfl rfl rfl Tryz.func101 rfl (by kernel_rfl) (load12 (VBlk.below v1 b2 (VBlk.lt v1)) (VBlk.below d1 b2 (VBlk.lt d1))) ?_; rintro _ w3 ⟨rfl, b3⟩; refine ⟨_, rfl, ?_⟩; refine K.kgo ?_; have b13 : Below w1.heap.size w1 w3 := b2.trans (b3.mono b2.size); exact WQ.ret2 rfl rfl rfl ⟨jb, rfl, VBlk.below v1 b13 (VBlk.lt v1), b1.trans (b13.mono b1.size)⟩
end Cl
end Go.Proofs.YtpfkcfaifleliaaGreat

namespace Go.Proofs.YtpfkcfaifleliaaGreat
open Go.RowKit Go.Maps
namespace Cl
open K
set_option maxRecDepth 100000
abbrev mgT : Nat := 173
abbrev cfT : Nat := 92
variable {w : World} {db jb : Nat}
theorem new15 : Calls Tryz.prog 68 #[] w fun e w' => ∃ p, e = .returned (.pointer p) ∧ Below w.heap.size w w' := by
  refine enter (args := []) Tryz.func68 rfl Tryz.ntmps68 rfl ?_; refine K.kgo ?_; refine WL.build [no] rfl rfl rfl rfl rfl (by kernel_rfl) ?_; refine WL.box rfl rfl rfl rfl rfl fun cp w1 f1 => ?_; have b1 := f1.below; clear f1; refine WL.mkMap rfl rfl rfl rfl ?_; have b2 : Below w.heap.size w (w1.alloc (.map #[] 0)) := b1.trans (((Below.refl _ w1).alloc (Nat.le_refl _) _).mono b1.size); generalize w1.heap.size = mb; generalize w1.alloc (.map #[] 0) = w2 at b2 ⊢; refine WL.build [Value.pointer (some ⟨cp, 0, none⟩), no, .int .i64 0, .map (some mb)] rfl rfl rfl rfl rfl (by kernel_rfl) ?_; refine WL.box rfl rfl rfl rfl rfl fun rb w3 f3 => ?_; refine K.kgo ?_; exact WQ.ret1 rfl rfl ⟨_, rfl, b2.trans (f3.below.mono b2.size)⟩
theorem opening22 (h : VBlk dkT w db (dkC no)) : Calls Tryz.prog 71 #[.pointer (some ⟨db, 0, none⟩)] w fun e w' => e = .returned (.int .i64 (-1)) ∧ w = w' := by
  refine enter (args := [.pointer (some ⟨db, 0, none⟩)]) Tryz.func71 rfl Tryz.ntmps71 rfl ?_; refine K.kgo ?_; refine WL.call rfl rfl rfl rfl rfl Tryz.func105 rfl (by kernel_rfl) (list3 h) ?_; rintro _ _ ⟨rfl, rfl⟩; refine ⟨_, rfl, ?_⟩; refine K.kgo ?_; refine WC.loop (fun _ : Unit => [(3, .int .i64 (-1)), (4, no), (5, .int .i64 0)]) (fun _ wz => w = wz) (fun _ => 0) () ⟨rfl, rfl, rfl, trivial⟩ rfl ?_; rintro ⟨⟩ _ rfl; refine K.kgo ?_; exact WQ.ret1 rfl rfl ⟨rfl, rfl⟩
theorem dec1 : Calls Tryz.prog 110 #[.int .u64 1] w fun e w' => ∃ s : ByteArray, e = .returned (.string s) ∧ s.size = 1 ∧ Below w.heap.size w w' := by
  refine enter (args := [.int .u64 1]) Tryz.func110 rfl Tryz.ntmps110 rfl ?_; refine K.kgo ?_; refine WC.loop (fun _ : Unit => [(0, .int .u64 1), (3, .string ⟨#[]⟩)]) (fun _ wz => w = wz) (fun _ => 0) () ⟨rfl, rfl, trivial⟩ rfl ?_; rintro ⟨⟩ _ rfl; have hq : IntKind.u64.wrap ((1 : Int).tdiv 10) = 0 := by decide
  refine K.kgo ?_; refine WL.lit rfl rfl rfl rfl rfl rfl rfl fun b w1 hb hb1 _ => ?_; refine WL.strOf rfl rfl rfl rfl rfl rfl rfl rfl hb.sl ?_; have hcz := strOfNums_size [IntKind.u8.wrap (IntKind.u64.wrap (48 + (1 : Int).tmod 10))]; generalize strOfNums [IntKind.u8.wrap (IntKind.u64.wrap (48 + (1 : Int).tmod 10))] = x at hcz ⊢; have hcz : x.size = 1 := hcz; refine K.kgo ?_; refine WL.concat rfl rfl rfl rfl rfl rfl (by rw [hcz]; decide) ?_; have hs : (x ++ (⟨#[]⟩ : ByteArray)).size = 1 := by rw [ByteArray.size_append, hcz]; rfl
  generalize x ++ (⟨#[]⟩ : ByteArray) = y at hs ⊢; refine K.kgo ?_; exact WQ.ret1 rfl rfl ⟨y, rfl, hs, hb1⟩
theorem name22 : Calls Tryz.prog 73 #[.int .i64 1] w fun e w' => ∃ s : ByteArray, e = .returned (.string s) ∧ s.size = 9 ∧ Below w.heap.size w w' := by
  refine enter (args := [.int .i64 1]) Tryz.func73 rfl Tryz.ntmps73 rfl ?_; refine K.kgo ?_; refine WL.call rfl rfl rfl rfl rfl Tryz.func110 rfl (by kernel_rfl) dec1 ?_; rintro _ w1 ⟨s, rfl, hs, b1⟩; refine ⟨_, rfl, ?_⟩; refine K.kgo ?_; refine WC.loop (fun s : ByteArray => [(3, .string s)]) (fun s wz => w1 = wz ∧ 1 ≤ s.size ∧ s.size ≤ 8) (fun s => 8 - s.size) s ⟨rfl, trivial⟩ ⟨rfl, by omega, by omega⟩ ?_; clear hs; rintro s _ ⟨rfl, h1, h2⟩
  by_cases h8 : s.size < 8
  · refine K.kgo ?_
    refine WL.concat rfl rfl rfl rfl rfl rfl (by show 1 + s.size ≤ _; omega) ?_; have hs : ((⟨#[48]⟩ : ByteArray) ++ s).size = 1 + s.size := by rw [ByteArray.size_append]; rfl
    generalize (⟨#[48]⟩ : ByteArray) ++ s = y at hs ⊢; refine K.kgo ?_; exact WQ.again y ⟨rfl, trivial⟩ ⟨rfl, by omega, by omega⟩ (by omega)
  · refine K.kgo ?_
    refine WL.concat rfl rfl rfl rfl rfl rfl (by show 1 + s.size ≤ _; omega) ?_; have hs : ((⟨#[111]⟩ : ByteArray) ++ s).size = 1 + s.size := by rw [ByteArray.size_append]; rfl
    generalize (⟨#[111]⟩ : ByteArray) ++ s = y at hs ⊢; refine K.kgo ?_; exact WQ.ret1 rfl rfl ⟨y, rfl, by omega, b1⟩
abbrev mgC (jb : Nat) (v : Value) (n1 n2 : Int) : List Value := [.pointer (some ⟨jb, 0, none⟩), v, no, .int .i64 2, .int .i64 30, no, .int .i64 0, .int .i64 n1, .int .i64 n2]
set_option maxHeartbeats 4000000 in
theorem open22 (h : VBlk dkT w db (dkC no)) : Calls Tryz.prog 42 #[.pointer (some ⟨db, 0, none⟩), .agg #[.int .i64 2, .int .i64 30]] w fun e w' => ∃ p, e = .returned (.tuple #[.pointer p, .int .i64 0]) ∧ Keep (fun x => x < w.heap.size ∧ x ≠ db) w w' := by
  refine enter (args := [.pointer (some ⟨db, 0, none⟩), .agg #[.int .i64 2, .int .i64 30]]) Tryz.func42 rfl Tryz.ntmps42 rfl ?_; refine K.kgn ?_; refine WL.box rfl rfl rfl rfl rfl fun cb w1 f1 => ?_; have v1 : VBlk cfT w1 cb [.int .i64 2, .int .i64 30] := f1.blk; have d1 := VBlk.below h f1.below (VBlk.lt h); have b1 := f1.below; clear f1; have c0 : w1.cell? ⟨cb, 0, none⟩ = some (.int .i64 2) := v1.cell 0 (by simp); have c1 : w1.cell? ⟨cb, 1, none⟩ = some (.int .i64 30) := v1.cell 1 (by simp); refine K.kgl ?_; refine WL.call rfl rfl rfl rfl rfl Tryz.func67 rfl (by kernel_rfl) (open12 d1) ?_; rintro _ w2 ⟨jb, rfl, j2, b2⟩; refine ⟨_, rfl, ?_⟩; have v2 := VBlk.below v1 b2 (VBlk.lt v1); have d2 := VBlk.below d1 b2 (VBlk.lt d1); have b02 := b1.trans (b2.mono b1.size); clear b1 b2 v1 d1 c0 c1; refine K.kgo ?_; refine WC.drawn 5 (fun wx => VBlk cfT wx cb [.int .i64 2, .int .i64 30] ∧ Below w2.heap.size w2 wx) fun w3 hd => ?_; have hS : VBlk cfT w3 cb [.int .i64 2, .int .i64 30] ∧ Below w2.heap.size w2 w3 := ⟨VBlk.below v2 (hd.below _) (VBlk.lt v2), hd.below _⟩; clear hd; refine K.fr [0] hS ?_; refine K.wm 2 [3, 4, 5] rfl rfl rfl rfl rfl rfl rfl (fun wx hx => VBlk.rangeAt hx.1) rfl hS ?_; refine K.wo 1 ?_; refine WL.call rfl rfl rfl rfl rfl Tryz.func68 rfl (by kernel_rfl) new15 ?_; rintro _ w4 ⟨p, rfl, b4⟩; refine ⟨_, rfl, ?_⟩; have hS4 : VBlk cfT w4 cb [.int .i64 2, .int .i64 30] ∧ Below w2.heap.size w2 w4 := ⟨VBlk.below hS.1 b4 (VBlk.lt hS.1), hS.2.trans (b4.mono hS.2.size)⟩; clear hS b4; refine K.di hS4 ?_; refine K.wo 3 ?_; refine WL.build (mgC jb (.pointer p) 0 0) rfl rfl rfl rfl rfl (by kernel_rfl) ?_; refine K.di hS4 ?_; refine K.wo 4 ?_; refine WL.box rfl rfl rfl rfl rfl fun mb w5 f5 => ?_; have hS5 : VBlk cfT w5 cb [.int .i64 2, .int .i64 30] ∧ Below w2.heap.size w2 w5 := ⟨VBlk.below hS4.1 f5.below (VBlk.lt hS4.1), hS4.2.trans (f5.below.mono hS4.2.size)⟩; have m5 : VBlk mgT w5 mb (mgC jb (.pointer p) 0 0) := f5.blk; have e5 := f5.eq; refine K.di hS5 ?_; refine K.wo 5 ?_; refine WL.pure rfl rfl rfl rfl ?_; refine K.dl ?_; refine WD.done (by kernel_rfl) ?_; have z4 := hS4.2.size; have z02 := b02.size; have b5 := hS5.2; clear hS4 hS5 f5 v2; have j5 := VBlk.below j2 b5 (VBlk.lt j2); have d5 := VBlk.below d2 b5 (VBlk.lt d2); have b05 := b02.trans (b5.mono b02.size); clear j2 d2 b02 b5; have c1 : w5.cell? ⟨jb, 1, none⟩ = some no := j5.cell 1 (by simp); refine K.kgo ?_; refine WC.loop (fun _ : Unit => [(0, .pointer (some ⟨db, 0, none⟩)), (6, .pointer (some ⟨jb, 0, none⟩)), (8, .pointer (some ⟨mb, 0, none⟩)), (9, .int .i64 0)]) (fun _ wz => w5 = wz) (fun _ => 0) () ⟨rfl, rfl, rfl, rfl, trivial⟩ rfl ?_; rintro ⟨⟩ _ rfl; refine K.kgl ?_; refine WL.call rfl rfl rfl rfl rfl Tryz.func71 rfl (by kernel_rfl) (opening22 d5) ?_; rintro _ _ ⟨rfl, rfl⟩; refine ⟨_, rfl, ?_⟩; refine K.kgo ?_; refine WL.call rfl rfl rfl rfl rfl Tryz.func73 rfl (by kernel_rfl) name22 ?_; rintro _ w6 ⟨s, rfl, hs, b6⟩; refine ⟨_, rfl, ?_⟩; have d6 := VBlk.below d5 b6 (VBlk.lt d5); have ldb := VBlk.lt h; refine WL.call rfl rfl rfl rfl rfl Tryz.func72 rfl (by kernel_rfl) (append3 d6 (by omega) (by omega)) ?_; rintro _ w7 ⟨rfl, k7⟩; refine ⟨_, rfl, ?_⟩; have z6 := b6.size; have z7 := k7.size; have l5 := VBlk.lt m5; have m7 : VBlk mgT w7 mb (mgC jb (.pointer p) 0 0) := VBlk.keep (VBlk.below m5 b6 (VBlk.lt m5)) k7 ⟨by omega, by omega⟩; have b06 := b05.trans (b6.mono b05.size); have k07 : Keep (fun x => x < w.heap.size ∧ x ≠ db) w w7 := ((Keep.of_below b06).mono fun x hx => hx.1).trans (k7.mono fun x hx => ⟨Nat.lt_of_lt_of_le hx.1 b06.size, hx.2⟩); clear k7 b06 b6 m5 d5 d6 j5 c1; have z05 := b05.size; refine K.kgo ?_; refine WL.store rfl rfl rfl rfl rfl rfl (by kernel_rfl) (VBlk.cell m7 7 (by simp)) (VBlk.free m7 7) ?_; have m8 := VBlk.set m7 7 (.int .i64 1048576); have k8 := k07.setCell (p := ⟨mb, 7, none⟩) (fun hx => by have := hx.1; have : mb < w.heap.size := this; omega) (.int .i64 1048576); generalize hw8 : w7.setCell ⟨mb, 7, none⟩ _ = w8; have hw8' : w7.setCell ⟨mb, 7, none⟩ (.int .i64 1048576) = w8 := hw8; rw [hw8'] at m8 k8; refine K.kgo ?_; refine WL.store rfl rfl rfl rfl rfl rfl (by kernel_rfl) (VBlk.cell m8 8 (by simp)) (VBlk.free m8 8) ?_; have k9 := k8.setCell (p := ⟨mb, 8, none⟩) (fun hx => by have := hx.1; have : mb < w.heap.size := this; omega) (.int .i64 1048576); refine K.kgo ?_; exact WQ.ret2 rfl rfl rfl ⟨_, rfl, k9⟩
theorem open26 (h : VBlk dkT w db (dkC no)) : Calls Tryz.prog 23 #[.pointer (some ⟨db, 0, none⟩), .agg #[.int .i64 2, .int .i64 30]] w fun e w' => ∃ p, e = .returned (.tuple #[.pointer p, .int .i64 0]) ∧ Keep (fun x => x < w.heap.size ∧ x ≠ db) w w' := by
  refine enter (args := [.pointer (some ⟨db, 0, none⟩), .agg #[.int .i64 2, .int .i64 30]]) Tryz.func23 rfl Tryz.ntmps23 rfl ?_; refine K.kgn ?_; refine WL.box rfl rfl rfl rfl rfl fun cb w1 f1 => ?_; have v1 : VBlk cfT w1 cb [.int .i64 2, .int .i64 30] := f1.blk; have d1 := VBlk.below h f1.below (VBlk.lt h); have b1 := f1.below; clear f1; refine K.kgo ?_; refine WL.loadMid rfl rfl rfl rfl rfl rfl (VBlk.rangeAt v1) rfl ?_; refine WL.call rfl rfl rfl rfl rfl Tryz.func42 rfl (by kernel_rfl) (open22 d1) ?_; rintro _ w2 ⟨p, rfl, k2⟩; refine ⟨_, rfl, ?_⟩; have k02 : Keep (fun x => x < w.heap.size ∧ x ≠ db) w w2 := ((Keep.of_below b1).mono fun x hx => hx.1).trans (k2.mono fun x hx => ⟨Nat.lt_of_lt_of_le hx.1 b1.size, hx.2⟩); clear k2; refine K.kgo ?_; refine WL.mkMap rfl rfl rfl rfl ?_; have k3 : Keep (fun x => x < w.heap.size ∧ x ≠ db) w (w2.alloc (.map #[] 0)) := k02.alloc (fun x hx => Nat.lt_of_lt_of_le hx.1 k02.size) _; generalize hmb : w2.heap.size = mb; generalize w2.alloc (.map #[] 0) = w3 at k3 ⊢; refine WL.build [.pointer p, no, no, .map (some mb)] rfl rfl rfl rfl rfl (by kernel_rfl) ?_; refine WL.box rfl rfl rfl rfl rfl fun sb w4 f4 => ?_; refine K.kgo ?_; exact WQ.ret2 rfl rfl rfl ⟨_, rfl, k3.trans ((Keep.of_below f4.below).mono fun x hx => Nat.lt_of_lt_of_le hx.1 k3.size)⟩
end Cl
end Go.Proofs.YtpfkcfaifleliaaGreat
