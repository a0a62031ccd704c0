/-
  For every block the law BlockChecks answers true, and the argument reads as it did. The library's table lies as the program's text lays it: that is the card's tie; no other condition.
-/
import Derived.Test.YtlamdhekjlnccaaGreatDoorZLawBlkChecks4
import Derived.Deep.Slices
import Derived.LaidMore
import Derived.Stop.Joined
import Derived.MakeChecks
import Derived.SizedLaws
import Derived.DataOpen
import Derived.ChangeMaps5
import Derived.Test.YtlamdhekjlnccaaGreatDoorTie
import Derived.Test.YtlamdhekjlnccaaGreatDoorCards
import Derived.SevenTiedAt
/- Values: the document's check (scrivenerref5.check, Check): lists and structs. -/
namespace Go.Proofs.YtlamdhekjlnccaaGreatDoor
open Go.RowKit
namespace K
open Vl (formC formB_eq okN fields_iff)


set_option maxRecDepth 100000 in
set_option maxHeartbeats 16000000 in
theorem rchk_k8 {f : Nat} {w : World} {v : V} {cs : List Value} {m : Nat} {d : Int} (ih : ∀ {w : World} {v : V} {cs : List Value} (d : Int), IsV f w v cs → d = 17 - (m : Int) → Calls Tryz.prog 99 #[.agg cs.toArray, .int .i64 d] w fun e w' => e = .returned (.int .i64 (chk m v)) ∧ Below w.heap.size w w') (hd : d + 1 = 17 - (m : Int)) (hv : IsV (f + 1) w v cs) (q : v.k = 8) (_hd1 : d ≤ 16) (_hd0 : 0 ≤ d) :
    Calls Tryz.prog 99 #[.agg cs.toArray, .int .i64 d] w fun e w' => e = .returned (.int .i64 (chk (m + 1) v)) ∧ Below w.heap.size w w' := by
  obtain ⟨sn, sk, rfl, -, hn64, -, htz, ⟨np, nc, rfl, nl, nc2, nsz, nr⟩, ⟨sp, cap, rfl, hcap1, hcap2, hrow⟩⟩ := hv
  have hn : -9223372036854775808 ≤ v.n ∧ v.n ≤ 9223372036854775807 := by simp [Lit.wf, IntKind.min, IntKind.max, IntKind.bits, IntKind.signed] at hn64; omega
  clear hn64
  refine enter (args := [.agg (six v (.slice np v.names.length nc) (.slice sp v.kids.length cap)).toArray, .int .i64 d]) Tryz.func99 rfl Tryz.ntmps99 rfl ?_
  refine kgo ?_
  refine WL.box rfl rfl rfl rfl rfl fun g w1 hf => ?_
  have hR : VBlk 41 w1 g (six v (.slice np v.names.length nc) (.slice sp v.kids.length cap)) := hf.blk
  have hbel : Below w.heap.size w w1 := hf.below
  have c0 : w1.cell? ⟨g, 0, none⟩ = some (.int .i64 v.k) := hR.cell 0 (by simp)
  have c1 : w1.cell? ⟨g, 1, none⟩ = some (.int .i64 v.n) := hR.cell 1 (by simp)
  have c2 : w1.cell? ⟨g, 2, none⟩ = some (.int .i64 v.s) := hR.cell 2 (by simp)
  have c3 : w1.cell? ⟨g, 3, none⟩ = some (.string v.t) := hR.cell 3 (by simp)
  have c4 : w1.cell? ⟨g, 4, none⟩ = some (.slice np v.names.length nc) := hR.cell 4 (by simp)
  have c5 : w1.cell? ⟨g, 5, none⟩ = some (.slice sp v.kids.length cap) := hR.cell 5 (by simp)
  clear hf
  have hfc := formB_eq v
  have hB : bareB v = (decide (v.n = 0) && decide (v.s = 0)) := rfl
  have hP : plainB v = (decide (v.names.length = 0) && decide (v.kids.length = 0)) := rfl
  have hE := text_ne v
  have bad3 : formB v = false → Ending.returned (.int .i64 3) = .returned (.int .i64 (chk (m + 1) v)) ∧ Below w.heap.size w w1 := fun h => ⟨ret_i64 (chk_bad (shp_form3 h) (by decide)).symm, hbel⟩
  repeat (first | ((with_reducible refine WL.topT ?_ ?_); omega) | ((with_reducible refine WL.topF ?_ ?_); omega) | ((with_reducible refine WL.top64 ?_ ?_); omega) | refine WC.seq ?_ | refine WC.region ?_ | refine WL.nil ?_ | refine WC.skip ?_ | refine WC.exit ?_ | refine WC.ret ?_ | refine WQ.then rfl ?_ | refine WQ.thenExit ?_ | refine WQ.thenRet ?_ | refine WQ.blk ?_ | refine WQ.blkRet ?_ | refine WQ.blkHere rfl ?_ | refine WQ.blkOther rfl ?_ | refine WL.pure rfl rfl rfl rfl ?_ | refine WL.on rfl rfl ?_ | refine WL.off rfl rfl rfl ?_ | refine WL.load rfl rfl rfl rfl rfl rfl (by assumption) ?_ | refine WC.condTrue rfl ?_ | refine WC.condFalse rfl ?_)
  refine WL.as 5 (.bool (!noTextB v)) rfl (congrArg Value.bool hE) ?_
  refine WL.mid (fun _ : Unit => [(1, .int .i64 d), (2, .pointer (some ⟨g, 0, none⟩)), (5, .bool (!noTextB v)), (6, .bool (!plainB v))]) (fun _ w' => w1 = w') rfl ?_ ?_
  · by_cases hK : v.kids.length = 0
    · have hK0 : ¬ (0 : Int) < v.kids.length := by omega
      refine WL.as 19 (.bool false) rfl (congrArg Value.bool (decide_eq_false hK0)) ?_
      by_cases hN : v.names.length = 0
      · refine kgl ?_
        exact WQ.meet () ⟨rfl, rfl, rfl, congrArg (fun b => some (Value.bool b)) (by rw [hP]; simp [hN, hK]), trivial⟩ rfl
      · refine kgl ?_
        exact WQ.meet () ⟨rfl, rfl, rfl, congrArg (fun b => some (Value.bool b)) (by rw [hP]; simp [hN]), trivial⟩ rfl
    · have hK0 : (0 : Int) < v.kids.length := by omega
      refine WL.as 19 (.bool true) rfl (congrArg Value.bool (decide_eq_true hK0)) ?_
      refine kgl ?_
      exact WQ.meet () ⟨rfl, rfl, rfl, congrArg (fun b => some (Value.bool b)) (by rw [hP]; simp [hK]), trivial⟩ rfl
  rintro _ _ rfl
  have shp5 : formB v = true → (16384 < v.t.size ∨ 200 < v.kids.length) → shp v = 5 := fun h1 h2 => by unfold shp; rw [if_neg (by rw [h1]; exact Bool.noConfusion), if_pos h2]
  have shp0 : formB v = true → v.t.size ≤ 16384 → v.kids.length ≤ 200 → (v.k = 9 → fieldsB v = true) → shp v = 0 := fun h1 h2 h3 h4 => by
    unfold shp
    rw [if_neg (by rw [h1]; exact Bool.noConfusion), if_neg (by omega), if_neg (fun h => by have := h4 h.1; rw [this] at h; exact Bool.noConfusion h.2)]
  have hEt : noTextB v = true → v.t.size = 0 := fun h => of_decide_eq_true h
  have hPk : plainB v = true → v.kids.length = 0 := fun h => by rw [hP] at h; rw [Bool.and_eq_true] at h; exact of_decide_eq_true h.2
  have chk0 : shp v = 0 → v.kids.length = 0 → chk (m + 1) v = 0 := fun h1 h2 => by
    unfold chk
    rw [if_pos h1, List.eq_nil_of_length_eq_zero h2]
    rfl
  clear hE hP

  clear nr nsz
  by_cases a1 : v.n = 0
  · skip
    by_cases a2 : v.s = 0
    · skip
      cases hE1 : noTextB v with
      | false =>
        rw [hE1] at hfc
        refine kgl ?_
        exact WQ.ret1 rfl rfl (bad3 (by rw [hfc]; simp [formC, *]))
      | true =>
        rw [hE1] at hfc
        by_cases a3 : v.names.length = 0
        · skip
          by_cases a4 : 200 < v.kids.length
          · refine kgl ?_
            exact WQ.ret1 rfl rfl ⟨ret_i64 (chk_bad (shp5 (by rw [hfc]; simp [formC, *]) (.inr a4)) (by decide)).symm, hbel⟩
          have h0 : shp v = 0 := shp0 (by rw [hfc]; simp [formC, *]) (by have := hEt hE1; omega) (by omega) (fun h => by omega)
          have hchk : chk (m + 1) v = firstBad (v.kids.map (chk m)) := by
            conv => lhs; unfold chk
            rw [if_pos h0]
          have hb1 : Below w1.heap.size w1 w1 := Below.refl _ _
          refine kgl ?_
          refine WC.loop (fun i : Nat => [(1, .int .i64 d), (2, .pointer (some ⟨g, 0, none⟩)), (8, .int .i64 i)]) (fun i w' => i ≤ v.kids.length ∧ Below w1.heap.size w1 w' ∧ ∀ j, j < i → chk m (v.kids.getD j noV) = 0) (fun i => v.kids.length - i) 0 ⟨rfl, rfl, rfl, trivial⟩ ⟨Nat.zero_le _, hb1, fun j hj => absurd hj (by omega)⟩ ?_
          clear hb1 c0 c1 c2 c3 c4 c5
          rintro i wr ⟨hi, hbr, hall⟩
          have hgw : g < w1.heap.size := hR.lt
          have c5 : wr.cell? ⟨g, 5, none⟩ = some (.slice sp v.kids.length cap) := (hR.below hbr hgw).cell 5 (by simp)
          have hbelr : Below w.heap.size w wr := hbel.trans (hbr.mono hbel.size)
          by_cases hik : i < v.kids.length
          · obtain ⟨kb, ko, rfl, hkb, hcells⟩ := hrow (by omega)
            obtain ⟨c, hc6, hci, hcr⟩ := hcells i hik
            clear hrow hcells
            have hcr' : wr.rangeAt kb (ko + i * 6) c := fun j u hu => by rw [hbelr.cell (p := ⟨kb, ko + i * 6 + j, none⟩) hkb]; exact hcr j u hu
            refine kgl ?_
            refine WL.idx i (ko + i * 6) rfl rfl rfl rfl rfl rfl rfl rfl hik rfl ?_
            refine WL.loadMid rfl rfl rfl rfl rfl rfl hcr' hc6 ?_
            refine kgo ?_
            refine WL.call rfl rfl rfl rfl rfl Tryz.func99 rfl (by kernel_rfl) (ih (d + 1) (hci.below hbelr) hd) ?_
            rintro e w4 ⟨rfl, hb4⟩
            refine ⟨_, rfl, ?_⟩
            have hb4' : Below w1.heap.size w1 w4 := hbr.trans (hb4.mono hbr.size)
            by_cases h0 : chk m (v.kids.getD i noV) = 0
            · refine kgo ?_
              refine WQ.again (i + 1) ⟨rfl, rfl, rfl, trivial⟩ ⟨hik, hb4', fun j hj => (Nat.lt_succ_iff_lt_or_eq.1 hj).elim (hall j) (fun e => by rw [e]; exact h0)⟩ (by show v.kids.length - (i + 1) < v.kids.length - i; omega)
            · have hfb : chk (m + 1) v = chk m (v.kids.getD i noV) := by
                rw [hchk, firstBad_take (i := i) (by rw [List.length_map]; exact hik) (fun j hj => by rw [chk_map m v.kids j (by omega)]; exact hall j hj) (by rw [chk_map m v.kids i hik]; exact h0), chk_map m v.kids i hik]
              refine kgo ?_
              exact WQ.ret1 rfl rfl ⟨ret_i64 hfb.symm, hbel.trans (hb4'.mono hbel.size)⟩
          · obtain rfl : i = v.kids.length := by omega
            refine kgl ?_
            refine WQ.ret1 rfl rfl ⟨ret_i64 ?_, hbelr⟩
            rw [hchk]
            exact (firstBad_all fun j hj => by rw [List.length_map] at hj; rw [chk_map m v.kids j hj]; exact hall j hj).symm
        · skip
          refine kgl ?_
          exact WQ.ret1 rfl rfl (bad3 (by rw [hfc]; simp [formC, *]))
    · skip
      refine kgl ?_
      exact WQ.ret1 rfl rfl (bad3 (by rw [hfc]; simp [formC, *]))
  · skip
    refine kgl ?_
    exact WQ.ret1 rfl rfl (bad3 (by rw [hfc]; simp [formC, *]))

set_option maxRecDepth 100000 in
set_option maxHeartbeats 16000000 in
theorem rchk_k9 {f : Nat} {w : World} {v : V} {cs : List Value} {m : Nat} {d : Int} (ih : ∀ {w : World} {v : V} {cs : List Value} (d : Int), IsV f w v cs → d = 17 - (m : Int) → Calls Tryz.prog 99 #[.agg cs.toArray, .int .i64 d] w fun e w' => e = .returned (.int .i64 (chk m v)) ∧ Below w.heap.size w w') (hd : d + 1 = 17 - (m : Int)) (hv : IsV (f + 1) w v cs) (q : v.k = 9) (_hd1 : d ≤ 16) (_hd0 : 0 ≤ d) :
    Calls Tryz.prog 99 #[.agg cs.toArray, .int .i64 d] w fun e w' => e = .returned (.int .i64 (chk (m + 1) v)) ∧ Below w.heap.size w w' := by
  obtain ⟨sn, sk, rfl, -, hn64, -, htz, ⟨np, nc, rfl, nl, nc2, nsz, nr⟩, ⟨sp, cap, rfl, hcap1, hcap2, hrow⟩⟩ := hv
  have hn : -9223372036854775808 ≤ v.n ∧ v.n ≤ 9223372036854775807 := by simp [Lit.wf, IntKind.min, IntKind.max, IntKind.bits, IntKind.signed] at hn64; omega
  clear hn64
  refine enter (args := [.agg (six v (.slice np v.names.length nc) (.slice sp v.kids.length cap)).toArray, .int .i64 d]) Tryz.func99 rfl Tryz.ntmps99 rfl ?_
  refine kgo ?_
  refine WL.box rfl rfl rfl rfl rfl fun g w1 hf => ?_
  have hR : VBlk 41 w1 g (six v (.slice np v.names.length nc) (.slice sp v.kids.length cap)) := hf.blk
  have hbel : Below w.heap.size w w1 := hf.below
  have c0 : w1.cell? ⟨g, 0, none⟩ = some (.int .i64 v.k) := hR.cell 0 (by simp)
  have c1 : w1.cell? ⟨g, 1, none⟩ = some (.int .i64 v.n) := hR.cell 1 (by simp)
  have c2 : w1.cell? ⟨g, 2, none⟩ = some (.int .i64 v.s) := hR.cell 2 (by simp)
  have c3 : w1.cell? ⟨g, 3, none⟩ = some (.string v.t) := hR.cell 3 (by simp)
  have c4 : w1.cell? ⟨g, 4, none⟩ = some (.slice np v.names.length nc) := hR.cell 4 (by simp)
  have c5 : w1.cell? ⟨g, 5, none⟩ = some (.slice sp v.kids.length cap) := hR.cell 5 (by simp)
  clear hf
  have hfc := formB_eq v
  have hB : bareB v = (decide (v.n = 0) && decide (v.s = 0)) := rfl
  have hP : plainB v = (decide (v.names.length = 0) && decide (v.kids.length = 0)) := rfl
  have hE := text_ne v
  have bad3 : formB v = false → Ending.returned (.int .i64 3) = .returned (.int .i64 (chk (m + 1) v)) ∧ Below w.heap.size w w1 := fun h => ⟨ret_i64 (chk_bad (shp_form3 h) (by decide)).symm, hbel⟩
  repeat (first | ((with_reducible refine WL.topT ?_ ?_); omega) | ((with_reducible refine WL.topF ?_ ?_); omega) | ((with_reducible refine WL.top64 ?_ ?_); omega) | refine WC.seq ?_ | refine WC.region ?_ | refine WL.nil ?_ | refine WC.skip ?_ | refine WC.exit ?_ | refine WC.ret ?_ | refine WQ.then rfl ?_ | refine WQ.thenExit ?_ | refine WQ.thenRet ?_ | refine WQ.blk ?_ | refine WQ.blkRet ?_ | refine WQ.blkHere rfl ?_ | refine WQ.blkOther rfl ?_ | refine WL.pure rfl rfl rfl rfl ?_ | refine WL.on rfl rfl ?_ | refine WL.off rfl rfl rfl ?_ | refine WL.load rfl rfl rfl rfl rfl rfl (by assumption) ?_ | refine WC.condTrue rfl ?_ | refine WC.condFalse rfl ?_)
  refine WL.as 5 (.bool (!noTextB v)) rfl (congrArg Value.bool hE) ?_
  refine WL.mid (fun _ : Unit => [(1, .int .i64 d), (2, .pointer (some ⟨g, 0, none⟩)), (5, .bool (!noTextB v)), (6, .bool (!plainB v))]) (fun _ w' => w1 = w') rfl ?_ ?_
  · by_cases hK : v.kids.length = 0
    · have hK0 : ¬ (0 : Int) < v.kids.length := by omega
      refine WL.as 19 (.bool false) rfl (congrArg Value.bool (decide_eq_false hK0)) ?_
      by_cases hN : v.names.length = 0
      · refine kgl ?_
        exact WQ.meet () ⟨rfl, rfl, rfl, congrArg (fun b => some (Value.bool b)) (by rw [hP]; simp [hN, hK]), trivial⟩ rfl
      · refine kgl ?_
        exact WQ.meet () ⟨rfl, rfl, rfl, congrArg (fun b => some (Value.bool b)) (by rw [hP]; simp [hN]), trivial⟩ rfl
    · have hK0 : (0 : Int) < v.kids.length := by omega
      refine WL.as 19 (.bool true) rfl (congrArg Value.bool (decide_eq_true hK0)) ?_
      refine kgl ?_
      exact WQ.meet () ⟨rfl, rfl, rfl, congrArg (fun b => some (Value.bool b)) (by rw [hP]; simp [hK]), trivial⟩ rfl
  rintro _ _ rfl
  have shp5 : formB v = true → (16384 < v.t.size ∨ 200 < v.kids.length) → shp v = 5 := fun h1 h2 => by unfold shp; rw [if_neg (by rw [h1]; exact Bool.noConfusion), if_pos h2]
  have shp0 : formB v = true → v.t.size ≤ 16384 → v.kids.length ≤ 200 → (v.k = 9 → fieldsB v = true) → shp v = 0 := fun h1 h2 h3 h4 => by
    unfold shp
    rw [if_neg (by rw [h1]; exact Bool.noConfusion), if_neg (by omega), if_neg (fun h => by have := h4 h.1; rw [this] at h; exact Bool.noConfusion h.2)]
  have hEt : noTextB v = true → v.t.size = 0 := fun h => of_decide_eq_true h
  have hPk : plainB v = true → v.kids.length = 0 := fun h => by rw [hP] at h; rw [Bool.and_eq_true] at h; exact of_decide_eq_true h.2
  have chk0 : shp v = 0 → v.kids.length = 0 → chk (m + 1) v = 0 := fun h1 h2 => by
    unfold chk
    rw [if_pos h1, List.eq_nil_of_length_eq_zero h2]
    rfl
  clear hE hP

  by_cases a1 : v.n = 0
  · skip
    by_cases a2 : v.s = 0
    · skip
      cases hE1 : noTextB v with
      | false =>
        rw [hE1] at hfc
        refine kgl ?_
        exact WQ.ret1 rfl rfl (bad3 (by rw [hfc]; simp [formC, *]))
      | true =>
        rw [hE1] at hfc
        have hform : formB v = true := by rw [hfc]; simp [formC, *]
        by_cases a4 : 200 < v.kids.length
        · refine kgl ?_
          exact WQ.ret1 rfl rfl ⟨ret_i64 (chk_bad (shp5 hform (.inr a4)) (by decide)).symm, hbel⟩
        have hfi := fields_iff v
        have shp3 : fieldsB v = false → shp v = 3 := fun h => by
          unfold shp
          rw [if_neg (by rw [hform]; exact Bool.noConfusion), if_neg (by have := hEt hE1; omega), if_pos ⟨q, h⟩]
        by_cases a5 : v.names.length = v.kids.length
        · refine kgl ?_
          refine WC.loop (fun i : Nat => [(1, .int .i64 d), (2, .pointer (some ⟨g, 0, none⟩)), (7, .int .i64 i)]) (fun i w' => i ≤ v.names.length ∧ Below w1.heap.size w1 w' ∧ ∀ j, j < i → okN v.names j = true) (fun i => v.names.length - i) 0 ⟨rfl, rfl, rfl, trivial⟩ ⟨Nat.zero_le _, Below.refl _ _, fun j hj => absurd hj (by omega)⟩ ?_
          rintro i wz ⟨hi, hbz, hall⟩
          have hgw : g < w1.heap.size := hR.lt
          have hRz : VBlk 41 wz g (six v (.slice np v.names.length nc) (.slice sp v.kids.length cap)) := hR.below hbz hgw
          have hbelz : Below w.heap.size w wz := hbel.trans (hbz.mono hbel.size)
          have z4 : wz.cell? ⟨g, 4, none⟩ = some (.slice np v.names.length nc) := hRz.cell 4 (by simp)
          by_cases hin : i < v.names.length
          · obtain ⟨nb, no, rfl, hnb, hnr⟩ := nr (by omega)
            have hnc := hnr i hin
            have hnp := hnr (i - 1) (by omega)
            have hnz := nsz i hin
            clear hnr nr hrow nsz
            have hok : okN v.names i = (isNameB (v.names.getD i noT) && (decide (i = 0) || Op.bytesLess (v.names.getD (i - 1) noT).toList (v.names.getD i noT).toList)) := rfl
            have hleq := Vl.leq_not (v.names.getD i noT).toList (v.names.getD (i - 1) noT).toList
            have hnm : isNameB (v.names.getD i noT) = (decide (1 ≤ (v.names.getD i noT).size) && decide ((v.names.getD i noT).size ≤ 40)) := rfl
            have badn : okN v.names i = false → Ending.returned (.int .i64 3) = .returned (.int .i64 (chk (m + 1) v)) := fun h => ret_i64 (chk_bad (shp3 (by
              cases hf : fieldsB v with
              | false => rfl
              | true => have := (hfi.1 hf).1 i hin; rw [h] at this; cases this)) (by decide)).symm
            generalize v.names.getD i noT = nm at hnc hnz hok hleq hnm
            generalize v.names.getD (i - 1) noT = pm at hnp hok hleq
            refine kgl ?_
            refine WC.drawn 33 (fun wx => Below w.heap.size w wx ∧ VBlk 41 wx g (six v (.slice (some ⟨nb, no, none⟩) v.names.length nc) (.slice sp v.kids.length cap))) fun w2 hd2 => ?_
            have hS : Below w.heap.size w w2 ∧ VBlk 41 w2 g (six v (.slice (some ⟨nb, no, none⟩) v.names.length nc) (.slice sp v.kids.length cap)) := ⟨hbelz.trans (hd2.below _), hRz.below (hd2.below _) hRz.lt⟩
            have hb2 : Below w1.heap.size w1 w2 := hbz.trans (hd2.below _)
            by_cases x1 : nm.size < 1
            · skip
              (((first | refine WD.free 0 rfl (by kernel_rfl) rfl rfl (fun _ _ _ _ _ h => h) rfl rfl (.inr hS) ?_ | refine WD.skip 0 rfl (by kernel_rfl) rfl rfl (fun _ _ _ _ _ h => h) rfl (.inr hS) ?_); try (first | ((with_reducible refine WD.topT ?_ ?_); omega) | ((with_reducible refine WD.topF ?_ ?_); omega) | ((with_reducible refine WD.top64 ?_ ?_); omega))))
              refine WD.load 1 [3, 4, 5, 6, 7, 8, 9, 10, 11, 12, 13, 14, 15, 16, 17, 18, 19, 20, 21, 22, 23, 24, 25, 26, 27, 28, 29, 30, 31, 32, 33] rfl (by kernel_rfl) rfl rfl (fun _ _ _ _ _ h => h) rfl rfl rfl rfl (fun wx hx => hx.2.cell 4 (by simp)) hS ?_
              (((first | refine WD.free 2 rfl (by kernel_rfl) rfl rfl (fun _ _ _ _ _ h => h) rfl rfl (.inr hS) ?_ | refine WD.skip 2 rfl (by kernel_rfl) rfl rfl (fun _ _ _ _ _ h => h) rfl (.inr hS) ?_); try (first | ((with_reducible refine WD.topT ?_ ?_); omega) | ((with_reducible refine WD.topF ?_ ?_); omega) | ((with_reducible refine WD.top64 ?_ ?_); omega))))
              refine WD.idx 3 i (no + i) rfl (by kernel_rfl) rfl rfl (fun _ _ _ _ _ h => h) rfl rfl rfl rfl rfl rfl (by omega) (by omega) (.inr hS) ?_
              refine WD.load 4 [5, 6, 7, 8, 9, 10, 11, 12, 13, 14, 15, 16, 17, 18, 19, 20, 21, 22, 23, 24, 25, 26, 27, 28, 29, 30, 31, 32, 33] rfl (by kernel_rfl) rfl rfl (fun _ _ _ _ _ h => h) rfl rfl rfl rfl (fun wx hx => (hx.1.cell (p := ⟨nb, no + i, none⟩) hnb).trans hnc) hS ?_
              (((first | refine WD.free 5 rfl (by kernel_rfl) rfl rfl (fun _ _ _ _ _ h => h) rfl rfl (.inr hS) ?_ | refine WD.skip 5 rfl (by kernel_rfl) rfl rfl (fun _ _ _ _ _ h => h) rfl (.inr hS) ?_); try (first | ((with_reducible refine WD.topT ?_ ?_); omega) | ((with_reducible refine WD.topF ?_ ?_); omega) | ((with_reducible refine WD.top64 ?_ ?_); omega))); ((first | refine WD.free 6 rfl (by kernel_rfl) rfl rfl (fun _ _ _ _ _ h => h) rfl rfl (.inr hS) ?_ | refine WD.skip 6 rfl (by kernel_rfl) rfl rfl (fun _ _ _ _ _ h => h) rfl (.inr hS) ?_); try (first | ((with_reducible refine WD.topT ?_ ?_); omega) | ((with_reducible refine WD.topF ?_ ?_); omega) | ((with_reducible refine WD.top64 ?_ ?_); omega))); ((first | refine WD.free 7 rfl (by kernel_rfl) rfl rfl (fun _ _ _ _ _ h => h) rfl rfl (.inr hS) ?_ | refine WD.skip 7 rfl (by kernel_rfl) rfl rfl (fun _ _ _ _ _ h => h) rfl (.inr hS) ?_); try (first | ((with_reducible refine WD.topT ?_ ?_); omega) | ((with_reducible refine WD.topF ?_ ?_); omega) | ((with_reducible refine WD.top64 ?_ ?_); omega))); ((first | refine WD.free 8 rfl (by kernel_rfl) rfl rfl (fun _ _ _ _ _ h => h) rfl rfl (.inr hS) ?_ | refine WD.skip 8 rfl (by kernel_rfl) rfl rfl (fun _ _ _ _ _ h => h) rfl (.inr hS) ?_); try (first | ((with_reducible refine WD.topT ?_ ?_); omega) | ((with_reducible refine WD.topF ?_ ?_); omega) | ((with_reducible refine WD.top64 ?_ ?_); omega))))
              (((first | refine WD.free 9 rfl (by kernel_rfl) rfl rfl (fun _ _ _ _ _ h => h) rfl rfl (.inr hS) ?_ | refine WD.skip 9 rfl (by kernel_rfl) rfl rfl (fun _ _ _ _ _ h => h) rfl (.inr hS) ?_); try (first | ((with_reducible refine WD.topT ?_ ?_); omega) | ((with_reducible refine WD.topF ?_ ?_); omega) | ((with_reducible refine WD.top64 ?_ ?_); omega))); ((first | refine WD.free 10 rfl (by kernel_rfl) rfl rfl (fun _ _ _ _ _ h => h) rfl rfl (.inr hS) ?_ | refine WD.skip 10 rfl (by kernel_rfl) rfl rfl (fun _ _ _ _ _ h => h) rfl (.inr hS) ?_); try (first | ((with_reducible refine WD.topT ?_ ?_); omega) | ((with_reducible refine WD.topF ?_ ?_); omega) | ((with_reducible refine WD.top64 ?_ ?_); omega))); ((first | refine WD.free 11 rfl (by kernel_rfl) rfl rfl (fun _ _ _ _ _ h => h) rfl rfl (.inr hS) ?_ | refine WD.skip 11 rfl (by kernel_rfl) rfl rfl (fun _ _ _ _ _ h => h) rfl (.inr hS) ?_); try (first | ((with_reducible refine WD.topT ?_ ?_); omega) | ((with_reducible refine WD.topF ?_ ?_); omega) | ((with_reducible refine WD.top64 ?_ ?_); omega))); ((first | refine WD.free 12 rfl (by kernel_rfl) rfl rfl (fun _ _ _ _ _ h => h) rfl rfl (.inr hS) ?_ | refine WD.skip 12 rfl (by kernel_rfl) rfl rfl (fun _ _ _ _ _ h => h) rfl (.inr hS) ?_); try (first | ((with_reducible refine WD.topT ?_ ?_); omega) | ((with_reducible refine WD.topF ?_ ?_); omega) | ((with_reducible refine WD.top64 ?_ ?_); omega))); ((first | refine WD.free 13 rfl (by kernel_rfl) rfl rfl (fun _ _ _ _ _ h => h) rfl rfl (.inr hS) ?_ | refine WD.skip 13 rfl (by kernel_rfl) rfl rfl (fun _ _ _ _ _ h => h) rfl (.inr hS) ?_); try (first | ((with_reducible refine WD.topT ?_ ?_); omega) | ((with_reducible refine WD.topF ?_ ?_); omega) | ((with_reducible refine WD.top64 ?_ ?_); omega))); ((first | refine WD.free 14 rfl (by kernel_rfl) rfl rfl (fun _ _ _ _ _ h => h) rfl rfl (.inr hS) ?_ | refine WD.skip 14 rfl (by kernel_rfl) rfl rfl (fun _ _ _ _ _ h => h) rfl (.inr hS) ?_); try (first | ((with_reducible refine WD.topT ?_ ?_); omega) | ((with_reducible refine WD.topF ?_ ?_); omega) | ((with_reducible refine WD.top64 ?_ ?_); omega))); ((first | refine WD.free 15 rfl (by kernel_rfl) rfl rfl (fun _ _ _ _ _ h => h) rfl rfl (.inr hS) ?_ | refine WD.skip 15 rfl (by kernel_rfl) rfl rfl (fun _ _ _ _ _ h => h) rfl (.inr hS) ?_); try (first | ((with_reducible refine WD.topT ?_ ?_); omega) | ((with_reducible refine WD.topF ?_ ?_); omega) | ((with_reducible refine WD.top64 ?_ ?_); omega))); ((first | refine WD.free 16 rfl (by kernel_rfl) rfl rfl (fun _ _ _ _ _ h => h) rfl rfl (.inr hS) ?_ | refine WD.skip 16 rfl (by kernel_rfl) rfl rfl (fun _ _ _ _ _ h => h) rfl (.inr hS) ?_); try (first | ((with_reducible refine WD.topT ?_ ?_); omega) | ((with_reducible refine WD.topF ?_ ?_); omega) | ((with_reducible refine WD.top64 ?_ ?_); omega))))
              (((first | refine WD.free 17 rfl (by kernel_rfl) rfl rfl (fun _ _ _ _ _ h => h) rfl rfl (.inr hS) ?_ | refine WD.skip 17 rfl (by kernel_rfl) rfl rfl (fun _ _ _ _ _ h => h) rfl (.inr hS) ?_); try (first | ((with_reducible refine WD.topT ?_ ?_); omega) | ((with_reducible refine WD.topF ?_ ?_); omega) | ((with_reducible refine WD.top64 ?_ ?_); omega))); ((first | refine WD.free 18 rfl (by kernel_rfl) rfl rfl (fun _ _ _ _ _ h => h) rfl rfl (.inr hS) ?_ | refine WD.skip 18 rfl (by kernel_rfl) rfl rfl (fun _ _ _ _ _ h => h) rfl (.inr hS) ?_); try (first | ((with_reducible refine WD.topT ?_ ?_); omega) | ((with_reducible refine WD.topF ?_ ?_); omega) | ((with_reducible refine WD.top64 ?_ ?_); omega))); ((first | refine WD.free 19 rfl (by kernel_rfl) rfl rfl (fun _ _ _ _ _ h => h) rfl rfl (.inr hS) ?_ | refine WD.skip 19 rfl (by kernel_rfl) rfl rfl (fun _ _ _ _ _ h => h) rfl (.inr hS) ?_); try (first | ((with_reducible refine WD.topT ?_ ?_); omega) | ((with_reducible refine WD.topF ?_ ?_); omega) | ((with_reducible refine WD.top64 ?_ ?_); omega))); ((first | refine WD.free 20 rfl (by kernel_rfl) rfl rfl (fun _ _ _ _ _ h => h) rfl rfl (.inr hS) ?_ | refine WD.skip 20 rfl (by kernel_rfl) rfl rfl (fun _ _ _ _ _ h => h) rfl (.inr hS) ?_); try (first | ((with_reducible refine WD.topT ?_ ?_); omega) | ((with_reducible refine WD.topF ?_ ?_); omega) | ((with_reducible refine WD.top64 ?_ ?_); omega))))
              (((first | refine WD.free 21 rfl (by kernel_rfl) rfl rfl (fun _ _ _ _ _ h => h) rfl rfl (.inr hS) ?_ | refine WD.skip 21 rfl (by kernel_rfl) rfl rfl (fun _ _ _ _ _ h => h) rfl (.inr hS) ?_); try (first | ((with_reducible refine WD.topT ?_ ?_); omega) | ((with_reducible refine WD.topF ?_ ?_); omega) | ((with_reducible refine WD.top64 ?_ ?_); omega))); ((first | refine WD.free 22 rfl (by kernel_rfl) rfl rfl (fun _ _ _ _ _ h => h) rfl rfl (.inr hS) ?_ | refine WD.skip 22 rfl (by kernel_rfl) rfl rfl (fun _ _ _ _ _ h => h) rfl (.inr hS) ?_); try (first | ((with_reducible refine WD.topT ?_ ?_); omega) | ((with_reducible refine WD.topF ?_ ?_); omega) | ((with_reducible refine WD.top64 ?_ ?_); omega))); ((first | refine WD.free 23 rfl (by kernel_rfl) rfl rfl (fun _ _ _ _ _ h => h) rfl rfl (.inr hS) ?_ | refine WD.skip 23 rfl (by kernel_rfl) rfl rfl (fun _ _ _ _ _ h => h) rfl (.inr hS) ?_); try (first | ((with_reducible refine WD.topT ?_ ?_); omega) | ((with_reducible refine WD.topF ?_ ?_); omega) | ((with_reducible refine WD.top64 ?_ ?_); omega))); ((first | refine WD.free 24 rfl (by kernel_rfl) rfl rfl (fun _ _ _ _ _ h => h) rfl rfl (.inr hS) ?_ | refine WD.skip 24 rfl (by kernel_rfl) rfl rfl (fun _ _ _ _ _ h => h) rfl (.inr hS) ?_); try (first | ((with_reducible refine WD.topT ?_ ?_); omega) | ((with_reducible refine WD.topF ?_ ?_); omega) | ((with_reducible refine WD.top64 ?_ ?_); omega))); ((first | refine WD.free 25 rfl (by kernel_rfl) rfl rfl (fun _ _ _ _ _ h => h) rfl rfl (.inr hS) ?_ | refine WD.skip 25 rfl (by kernel_rfl) rfl rfl (fun _ _ _ _ _ h => h) rfl (.inr hS) ?_); try (first | ((with_reducible refine WD.topT ?_ ?_); omega) | ((with_reducible refine WD.topF ?_ ?_); omega) | ((with_reducible refine WD.top64 ?_ ?_); omega))); ((first | refine WD.free 26 rfl (by kernel_rfl) rfl rfl (fun _ _ _ _ _ h => h) rfl rfl (.inr hS) ?_ | refine WD.skip 26 rfl (by kernel_rfl) rfl rfl (fun _ _ _ _ _ h => h) rfl (.inr hS) ?_); try (first | ((with_reducible refine WD.topT ?_ ?_); omega) | ((with_reducible refine WD.topF ?_ ?_); omega) | ((with_reducible refine WD.top64 ?_ ?_); omega))); ((first | refine WD.free 27 rfl (by kernel_rfl) rfl rfl (fun _ _ _ _ _ h => h) rfl rfl (.inr hS) ?_ | refine WD.skip 27 rfl (by kernel_rfl) rfl rfl (fun _ _ _ _ _ h => h) rfl (.inr hS) ?_); try (first | ((with_reducible refine WD.topT ?_ ?_); omega) | ((with_reducible refine WD.topF ?_ ?_); omega) | ((with_reducible refine WD.top64 ?_ ?_); omega))); ((first | refine WD.free 28 rfl (by kernel_rfl) rfl rfl (fun _ _ _ _ _ h => h) rfl rfl (.inr hS) ?_ | refine WD.skip 28 rfl (by kernel_rfl) rfl rfl (fun _ _ _ _ _ h => h) rfl (.inr hS) ?_); try (first | ((with_reducible refine WD.topT ?_ ?_); omega) | ((with_reducible refine WD.topF ?_ ?_); omega) | ((with_reducible refine WD.top64 ?_ ?_); omega))); ((first | refine WD.free 29 rfl (by kernel_rfl) rfl rfl (fun _ _ _ _ _ h => h) rfl rfl (.inr hS) ?_ | refine WD.skip 29 rfl (by kernel_rfl) rfl rfl (fun _ _ _ _ _ h => h) rfl (.inr hS) ?_); try (first | ((with_reducible refine WD.topT ?_ ?_); omega) | ((with_reducible refine WD.topF ?_ ?_); omega) | ((with_reducible refine WD.top64 ?_ ?_); omega))); ((first | refine WD.free 30 rfl (by kernel_rfl) rfl rfl (fun _ _ _ _ _ h => h) rfl rfl (.inr hS) ?_ | refine WD.skip 30 rfl (by kernel_rfl) rfl rfl (fun _ _ _ _ _ h => h) rfl (.inr hS) ?_); try (first | ((with_reducible refine WD.topT ?_ ?_); omega) | ((with_reducible refine WD.topF ?_ ?_); omega) | ((with_reducible refine WD.top64 ?_ ?_); omega))); ((first | refine WD.free 31 rfl (by kernel_rfl) rfl rfl (fun _ _ _ _ _ h => h) rfl rfl (.inr hS) ?_ | refine WD.skip 31 rfl (by kernel_rfl) rfl rfl (fun _ _ _ _ _ h => h) rfl (.inr hS) ?_); try (first | ((with_reducible refine WD.topT ?_ ?_); omega) | ((with_reducible refine WD.topF ?_ ?_); omega) | ((with_reducible refine WD.top64 ?_ ?_); omega))); ((first | refine WD.free 32 rfl (by kernel_rfl) rfl rfl (fun _ _ _ _ _ h => h) rfl rfl (.inr hS) ?_ | refine WD.skip 32 rfl (by kernel_rfl) rfl rfl (fun _ _ _ _ _ h => h) rfl (.inr hS) ?_); try (first | ((with_reducible refine WD.topT ?_ ?_); omega) | ((with_reducible refine WD.topF ?_ ?_); omega) | ((with_reducible refine WD.top64 ?_ ?_); omega))))
              refine WD.one 33 (by kernel_rfl) rfl ?_
              refine WL.pure rfl rfl rfl rfl ?_
              refine WL.nil (WQ.dk (.inl rfl) ?_)
              refine WD.done (by kernel_rfl) ?_
              refine kgo ?_
              exact WQ.ret1 rfl rfl ⟨badn (by rw [hok, hnm, decide_eq_false (by omega)]; rfl), hS.1⟩
            by_cases x2 : 40 < nm.size
            · skip
              (((first | refine WD.free 0 rfl (by kernel_rfl) rfl rfl (fun _ _ _ _ _ h => h) rfl rfl (.inr hS) ?_ | refine WD.skip 0 rfl (by kernel_rfl) rfl rfl (fun _ _ _ _ _ h => h) rfl (.inr hS) ?_); try (first | ((with_reducible refine WD.topT ?_ ?_); omega) | ((with_reducible refine WD.topF ?_ ?_); omega) | ((with_reducible refine WD.top64 ?_ ?_); omega))))
              refine WD.load 1 [3, 4, 5, 6, 7, 8, 9, 10, 11, 12, 13, 14, 15, 16, 17, 18, 19, 20, 21, 22, 23, 24, 25, 26, 27, 28, 29, 30, 31, 32, 33] rfl (by kernel_rfl) rfl rfl (fun _ _ _ _ _ h => h) rfl rfl rfl rfl (fun wx hx => hx.2.cell 4 (by simp)) hS ?_
              (((first | refine WD.free 2 rfl (by kernel_rfl) rfl rfl (fun _ _ _ _ _ h => h) rfl rfl (.inr hS) ?_ | refine WD.skip 2 rfl (by kernel_rfl) rfl rfl (fun _ _ _ _ _ h => h) rfl (.inr hS) ?_); try (first | ((with_reducible refine WD.topT ?_ ?_); omega) | ((with_reducible refine WD.topF ?_ ?_); omega) | ((with_reducible refine WD.top64 ?_ ?_); omega))))
              refine WD.idx 3 i (no + i) rfl (by kernel_rfl) rfl rfl (fun _ _ _ _ _ h => h) rfl rfl rfl rfl rfl rfl (by omega) (by omega) (.inr hS) ?_
              refine WD.load 4 [5, 6, 7, 8, 9, 10, 11, 12, 13, 14, 15, 16, 17, 18, 19, 20, 21, 22, 23, 24, 25, 26, 27, 28, 29, 30, 31, 32, 33] rfl (by kernel_rfl) rfl rfl (fun _ _ _ _ _ h => h) rfl rfl rfl rfl (fun wx hx => (hx.1.cell (p := ⟨nb, no + i, none⟩) hnb).trans hnc) hS ?_
              (((first | refine WD.free 5 rfl (by kernel_rfl) rfl rfl (fun _ _ _ _ _ h => h) rfl rfl (.inr hS) ?_ | refine WD.skip 5 rfl (by kernel_rfl) rfl rfl (fun _ _ _ _ _ h => h) rfl (.inr hS) ?_); try (first | ((with_reducible refine WD.topT ?_ ?_); omega) | ((with_reducible refine WD.topF ?_ ?_); omega) | ((with_reducible refine WD.top64 ?_ ?_); omega))); ((first | refine WD.free 6 rfl (by kernel_rfl) rfl rfl (fun _ _ _ _ _ h => h) rfl rfl (.inr hS) ?_ | refine WD.skip 6 rfl (by kernel_rfl) rfl rfl (fun _ _ _ _ _ h => h) rfl (.inr hS) ?_); try (first | ((with_reducible refine WD.topT ?_ ?_); omega) | ((with_reducible refine WD.topF ?_ ?_); omega) | ((with_reducible refine WD.top64 ?_ ?_); omega))); ((first | refine WD.free 7 rfl (by kernel_rfl) rfl rfl (fun _ _ _ _ _ h => h) rfl rfl (.inr hS) ?_ | refine WD.skip 7 rfl (by kernel_rfl) rfl rfl (fun _ _ _ _ _ h => h) rfl (.inr hS) ?_); try (first | ((with_reducible refine WD.topT ?_ ?_); omega) | ((with_reducible refine WD.topF ?_ ?_); omega) | ((with_reducible refine WD.top64 ?_ ?_); omega))); ((first | refine WD.free 8 rfl (by kernel_rfl) rfl rfl (fun _ _ _ _ _ h => h) rfl rfl (.inr hS) ?_ | refine WD.skip 8 rfl (by kernel_rfl) rfl rfl (fun _ _ _ _ _ h => h) rfl (.inr hS) ?_); try (first | ((with_reducible refine WD.topT ?_ ?_); omega) | ((with_reducible refine WD.topF ?_ ?_); omega) | ((with_reducible refine WD.top64 ?_ ?_); omega))))
              refine WD.load 9 [11, 12, 13, 14, 15, 16, 17, 18, 19, 20, 21, 22, 23, 24, 25, 26, 27, 28, 29, 30, 31, 32, 33] rfl (by kernel_rfl) rfl rfl (fun _ _ _ _ _ h => h) rfl rfl rfl rfl (fun wx hx => hx.2.cell 4 (by simp)) hS ?_
              (((first | refine WD.free 10 rfl (by kernel_rfl) rfl rfl (fun _ _ _ _ _ h => h) rfl rfl (.inr hS) ?_ | refine WD.skip 10 rfl (by kernel_rfl) rfl rfl (fun _ _ _ _ _ h => h) rfl (.inr hS) ?_); try (first | ((with_reducible refine WD.topT ?_ ?_); omega) | ((with_reducible refine WD.topF ?_ ?_); omega) | ((with_reducible refine WD.top64 ?_ ?_); omega))))
              refine WD.idx 11 i (no + i) rfl (by kernel_rfl) rfl rfl (fun _ _ _ _ _ h => h) rfl rfl rfl rfl rfl rfl (by omega) (by omega) (.inr hS) ?_
              refine WD.load 12 [13, 14, 15, 16, 17, 18, 19, 20, 21, 22, 23, 24, 25, 26, 27, 28, 29, 30, 31, 32, 33] rfl (by kernel_rfl) rfl rfl (fun _ _ _ _ _ h => h) rfl rfl rfl rfl (fun wx hx => (hx.1.cell (p := ⟨nb, no + i, none⟩) hnb).trans hnc) hS ?_
              (((first | refine WD.free 13 rfl (by kernel_rfl) rfl rfl (fun _ _ _ _ _ h => h) rfl rfl (.inr hS) ?_ | refine WD.skip 13 rfl (by kernel_rfl) rfl rfl (fun _ _ _ _ _ h => h) rfl (.inr hS) ?_); try (first | ((with_reducible refine WD.topT ?_ ?_); omega) | ((with_reducible refine WD.topF ?_ ?_); omega) | ((with_reducible refine WD.top64 ?_ ?_); omega))); ((first | refine WD.free 14 rfl (by kernel_rfl) rfl rfl (fun _ _ _ _ _ h => h) rfl rfl (.inr hS) ?_ | refine WD.skip 14 rfl (by kernel_rfl) rfl rfl (fun _ _ _ _ _ h => h) rfl (.inr hS) ?_); try (first | ((with_reducible refine WD.topT ?_ ?_); omega) | ((with_reducible refine WD.topF ?_ ?_); omega) | ((with_reducible refine WD.top64 ?_ ?_); omega))); ((first | refine WD.free 15 rfl (by kernel_rfl) rfl rfl (fun _ _ _ _ _ h => h) rfl rfl (.inr hS) ?_ | refine WD.skip 15 rfl (by kernel_rfl) rfl rfl (fun _ _ _ _ _ h => h) rfl (.inr hS) ?_); try (first | ((with_reducible refine WD.topT ?_ ?_); omega) | ((with_reducible refine WD.topF ?_ ?_); omega) | ((with_reducible refine WD.top64 ?_ ?_); omega))); ((first | refine WD.free 16 rfl (by kernel_rfl) rfl rfl (fun _ _ _ _ _ h => h) rfl rfl (.inr hS) ?_ | refine WD.skip 16 rfl (by kernel_rfl) rfl rfl (fun _ _ _ _ _ h => h) rfl (.inr hS) ?_); try (first | ((with_reducible refine WD.topT ?_ ?_); omega) | ((with_reducible refine WD.topF ?_ ?_); omega) | ((with_reducible refine WD.top64 ?_ ?_); omega))))
              (((first | refine WD.free 17 rfl (by kernel_rfl) rfl rfl (fun _ _ _ _ _ h => h) rfl rfl (.inr hS) ?_ | refine WD.skip 17 rfl (by kernel_rfl) rfl rfl (fun _ _ _ _ _ h => h) rfl (.inr hS) ?_); try (first | ((with_reducible refine WD.topT ?_ ?_); omega) | ((with_reducible refine WD.topF ?_ ?_); omega) | ((with_reducible refine WD.top64 ?_ ?_); omega))); ((first | refine WD.free 18 rfl (by kernel_rfl) rfl rfl (fun _ _ _ _ _ h => h) rfl rfl (.inr hS) ?_ | refine WD.skip 18 rfl (by kernel_rfl) rfl rfl (fun _ _ _ _ _ h => h) rfl (.inr hS) ?_); try (first | ((with_reducible refine WD.topT ?_ ?_); omega) | ((with_reducible refine WD.topF ?_ ?_); omega) | ((with_reducible refine WD.top64 ?_ ?_); omega))); ((first | refine WD.free 19 rfl (by kernel_rfl) rfl rfl (fun _ _ _ _ _ h => h) rfl rfl (.inr hS) ?_ | refine WD.skip 19 rfl (by kernel_rfl) rfl rfl (fun _ _ _ _ _ h => h) rfl (.inr hS) ?_); try (first | ((with_reducible refine WD.topT ?_ ?_); omega) | ((with_reducible refine WD.topF ?_ ?_); omega) | ((with_reducible refine WD.top64 ?_ ?_); omega))); ((first | refine WD.free 20 rfl (by kernel_rfl) rfl rfl (fun _ _ _ _ _ h => h) rfl rfl (.inr hS) ?_ | refine WD.skip 20 rfl (by kernel_rfl) rfl rfl (fun _ _ _ _ _ h => h) rfl (.inr hS) ?_); try (first | ((with_reducible refine WD.topT ?_ ?_); omega) | ((with_reducible refine WD.topF ?_ ?_); omega) | ((with_reducible refine WD.top64 ?_ ?_); omega))))
              (((first | refine WD.free 21 rfl (by kernel_rfl) rfl rfl (fun _ _ _ _ _ h => h) rfl rfl (.inr hS) ?_ | refine WD.skip 21 rfl (by kernel_rfl) rfl rfl (fun _ _ _ _ _ h => h) rfl (.inr hS) ?_); try (first | ((with_reducible refine WD.topT ?_ ?_); omega) | ((with_reducible refine WD.topF ?_ ?_); omega) | ((with_reducible refine WD.top64 ?_ ?_); omega))); ((first | refine WD.free 22 rfl (by kernel_rfl) rfl rfl (fun _ _ _ _ _ h => h) rfl rfl (.inr hS) ?_ | refine WD.skip 22 rfl (by kernel_rfl) rfl rfl (fun _ _ _ _ _ h => h) rfl (.inr hS) ?_); try (first | ((with_reducible refine WD.topT ?_ ?_); omega) | ((with_reducible refine WD.topF ?_ ?_); omega) | ((with_reducible refine WD.top64 ?_ ?_); omega))); ((first | refine WD.free 23 rfl (by kernel_rfl) rfl rfl (fun _ _ _ _ _ h => h) rfl rfl (.inr hS) ?_ | refine WD.skip 23 rfl (by kernel_rfl) rfl rfl (fun _ _ _ _ _ h => h) rfl (.inr hS) ?_); try (first | ((with_reducible refine WD.topT ?_ ?_); omega) | ((with_reducible refine WD.topF ?_ ?_); omega) | ((with_reducible refine WD.top64 ?_ ?_); omega))); ((first | refine WD.free 24 rfl (by kernel_rfl) rfl rfl (fun _ _ _ _ _ h => h) rfl rfl (.inr hS) ?_ | refine WD.skip 24 rfl (by kernel_rfl) rfl rfl (fun _ _ _ _ _ h => h) rfl (.inr hS) ?_); try (first | ((with_reducible refine WD.topT ?_ ?_); omega) | ((with_reducible refine WD.topF ?_ ?_); omega) | ((with_reducible refine WD.top64 ?_ ?_); omega))); ((first | refine WD.free 25 rfl (by kernel_rfl) rfl rfl (fun _ _ _ _ _ h => h) rfl rfl (.inr hS) ?_ | refine WD.skip 25 rfl (by kernel_rfl) rfl rfl (fun _ _ _ _ _ h => h) rfl (.inr hS) ?_); try (first | ((with_reducible refine WD.topT ?_ ?_); omega) | ((with_reducible refine WD.topF ?_ ?_); omega) | ((with_reducible refine WD.top64 ?_ ?_); omega))); ((first | refine WD.free 26 rfl (by kernel_rfl) rfl rfl (fun _ _ _ _ _ h => h) rfl rfl (.inr hS) ?_ | refine WD.skip 26 rfl (by kernel_rfl) rfl rfl (fun _ _ _ _ _ h => h) rfl (.inr hS) ?_); try (first | ((with_reducible refine WD.topT ?_ ?_); omega) | ((with_reducible refine WD.topF ?_ ?_); omega) | ((with_reducible refine WD.top64 ?_ ?_); omega))); ((first | refine WD.free 27 rfl (by kernel_rfl) rfl rfl (fun _ _ _ _ _ h => h) rfl rfl (.inr hS) ?_ | refine WD.skip 27 rfl (by kernel_rfl) rfl rfl (fun _ _ _ _ _ h => h) rfl (.inr hS) ?_); try (first | ((with_reducible refine WD.topT ?_ ?_); omega) | ((with_reducible refine WD.topF ?_ ?_); omega) | ((with_reducible refine WD.top64 ?_ ?_); omega))); ((first | refine WD.free 28 rfl (by kernel_rfl) rfl rfl (fun _ _ _ _ _ h => h) rfl rfl (.inr hS) ?_ | refine WD.skip 28 rfl (by kernel_rfl) rfl rfl (fun _ _ _ _ _ h => h) rfl (.inr hS) ?_); try (first | ((with_reducible refine WD.topT ?_ ?_); omega) | ((with_reducible refine WD.topF ?_ ?_); omega) | ((with_reducible refine WD.top64 ?_ ?_); omega))); ((first | refine WD.free 29 rfl (by kernel_rfl) rfl rfl (fun _ _ _ _ _ h => h) rfl rfl (.inr hS) ?_ | refine WD.skip 29 rfl (by kernel_rfl) rfl rfl (fun _ _ _ _ _ h => h) rfl (.inr hS) ?_); try (first | ((with_reducible refine WD.topT ?_ ?_); omega) | ((with_reducible refine WD.topF ?_ ?_); omega) | ((with_reducible refine WD.top64 ?_ ?_); omega))); ((first | refine WD.free 30 rfl (by kernel_rfl) rfl rfl (fun _ _ _ _ _ h => h) rfl rfl (.inr hS) ?_ | refine WD.skip 30 rfl (by kernel_rfl) rfl rfl (fun _ _ _ _ _ h => h) rfl (.inr hS) ?_); try (first | ((with_reducible refine WD.topT ?_ ?_); omega) | ((with_reducible refine WD.topF ?_ ?_); omega) | ((with_reducible refine WD.top64 ?_ ?_); omega))); ((first | refine WD.free 31 rfl (by kernel_rfl) rfl rfl (fun _ _ _ _ _ h => h) rfl rfl (.inr hS) ?_ | refine WD.skip 31 rfl (by kernel_rfl) rfl rfl (fun _ _ _ _ _ h => h) rfl (.inr hS) ?_); try (first | ((with_reducible refine WD.topT ?_ ?_); omega) | ((with_reducible refine WD.topF ?_ ?_); omega) | ((with_reducible refine WD.top64 ?_ ?_); omega))); ((first | refine WD.free 32 rfl (by kernel_rfl) rfl rfl (fun _ _ _ _ _ h => h) rfl rfl (.inr hS) ?_ | refine WD.skip 32 rfl (by kernel_rfl) rfl rfl (fun _ _ _ _ _ h => h) rfl (.inr hS) ?_); try (first | ((with_reducible refine WD.topT ?_ ?_); omega) | ((with_reducible refine WD.topF ?_ ?_); omega) | ((with_reducible refine WD.top64 ?_ ?_); omega))))
              refine WD.one 33 (by kernel_rfl) rfl ?_
              refine WL.pure rfl rfl rfl rfl ?_
              refine WL.nil (WQ.dk (.inl rfl) ?_)
              refine WD.done (by kernel_rfl) ?_
              refine kgo ?_
              exact WQ.ret1 rfl rfl ⟨badn (by rw [hok, hnm, decide_eq_false (show ¬ nm.size ≤ 40 by omega), Bool.and_false]; rfl), hS.1⟩
            have hnm1 : isNameB nm = true := by rw [hnm, decide_eq_true (by omega), decide_eq_true (by omega)]; rfl
            by_cases x3 : i = 0
            · skip
              (((first | refine WD.free 0 rfl (by kernel_rfl) rfl rfl (fun _ _ _ _ _ h => h) rfl rfl (.inr hS) ?_ | refine WD.skip 0 rfl (by kernel_rfl) rfl rfl (fun _ _ _ _ _ h => h) rfl (.inr hS) ?_); try (first | ((with_reducible refine WD.topT ?_ ?_); omega) | ((with_reducible refine WD.topF ?_ ?_); omega) | ((with_reducible refine WD.top64 ?_ ?_); omega))))
              refine WD.load 1 [3, 4, 5, 6, 7, 8, 9, 10, 11, 12, 13, 14, 15, 16, 17, 18, 19, 20, 21, 22, 23, 24, 25, 26, 27, 28, 29, 30, 31, 32, 33] rfl (by kernel_rfl) rfl rfl (fun _ _ _ _ _ h => h) rfl rfl rfl rfl (fun wx hx => hx.2.cell 4 (by simp)) hS ?_
              (((first | refine WD.free 2 rfl (by kernel_rfl) rfl rfl (fun _ _ _ _ _ h => h) rfl rfl (.inr hS) ?_ | refine WD.skip 2 rfl (by kernel_rfl) rfl rfl (fun _ _ _ _ _ h => h) rfl (.inr hS) ?_); try (first | ((with_reducible refine WD.topT ?_ ?_); omega) | ((with_reducible refine WD.topF ?_ ?_); omega) | ((with_reducible refine WD.top64 ?_ ?_); omega))))
              refine WD.idx 3 i (no + i) rfl (by kernel_rfl) rfl rfl (fun _ _ _ _ _ h => h) rfl rfl rfl rfl rfl rfl (by omega) (by omega) (.inr hS) ?_
              refine WD.load 4 [5, 6, 7, 8, 9, 10, 11, 12, 13, 14, 15, 16, 17, 18, 19, 20, 21, 22, 23, 24, 25, 26, 27, 28, 29, 30, 31, 32, 33] rfl (by kernel_rfl) rfl rfl (fun _ _ _ _ _ h => h) rfl rfl rfl rfl (fun wx hx => (hx.1.cell (p := ⟨nb, no + i, none⟩) hnb).trans hnc) hS ?_
              (((first | refine WD.free 5 rfl (by kernel_rfl) rfl rfl (fun _ _ _ _ _ h => h) rfl rfl (.inr hS) ?_ | refine WD.skip 5 rfl (by kernel_rfl) rfl rfl (fun _ _ _ _ _ h => h) rfl (.inr hS) ?_); try (first | ((with_reducible refine WD.topT ?_ ?_); omega) | ((with_reducible refine WD.topF ?_ ?_); omega) | ((with_reducible refine WD.top64 ?_ ?_); omega))); ((first | refine WD.free 6 rfl (by kernel_rfl) rfl rfl (fun _ _ _ _ _ h => h) rfl rfl (.inr hS) ?_ | refine WD.skip 6 rfl (by kernel_rfl) rfl rfl (fun _ _ _ _ _ h => h) rfl (.inr hS) ?_); try (first | ((with_reducible refine WD.topT ?_ ?_); omega) | ((with_reducible refine WD.topF ?_ ?_); omega) | ((with_reducible refine WD.top64 ?_ ?_); omega))); ((first | refine WD.free 7 rfl (by kernel_rfl) rfl rfl (fun _ _ _ _ _ h => h) rfl rfl (.inr hS) ?_ | refine WD.skip 7 rfl (by kernel_rfl) rfl rfl (fun _ _ _ _ _ h => h) rfl (.inr hS) ?_); try (first | ((with_reducible refine WD.topT ?_ ?_); omega) | ((with_reducible refine WD.topF ?_ ?_); omega) | ((with_reducible refine WD.top64 ?_ ?_); omega))); ((first | refine WD.free 8 rfl (by kernel_rfl) rfl rfl (fun _ _ _ _ _ h => h) rfl rfl (.inr hS) ?_ | refine WD.skip 8 rfl (by kernel_rfl) rfl rfl (fun _ _ _ _ _ h => h) rfl (.inr hS) ?_); try (first | ((with_reducible refine WD.topT ?_ ?_); omega) | ((with_reducible refine WD.topF ?_ ?_); omega) | ((with_reducible refine WD.top64 ?_ ?_); omega))))
              refine WD.load 9 [11, 12, 13, 14, 15, 16, 17, 18, 19, 20, 21, 22, 23, 24, 25, 26, 27, 28, 29, 30, 31, 32, 33] rfl (by kernel_rfl) rfl rfl (fun _ _ _ _ _ h => h) rfl rfl rfl rfl (fun wx hx => hx.2.cell 4 (by simp)) hS ?_
              (((first | refine WD.free 10 rfl (by kernel_rfl) rfl rfl (fun _ _ _ _ _ h => h) rfl rfl (.inr hS) ?_ | refine WD.skip 10 rfl (by kernel_rfl) rfl rfl (fun _ _ _ _ _ h => h) rfl (.inr hS) ?_); try (first | ((with_reducible refine WD.topT ?_ ?_); omega) | ((with_reducible refine WD.topF ?_ ?_); omega) | ((with_reducible refine WD.top64 ?_ ?_); omega))))
              refine WD.idx 11 i (no + i) rfl (by kernel_rfl) rfl rfl (fun _ _ _ _ _ h => h) rfl rfl rfl rfl rfl rfl (by omega) (by omega) (.inr hS) ?_
              refine WD.load 12 [13, 14, 15, 16, 17, 18, 19, 20, 21, 22, 23, 24, 25, 26, 27, 28, 29, 30, 31, 32, 33] rfl (by kernel_rfl) rfl rfl (fun _ _ _ _ _ h => h) rfl rfl rfl rfl (fun wx hx => (hx.1.cell (p := ⟨nb, no + i, none⟩) hnb).trans hnc) hS ?_
              (((first | refine WD.free 13 rfl (by kernel_rfl) rfl rfl (fun _ _ _ _ _ h => h) rfl rfl (.inr hS) ?_ | refine WD.skip 13 rfl (by kernel_rfl) rfl rfl (fun _ _ _ _ _ h => h) rfl (.inr hS) ?_); try (first | ((with_reducible refine WD.topT ?_ ?_); omega) | ((with_reducible refine WD.topF ?_ ?_); omega) | ((with_reducible refine WD.top64 ?_ ?_); omega))); ((first | refine WD.free 14 rfl (by kernel_rfl) rfl rfl (fun _ _ _ _ _ h => h) rfl rfl (.inr hS) ?_ | refine WD.skip 14 rfl (by kernel_rfl) rfl rfl (fun _ _ _ _ _ h => h) rfl (.inr hS) ?_); try (first | ((with_reducible refine WD.topT ?_ ?_); omega) | ((with_reducible refine WD.topF ?_ ?_); omega) | ((with_reducible refine WD.top64 ?_ ?_); omega))); ((first | refine WD.free 15 rfl (by kernel_rfl) rfl rfl (fun _ _ _ _ _ h => h) rfl rfl (.inr hS) ?_ | refine WD.skip 15 rfl (by kernel_rfl) rfl rfl (fun _ _ _ _ _ h => h) rfl (.inr hS) ?_); try (first | ((with_reducible refine WD.topT ?_ ?_); omega) | ((with_reducible refine WD.topF ?_ ?_); omega) | ((with_reducible refine WD.top64 ?_ ?_); omega))); ((first | refine WD.free 16 rfl (by kernel_rfl) rfl rfl (fun _ _ _ _ _ h => h) rfl rfl (.inr hS) ?_ | refine WD.skip 16 rfl (by kernel_rfl) rfl rfl (fun _ _ _ _ _ h => h) rfl (.inr hS) ?_); try (first | ((with_reducible refine WD.topT ?_ ?_); omega) | ((with_reducible refine WD.topF ?_ ?_); omega) | ((with_reducible refine WD.top64 ?_ ?_); omega))))
              (((first | refine WD.free 17 rfl (by kernel_rfl) rfl rfl (fun _ _ _ _ _ h => h) rfl rfl (.inr hS) ?_ | refine WD.skip 17 rfl (by kernel_rfl) rfl rfl (fun _ _ _ _ _ h => h) rfl (.inr hS) ?_); try (first | ((with_reducible refine WD.topT ?_ ?_); omega) | ((with_reducible refine WD.topF ?_ ?_); omega) | ((with_reducible refine WD.top64 ?_ ?_); omega))); ((first | refine WD.free 18 rfl (by kernel_rfl) rfl rfl (fun _ _ _ _ _ h => h) rfl rfl (.inr hS) ?_ | refine WD.skip 18 rfl (by kernel_rfl) rfl rfl (fun _ _ _ _ _ h => h) rfl (.inr hS) ?_); try (first | ((with_reducible refine WD.topT ?_ ?_); omega) | ((with_reducible refine WD.topF ?_ ?_); omega) | ((with_reducible refine WD.top64 ?_ ?_); omega))); ((first | refine WD.free 19 rfl (by kernel_rfl) rfl rfl (fun _ _ _ _ _ h => h) rfl rfl (.inr hS) ?_ | refine WD.skip 19 rfl (by kernel_rfl) rfl rfl (fun _ _ _ _ _ h => h) rfl (.inr hS) ?_); try (first | ((with_reducible refine WD.topT ?_ ?_); omega) | ((with_reducible refine WD.topF ?_ ?_); omega) | ((with_reducible refine WD.top64 ?_ ?_); omega))); ((first | refine WD.free 20 rfl (by kernel_rfl) rfl rfl (fun _ _ _ _ _ h => h) rfl rfl (.inr hS) ?_ | refine WD.skip 20 rfl (by kernel_rfl) rfl rfl (fun _ _ _ _ _ h => h) rfl (.inr hS) ?_); try (first | ((with_reducible refine WD.topT ?_ ?_); omega) | ((with_reducible refine WD.topF ?_ ?_); omega) | ((with_reducible refine WD.top64 ?_ ?_); omega))))
              (((first | refine WD.free 21 rfl (by kernel_rfl) rfl rfl (fun _ _ _ _ _ h => h) rfl rfl (.inr hS) ?_ | refine WD.skip 21 rfl (by kernel_rfl) rfl rfl (fun _ _ _ _ _ h => h) rfl (.inr hS) ?_); try (first | ((with_reducible refine WD.topT ?_ ?_); omega) | ((with_reducible refine WD.topF ?_ ?_); omega) | ((with_reducible refine WD.top64 ?_ ?_); omega))); ((first | refine WD.free 22 rfl (by kernel_rfl) rfl rfl (fun _ _ _ _ _ h => h) rfl rfl (.inr hS) ?_ | refine WD.skip 22 rfl (by kernel_rfl) rfl rfl (fun _ _ _ _ _ h => h) rfl (.inr hS) ?_); try (first | ((with_reducible refine WD.topT ?_ ?_); omega) | ((with_reducible refine WD.topF ?_ ?_); omega) | ((with_reducible refine WD.top64 ?_ ?_); omega))); ((first | refine WD.free 23 rfl (by kernel_rfl) rfl rfl (fun _ _ _ _ _ h => h) rfl rfl (.inr hS) ?_ | refine WD.skip 23 rfl (by kernel_rfl) rfl rfl (fun _ _ _ _ _ h => h) rfl (.inr hS) ?_); try (first | ((with_reducible refine WD.topT ?_ ?_); omega) | ((with_reducible refine WD.topF ?_ ?_); omega) | ((with_reducible refine WD.top64 ?_ ?_); omega))); ((first | refine WD.free 24 rfl (by kernel_rfl) rfl rfl (fun _ _ _ _ _ h => h) rfl rfl (.inr hS) ?_ | refine WD.skip 24 rfl (by kernel_rfl) rfl rfl (fun _ _ _ _ _ h => h) rfl (.inr hS) ?_); try (first | ((with_reducible refine WD.topT ?_ ?_); omega) | ((with_reducible refine WD.topF ?_ ?_); omega) | ((with_reducible refine WD.top64 ?_ ?_); omega))); ((first | refine WD.free 25 rfl (by kernel_rfl) rfl rfl (fun _ _ _ _ _ h => h) rfl rfl (.inr hS) ?_ | refine WD.skip 25 rfl (by kernel_rfl) rfl rfl (fun _ _ _ _ _ h => h) rfl (.inr hS) ?_); try (first | ((with_reducible refine WD.topT ?_ ?_); omega) | ((with_reducible refine WD.topF ?_ ?_); omega) | ((with_reducible refine WD.top64 ?_ ?_); omega))); ((first | refine WD.free 26 rfl (by kernel_rfl) rfl rfl (fun _ _ _ _ _ h => h) rfl rfl (.inr hS) ?_ | refine WD.skip 26 rfl (by kernel_rfl) rfl rfl (fun _ _ _ _ _ h => h) rfl (.inr hS) ?_); try (first | ((with_reducible refine WD.topT ?_ ?_); omega) | ((with_reducible refine WD.topF ?_ ?_); omega) | ((with_reducible refine WD.top64 ?_ ?_); omega))); ((first | refine WD.free 27 rfl (by kernel_rfl) rfl rfl (fun _ _ _ _ _ h => h) rfl rfl (.inr hS) ?_ | refine WD.skip 27 rfl (by kernel_rfl) rfl rfl (fun _ _ _ _ _ h => h) rfl (.inr hS) ?_); try (first | ((with_reducible refine WD.topT ?_ ?_); omega) | ((with_reducible refine WD.topF ?_ ?_); omega) | ((with_reducible refine WD.top64 ?_ ?_); omega))); ((first | refine WD.free 28 rfl (by kernel_rfl) rfl rfl (fun _ _ _ _ _ h => h) rfl rfl (.inr hS) ?_ | refine WD.skip 28 rfl (by kernel_rfl) rfl rfl (fun _ _ _ _ _ h => h) rfl (.inr hS) ?_); try (first | ((with_reducible refine WD.topT ?_ ?_); omega) | ((with_reducible refine WD.topF ?_ ?_); omega) | ((with_reducible refine WD.top64 ?_ ?_); omega))); ((first | refine WD.free 29 rfl (by kernel_rfl) rfl rfl (fun _ _ _ _ _ h => h) rfl rfl (.inr hS) ?_ | refine WD.skip 29 rfl (by kernel_rfl) rfl rfl (fun _ _ _ _ _ h => h) rfl (.inr hS) ?_); try (first | ((with_reducible refine WD.topT ?_ ?_); omega) | ((with_reducible refine WD.topF ?_ ?_); omega) | ((with_reducible refine WD.top64 ?_ ?_); omega))); ((first | refine WD.free 30 rfl (by kernel_rfl) rfl rfl (fun _ _ _ _ _ h => h) rfl rfl (.inr hS) ?_ | refine WD.skip 30 rfl (by kernel_rfl) rfl rfl (fun _ _ _ _ _ h => h) rfl (.inr hS) ?_); try (first | ((with_reducible refine WD.topT ?_ ?_); omega) | ((with_reducible refine WD.topF ?_ ?_); omega) | ((with_reducible refine WD.top64 ?_ ?_); omega))); ((first | refine WD.free 31 rfl (by kernel_rfl) rfl rfl (fun _ _ _ _ _ h => h) rfl rfl (.inr hS) ?_ | refine WD.skip 31 rfl (by kernel_rfl) rfl rfl (fun _ _ _ _ _ h => h) rfl (.inr hS) ?_); try (first | ((with_reducible refine WD.topT ?_ ?_); omega) | ((with_reducible refine WD.topF ?_ ?_); omega) | ((with_reducible refine WD.top64 ?_ ?_); omega))); ((first | refine WD.free 32 rfl (by kernel_rfl) rfl rfl (fun _ _ _ _ _ h => h) rfl rfl (.inr hS) ?_ | refine WD.skip 32 rfl (by kernel_rfl) rfl rfl (fun _ _ _ _ _ h => h) rfl (.inr hS) ?_); try (first | ((with_reducible refine WD.topT ?_ ?_); omega) | ((with_reducible refine WD.topF ?_ ?_); omega) | ((with_reducible refine WD.top64 ?_ ?_); omega))))
              refine WD.one 33 (by kernel_rfl) rfl ?_
              refine WL.pure rfl rfl rfl rfl ?_
              refine WL.nil (WQ.dk (.inl rfl) ?_)
              refine WD.done (by kernel_rfl) ?_
              refine kgo ?_
              refine WQ.again (i + 1) ⟨rfl, rfl, rfl, trivial⟩ ⟨hin, hb2, fun j hj => (Nat.lt_succ_iff_lt_or_eq.1 hj).elim (hall j) (fun e => by rw [e]; rw [hok, hnm1, x3]; rfl)⟩ (by show v.names.length - (i + 1) < v.names.length - i; omega)
            have hw : IntKind.i64.wrap ((i : Int) - 1) = ((i - 1 : Nat) : Int) := by rw [IntWalk.i64_in _ (by omega)]; omega
            cases hlt : Op.bytesLess pm.toList nm.toList with
            | true =>
              rw [hlt] at hleq hok
              (((first | refine WD.free 0 rfl (by kernel_rfl) rfl rfl (fun _ _ _ _ _ h => h) rfl rfl (.inr hS) ?_ | refine WD.skip 0 rfl (by kernel_rfl) rfl rfl (fun _ _ _ _ _ h => h) rfl (.inr hS) ?_); try (first | ((with_reducible refine WD.topT ?_ ?_); omega) | ((with_reducible refine WD.topF ?_ ?_); omega) | ((with_reducible refine WD.top64 ?_ ?_); omega))))
              refine WD.load 1 [3, 4, 5, 6, 7, 8, 9, 10, 11, 12, 13, 14, 15, 16, 17, 18, 19, 20, 21, 22, 23, 24, 25, 26, 27, 28, 29, 30, 31, 32, 33] rfl (by kernel_rfl) rfl rfl (fun _ _ _ _ _ h => h) rfl rfl rfl rfl (fun wx hx => hx.2.cell 4 (by simp)) hS ?_
              (((first | refine WD.free 2 rfl (by kernel_rfl) rfl rfl (fun _ _ _ _ _ h => h) rfl rfl (.inr hS) ?_ | refine WD.skip 2 rfl (by kernel_rfl) rfl rfl (fun _ _ _ _ _ h => h) rfl (.inr hS) ?_); try (first | ((with_reducible refine WD.topT ?_ ?_); omega) | ((with_reducible refine WD.topF ?_ ?_); omega) | ((with_reducible refine WD.top64 ?_ ?_); omega))))
              refine WD.idx 3 i (no + i) rfl (by kernel_rfl) rfl rfl (fun _ _ _ _ _ h => h) rfl rfl rfl rfl rfl rfl (by omega) (by omega) (.inr hS) ?_
              refine WD.load 4 [5, 6, 7, 8, 9, 10, 11, 12, 13, 14, 15, 16, 17, 18, 19, 20, 21, 22, 23, 24, 25, 26, 27, 28, 29, 30, 31, 32, 33] rfl (by kernel_rfl) rfl rfl (fun _ _ _ _ _ h => h) rfl rfl rfl rfl (fun wx hx => (hx.1.cell (p := ⟨nb, no + i, none⟩) hnb).trans hnc) hS ?_
              (((first | refine WD.free 5 rfl (by kernel_rfl) rfl rfl (fun _ _ _ _ _ h => h) rfl rfl (.inr hS) ?_ | refine WD.skip 5 rfl (by kernel_rfl) rfl rfl (fun _ _ _ _ _ h => h) rfl (.inr hS) ?_); try (first | ((with_reducible refine WD.topT ?_ ?_); omega) | ((with_reducible refine WD.topF ?_ ?_); omega) | ((with_reducible refine WD.top64 ?_ ?_); omega))); ((first | refine WD.free 6 rfl (by kernel_rfl) rfl rfl (fun _ _ _ _ _ h => h) rfl rfl (.inr hS) ?_ | refine WD.skip 6 rfl (by kernel_rfl) rfl rfl (fun _ _ _ _ _ h => h) rfl (.inr hS) ?_); try (first | ((with_reducible refine WD.topT ?_ ?_); omega) | ((with_reducible refine WD.topF ?_ ?_); omega) | ((with_reducible refine WD.top64 ?_ ?_); omega))); ((first | refine WD.free 7 rfl (by kernel_rfl) rfl rfl (fun _ _ _ _ _ h => h) rfl rfl (.inr hS) ?_ | refine WD.skip 7 rfl (by kernel_rfl) rfl rfl (fun _ _ _ _ _ h => h) rfl (.inr hS) ?_); try (first | ((with_reducible refine WD.topT ?_ ?_); omega) | ((with_reducible refine WD.topF ?_ ?_); omega) | ((with_reducible refine WD.top64 ?_ ?_); omega))); ((first | refine WD.free 8 rfl (by kernel_rfl) rfl rfl (fun _ _ _ _ _ h => h) rfl rfl (.inr hS) ?_ | refine WD.skip 8 rfl (by kernel_rfl) rfl rfl (fun _ _ _ _ _ h => h) rfl (.inr hS) ?_); try (first | ((with_reducible refine WD.topT ?_ ?_); omega) | ((with_reducible refine WD.topF ?_ ?_); omega) | ((with_reducible refine WD.top64 ?_ ?_); omega))))
              refine WD.load 9 [11, 12, 13, 14, 15, 16, 17, 18, 19, 20, 21, 22, 23, 24, 25, 26, 27, 28, 29, 30, 31, 32, 33] rfl (by kernel_rfl) rfl rfl (fun _ _ _ _ _ h => h) rfl rfl rfl rfl (fun wx hx => hx.2.cell 4 (by simp)) hS ?_
              (((first | refine WD.free 10 rfl (by kernel_rfl) rfl rfl (fun _ _ _ _ _ h => h) rfl rfl (.inr hS) ?_ | refine WD.skip 10 rfl (by kernel_rfl) rfl rfl (fun _ _ _ _ _ h => h) rfl (.inr hS) ?_); try (first | ((with_reducible refine WD.topT ?_ ?_); omega) | ((with_reducible refine WD.topF ?_ ?_); omega) | ((with_reducible refine WD.top64 ?_ ?_); omega))))
              refine WD.idx 11 i (no + i) rfl (by kernel_rfl) rfl rfl (fun _ _ _ _ _ h => h) rfl rfl rfl rfl rfl rfl (by omega) (by omega) (.inr hS) ?_
              refine WD.load 12 [13, 14, 15, 16, 17, 18, 19, 20, 21, 22, 23, 24, 25, 26, 27, 28, 29, 30, 31, 32, 33] rfl (by kernel_rfl) rfl rfl (fun _ _ _ _ _ h => h) rfl rfl rfl rfl (fun wx hx => (hx.1.cell (p := ⟨nb, no + i, none⟩) hnb).trans hnc) hS ?_
              (((first | refine WD.free 13 rfl (by kernel_rfl) rfl rfl (fun _ _ _ _ _ h => h) rfl rfl (.inr hS) ?_ | refine WD.skip 13 rfl (by kernel_rfl) rfl rfl (fun _ _ _ _ _ h => h) rfl (.inr hS) ?_); try (first | ((with_reducible refine WD.topT ?_ ?_); omega) | ((with_reducible refine WD.topF ?_ ?_); omega) | ((with_reducible refine WD.top64 ?_ ?_); omega))); ((first | refine WD.free 14 rfl (by kernel_rfl) rfl rfl (fun _ _ _ _ _ h => h) rfl rfl (.inr hS) ?_ | refine WD.skip 14 rfl (by kernel_rfl) rfl rfl (fun _ _ _ _ _ h => h) rfl (.inr hS) ?_); try (first | ((with_reducible refine WD.topT ?_ ?_); omega) | ((with_reducible refine WD.topF ?_ ?_); omega) | ((with_reducible refine WD.top64 ?_ ?_); omega))); ((first | refine WD.free 15 rfl (by kernel_rfl) rfl rfl (fun _ _ _ _ _ h => h) rfl rfl (.inr hS) ?_ | refine WD.skip 15 rfl (by kernel_rfl) rfl rfl (fun _ _ _ _ _ h => h) rfl (.inr hS) ?_); try (first | ((with_reducible refine WD.topT ?_ ?_); omega) | ((with_reducible refine WD.topF ?_ ?_); omega) | ((with_reducible refine WD.top64 ?_ ?_); omega))); ((first | refine WD.free 16 rfl (by kernel_rfl) rfl rfl (fun _ _ _ _ _ h => h) rfl rfl (.inr hS) ?_ | refine WD.skip 16 rfl (by kernel_rfl) rfl rfl (fun _ _ _ _ _ h => h) rfl (.inr hS) ?_); try (first | ((with_reducible refine WD.topT ?_ ?_); omega) | ((with_reducible refine WD.topF ?_ ?_); omega) | ((with_reducible refine WD.top64 ?_ ?_); omega))))
              (((first | refine WD.free 17 rfl (by kernel_rfl) rfl rfl (fun _ _ _ _ _ h => h) rfl rfl (.inr hS) ?_ | refine WD.skip 17 rfl (by kernel_rfl) rfl rfl (fun _ _ _ _ _ h => h) rfl (.inr hS) ?_); try (first | ((with_reducible refine WD.topT ?_ ?_); omega) | ((with_reducible refine WD.topF ?_ ?_); omega) | ((with_reducible refine WD.top64 ?_ ?_); omega))); ((first | refine WD.free 18 rfl (by kernel_rfl) rfl rfl (fun _ _ _ _ _ h => h) rfl rfl (.inr hS) ?_ | refine WD.skip 18 rfl (by kernel_rfl) rfl rfl (fun _ _ _ _ _ h => h) rfl (.inr hS) ?_); try (first | ((with_reducible refine WD.topT ?_ ?_); omega) | ((with_reducible refine WD.topF ?_ ?_); omega) | ((with_reducible refine WD.top64 ?_ ?_); omega))); ((first | refine WD.free 19 rfl (by kernel_rfl) rfl rfl (fun _ _ _ _ _ h => h) rfl rfl (.inr hS) ?_ | refine WD.skip 19 rfl (by kernel_rfl) rfl rfl (fun _ _ _ _ _ h => h) rfl (.inr hS) ?_); try (first | ((with_reducible refine WD.topT ?_ ?_); omega) | ((with_reducible refine WD.topF ?_ ?_); omega) | ((with_reducible refine WD.top64 ?_ ?_); omega))); ((first | refine WD.free 20 rfl (by kernel_rfl) rfl rfl (fun _ _ _ _ _ h => h) rfl rfl (.inr hS) ?_ | refine WD.skip 20 rfl (by kernel_rfl) rfl rfl (fun _ _ _ _ _ h => h) rfl (.inr hS) ?_); try (first | ((with_reducible refine WD.topT ?_ ?_); omega) | ((with_reducible refine WD.topF ?_ ?_); omega) | ((with_reducible refine WD.top64 ?_ ?_); omega))))
              refine WD.load 21 [23, 24, 31, 32, 33] rfl (by kernel_rfl) rfl rfl (fun _ _ _ _ _ h => h) rfl rfl rfl rfl (fun wx hx => hx.2.cell 4 (by simp)) hS ?_
              (((first | refine WD.free 22 rfl (by kernel_rfl) rfl rfl (fun _ _ _ _ _ h => h) rfl rfl (.inr hS) ?_ | refine WD.skip 22 rfl (by kernel_rfl) rfl rfl (fun _ _ _ _ _ h => h) rfl (.inr hS) ?_); try (first | ((with_reducible refine WD.topT ?_ ?_); omega) | ((with_reducible refine WD.topF ?_ ?_); omega) | ((with_reducible refine WD.top64 ?_ ?_); omega))))
              refine WD.idx 23 i (no + i) rfl (by kernel_rfl) rfl rfl (fun _ _ _ _ _ h => h) rfl rfl rfl rfl rfl rfl (by omega) (by omega) (.inr hS) ?_
              refine WD.load 24 [31, 32, 33] rfl (by kernel_rfl) rfl rfl (fun _ _ _ _ _ h => h) rfl rfl rfl rfl (fun wx hx => (hx.1.cell (p := ⟨nb, no + i, none⟩) hnb).trans hnc) hS ?_
              (((first | refine WD.free 25 rfl (by kernel_rfl) rfl rfl (fun _ _ _ _ _ h => h) rfl rfl (.inr hS) ?_ | refine WD.skip 25 rfl (by kernel_rfl) rfl rfl (fun _ _ _ _ _ h => h) rfl (.inr hS) ?_); try (first | ((with_reducible refine WD.topT ?_ ?_); omega) | ((with_reducible refine WD.topF ?_ ?_); omega) | ((with_reducible refine WD.top64 ?_ ?_); omega))))
              refine WD.load 26 [29, 30, 31, 32, 33] rfl (by kernel_rfl) rfl rfl (fun _ _ _ _ _ h => h) rfl rfl rfl rfl (fun wx hx => hx.2.cell 4 (by simp)) hS ?_
              (((first | refine WD.free 27 rfl (by kernel_rfl) rfl rfl (fun _ _ _ _ _ h => h) rfl rfl (.inr hS) ?_ | refine WD.skip 27 rfl (by kernel_rfl) rfl rfl (fun _ _ _ _ _ h => h) rfl (.inr hS) ?_); try (first | ((with_reducible refine WD.topT ?_ ?_); omega) | ((with_reducible refine WD.topF ?_ ?_); omega) | ((with_reducible refine WD.top64 ?_ ?_); omega))); ((first | refine WD.free 28 rfl (by kernel_rfl) rfl rfl (fun _ _ _ _ _ h => h) rfl rfl (.inr hS) ?_ | refine WD.skip 28 rfl (by kernel_rfl) rfl rfl (fun _ _ _ _ _ h => h) rfl (.inr hS) ?_); try (first | ((with_reducible refine WD.topT ?_ ?_); omega) | ((with_reducible refine WD.topF ?_ ?_); omega) | ((with_reducible refine WD.top64 ?_ ?_); omega))))
              refine WD.idx 29 (i - 1) (no + (i - 1)) rfl (by kernel_rfl) rfl rfl (fun _ _ _ _ _ h => h) rfl rfl rfl rfl rfl (by omega) (by omega) (by omega) (.inr hS) ?_
              refine WD.load 30 [31, 32, 33] rfl (by kernel_rfl) rfl rfl (fun _ _ _ _ _ h => h) rfl rfl rfl rfl (fun wx hx => (hx.1.cell (p := ⟨nb, no + (i - 1), none⟩) hnb).trans hnp) hS ?_
              (((first | refine WD.free 31 rfl (by kernel_rfl) rfl rfl (fun _ _ _ _ _ h => h) rfl rfl (.inr hS) ?_ | refine WD.skip 31 rfl (by kernel_rfl) rfl rfl (fun _ _ _ _ _ h => h) rfl (.inr hS) ?_); try (first | ((with_reducible refine WD.topT ?_ ?_); omega) | ((with_reducible refine WD.topF ?_ ?_); omega) | ((with_reducible refine WD.top64 ?_ ?_); omega))); ((first | refine WD.free 32 rfl (by kernel_rfl) rfl rfl (fun _ _ _ _ _ h => h) rfl rfl (.inr hS) ?_ | refine WD.skip 32 rfl (by kernel_rfl) rfl rfl (fun _ _ _ _ _ h => h) rfl (.inr hS) ?_); try (first | ((with_reducible refine WD.topT ?_ ?_); omega) | ((with_reducible refine WD.topF ?_ ?_); omega) | ((with_reducible refine WD.top64 ?_ ?_); omega))))
              refine WD.one 33 (by kernel_rfl) rfl ?_
              refine WL.pure rfl rfl rfl rfl ?_
              refine WL.nil (WQ.dk (.inl rfl) ?_)
              refine WD.done (by kernel_rfl) ?_
              repeat (first | refine WC.seq ?_ | refine WC.block ?_ | refine WC.region ?_ | refine WL.nil ?_ | refine WC.skip ?_ | refine WC.exit ?_ | refine WC.ret ?_ | refine WQ.then rfl ?_ | refine WQ.thenExit ?_ | refine WQ.thenRet ?_ | refine WQ.blk ?_ | refine WQ.blkRet ?_ | refine WQ.blkHere rfl ?_ | refine WQ.blkOther rfl ?_)
              refine WC.as 215 (.bool false) rfl (congrArg Value.bool hleq) ?_
              refine kgo ?_
              refine WQ.again (i + 1) ⟨rfl, rfl, rfl, trivial⟩ ⟨hin, hb2, fun j hj => (Nat.lt_succ_iff_lt_or_eq.1 hj).elim (hall j) (fun e => by rw [e]; rw [hok, hnm1]; simp)⟩ (by show v.names.length - (i + 1) < v.names.length - i; omega)
            | false =>
              rw [hlt] at hleq hok
              (((first | refine WD.free 0 rfl (by kernel_rfl) rfl rfl (fun _ _ _ _ _ h => h) rfl rfl (.inr hS) ?_ | refine WD.skip 0 rfl (by kernel_rfl) rfl rfl (fun _ _ _ _ _ h => h) rfl (.inr hS) ?_); try (first | ((with_reducible refine WD.topT ?_ ?_); omega) | ((with_reducible refine WD.topF ?_ ?_); omega) | ((with_reducible refine WD.top64 ?_ ?_); omega))))
              refine WD.load 1 [3, 4, 5, 6, 7, 8, 9, 10, 11, 12, 13, 14, 15, 16, 17, 18, 19, 20, 21, 22, 23, 24, 25, 26, 27, 28, 29, 30, 31, 32, 33] rfl (by kernel_rfl) rfl rfl (fun _ _ _ _ _ h => h) rfl rfl rfl rfl (fun wx hx => hx.2.cell 4 (by simp)) hS ?_
              (((first | refine WD.free 2 rfl (by kernel_rfl) rfl rfl (fun _ _ _ _ _ h => h) rfl rfl (.inr hS) ?_ | refine WD.skip 2 rfl (by kernel_rfl) rfl rfl (fun _ _ _ _ _ h => h) rfl (.inr hS) ?_); try (first | ((with_reducible refine WD.topT ?_ ?_); omega) | ((with_reducible refine WD.topF ?_ ?_); omega) | ((with_reducible refine WD.top64 ?_ ?_); omega))))
              refine WD.idx 3 i (no + i) rfl (by kernel_rfl) rfl rfl (fun _ _ _ _ _ h => h) rfl rfl rfl rfl rfl rfl (by omega) (by omega) (.inr hS) ?_
              refine WD.load 4 [5, 6, 7, 8, 9, 10, 11, 12, 13, 14, 15, 16, 17, 18, 19, 20, 21, 22, 23, 24, 25, 26, 27, 28, 29, 30, 31, 32, 33] rfl (by kernel_rfl) rfl rfl (fun _ _ _ _ _ h => h) rfl rfl rfl rfl (fun wx hx => (hx.1.cell (p := ⟨nb, no + i, none⟩) hnb).trans hnc) hS ?_
              (((first | refine WD.free 5 rfl (by kernel_rfl) rfl rfl (fun _ _ _ _ _ h => h) rfl rfl (.inr hS) ?_ | refine WD.skip 5 rfl (by kernel_rfl) rfl rfl (fun _ _ _ _ _ h => h) rfl (.inr hS) ?_); try (first | ((with_reducible refine WD.topT ?_ ?_); omega) | ((with_reducible refine WD.topF ?_ ?_); omega) | ((with_reducible refine WD.top64 ?_ ?_); omega))); ((first | refine WD.free 6 rfl (by kernel_rfl) rfl rfl (fun _ _ _ _ _ h => h) rfl rfl (.inr hS) ?_ | refine WD.skip 6 rfl (by kernel_rfl) rfl rfl (fun _ _ _ _ _ h => h) rfl (.inr hS) ?_); try (first | ((with_reducible refine WD.topT ?_ ?_); omega) | ((with_reducible refine WD.topF ?_ ?_); omega) | ((with_reducible refine WD.top64 ?_ ?_); omega))); ((first | refine WD.free 7 rfl (by kernel_rfl) rfl rfl (fun _ _ _ _ _ h => h) rfl rfl (.inr hS) ?_ | refine WD.skip 7 rfl (by kernel_rfl) rfl rfl (fun _ _ _ _ _ h => h) rfl (.inr hS) ?_); try (first | ((with_reducible refine WD.topT ?_ ?_); omega) | ((with_reducible refine WD.topF ?_ ?_); omega) | ((with_reducible refine WD.top64 ?_ ?_); omega))); ((first | refine WD.free 8 rfl (by kernel_rfl) rfl rfl (fun _ _ _ _ _ h => h) rfl rfl (.inr hS) ?_ | refine WD.skip 8 rfl (by kernel_rfl) rfl rfl (fun _ _ _ _ _ h => h) rfl (.inr hS) ?_); try (first | ((with_reducible refine WD.topT ?_ ?_); omega) | ((with_reducible refine WD.topF ?_ ?_); omega) | ((with_reducible refine WD.top64 ?_ ?_); omega))))
              refine WD.load 9 [11, 12, 13, 14, 15, 16, 17, 18, 19, 20, 21, 22, 23, 24, 25, 26, 27, 28, 29, 30, 31, 32, 33] rfl (by kernel_rfl) rfl rfl (fun _ _ _ _ _ h => h) rfl rfl rfl rfl (fun wx hx => hx.2.cell 4 (by simp)) hS ?_
              (((first | refine WD.free 10 rfl (by kernel_rfl) rfl rfl (fun _ _ _ _ _ h => h) rfl rfl (.inr hS) ?_ | refine WD.skip 10 rfl (by kernel_rfl) rfl rfl (fun _ _ _ _ _ h => h) rfl (.inr hS) ?_); try (first | ((with_reducible refine WD.topT ?_ ?_); omega) | ((with_reducible refine WD.topF ?_ ?_); omega) | ((with_reducible refine WD.top64 ?_ ?_); omega))))
              refine WD.idx 11 i (no + i) rfl (by kernel_rfl) rfl rfl (fun _ _ _ _ _ h => h) rfl rfl rfl rfl rfl rfl (by omega) (by omega) (.inr hS) ?_
              refine WD.load 12 [13, 14, 15, 16, 17, 18, 19, 20, 21, 22, 23, 24, 25, 26, 27, 28, 29, 30, 31, 32, 33] rfl (by kernel_rfl) rfl rfl (fun _ _ _ _ _ h => h) rfl rfl rfl rfl (fun wx hx => (hx.1.cell (p := ⟨nb, no + i, none⟩) hnb).trans hnc) hS ?_
              (((first | refine WD.free 13 rfl (by kernel_rfl) rfl rfl (fun _ _ _ _ _ h => h) rfl rfl (.inr hS) ?_ | refine WD.skip 13 rfl (by kernel_rfl) rfl rfl (fun _ _ _ _ _ h => h) rfl (.inr hS) ?_); try (first | ((with_reducible refine WD.topT ?_ ?_); omega) | ((with_reducible refine WD.topF ?_ ?_); omega) | ((with_reducible refine WD.top64 ?_ ?_); omega))); ((first | refine WD.free 14 rfl (by kernel_rfl) rfl rfl (fun _ _ _ _ _ h => h) rfl rfl (.inr hS) ?_ | refine WD.skip 14 rfl (by kernel_rfl) rfl rfl (fun _ _ _ _ _ h => h) rfl (.inr hS) ?_); try (first | ((with_reducible refine WD.topT ?_ ?_); omega) | ((with_reducible refine WD.topF ?_ ?_); omega) | ((with_reducible refine WD.top64 ?_ ?_); omega))); ((first | refine WD.free 15 rfl (by kernel_rfl) rfl rfl (fun _ _ _ _ _ h => h) rfl rfl (.inr hS) ?_ | refine WD.skip 15 rfl (by kernel_rfl) rfl rfl (fun _ _ _ _ _ h => h) rfl (.inr hS) ?_); try (first | ((with_reducible refine WD.topT ?_ ?_); omega) | ((with_reducible refine WD.topF ?_ ?_); omega) | ((with_reducible refine WD.top64 ?_ ?_); omega))); ((first | refine WD.free 16 rfl (by kernel_rfl) rfl rfl (fun _ _ _ _ _ h => h) rfl rfl (.inr hS) ?_ | refine WD.skip 16 rfl (by kernel_rfl) rfl rfl (fun _ _ _ _ _ h => h) rfl (.inr hS) ?_); try (first | ((with_reducible refine WD.topT ?_ ?_); omega) | ((with_reducible refine WD.topF ?_ ?_); omega) | ((with_reducible refine WD.top64 ?_ ?_); omega))))
              (((first | refine WD.free 17 rfl (by kernel_rfl) rfl rfl (fun _ _ _ _ _ h => h) rfl rfl (.inr hS) ?_ | refine WD.skip 17 rfl (by kernel_rfl) rfl rfl (fun _ _ _ _ _ h => h) rfl (.inr hS) ?_); try (first | ((with_reducible refine WD.topT ?_ ?_); omega) | ((with_reducible refine WD.topF ?_ ?_); omega) | ((with_reducible refine WD.top64 ?_ ?_); omega))); ((first | refine WD.free 18 rfl (by kernel_rfl) rfl rfl (fun _ _ _ _ _ h => h) rfl rfl (.inr hS) ?_ | refine WD.skip 18 rfl (by kernel_rfl) rfl rfl (fun _ _ _ _ _ h => h) rfl (.inr hS) ?_); try (first | ((with_reducible refine WD.topT ?_ ?_); omega) | ((with_reducible refine WD.topF ?_ ?_); omega) | ((with_reducible refine WD.top64 ?_ ?_); omega))); ((first | refine WD.free 19 rfl (by kernel_rfl) rfl rfl (fun _ _ _ _ _ h => h) rfl rfl (.inr hS) ?_ | refine WD.skip 19 rfl (by kernel_rfl) rfl rfl (fun _ _ _ _ _ h => h) rfl (.inr hS) ?_); try (first | ((with_reducible refine WD.topT ?_ ?_); omega) | ((with_reducible refine WD.topF ?_ ?_); omega) | ((with_reducible refine WD.top64 ?_ ?_); omega))); ((first | refine WD.free 20 rfl (by kernel_rfl) rfl rfl (fun _ _ _ _ _ h => h) rfl rfl (.inr hS) ?_ | refine WD.skip 20 rfl (by kernel_rfl) rfl rfl (fun _ _ _ _ _ h => h) rfl (.inr hS) ?_); try (first | ((with_reducible refine WD.topT ?_ ?_); omega) | ((with_reducible refine WD.topF ?_ ?_); omega) | ((with_reducible refine WD.top64 ?_ ?_); omega))))
              refine WD.load 21 [23, 24, 31, 32, 33] rfl (by kernel_rfl) rfl rfl (fun _ _ _ _ _ h => h) rfl rfl rfl rfl (fun wx hx => hx.2.cell 4 (by simp)) hS ?_
              (((first | refine WD.free 22 rfl (by kernel_rfl) rfl rfl (fun _ _ _ _ _ h => h) rfl rfl (.inr hS) ?_ | refine WD.skip 22 rfl (by kernel_rfl) rfl rfl (fun _ _ _ _ _ h => h) rfl (.inr hS) ?_); try (first | ((with_reducible refine WD.topT ?_ ?_); omega) | ((with_reducible refine WD.topF ?_ ?_); omega) | ((with_reducible refine WD.top64 ?_ ?_); omega))))
              refine WD.idx 23 i (no + i) rfl (by kernel_rfl) rfl rfl (fun _ _ _ _ _ h => h) rfl rfl rfl rfl rfl rfl (by omega) (by omega) (.inr hS) ?_
              refine WD.load 24 [31, 32, 33] rfl (by kernel_rfl) rfl rfl (fun _ _ _ _ _ h => h) rfl rfl rfl rfl (fun wx hx => (hx.1.cell (p := ⟨nb, no + i, none⟩) hnb).trans hnc) hS ?_
              (((first | refine WD.free 25 rfl (by kernel_rfl) rfl rfl (fun _ _ _ _ _ h => h) rfl rfl (.inr hS) ?_ | refine WD.skip 25 rfl (by kernel_rfl) rfl rfl (fun _ _ _ _ _ h => h) rfl (.inr hS) ?_); try (first | ((with_reducible refine WD.topT ?_ ?_); omega) | ((with_reducible refine WD.topF ?_ ?_); omega) | ((with_reducible refine WD.top64 ?_ ?_); omega))))
              refine WD.load 26 [29, 30, 31, 32, 33] rfl (by kernel_rfl) rfl rfl (fun _ _ _ _ _ h => h) rfl rfl rfl rfl (fun wx hx => hx.2.cell 4 (by simp)) hS ?_
              (((first | refine WD.free 27 rfl (by kernel_rfl) rfl rfl (fun _ _ _ _ _ h => h) rfl rfl (.inr hS) ?_ | refine WD.skip 27 rfl (by kernel_rfl) rfl rfl (fun _ _ _ _ _ h => h) rfl (.inr hS) ?_); try (first | ((with_reducible refine WD.topT ?_ ?_); omega) | ((with_reducible refine WD.topF ?_ ?_); omega) | ((with_reducible refine WD.top64 ?_ ?_); omega))); ((first | refine WD.free 28 rfl (by kernel_rfl) rfl rfl (fun _ _ _ _ _ h => h) rfl rfl (.inr hS) ?_ | refine WD.skip 28 rfl (by kernel_rfl) rfl rfl (fun _ _ _ _ _ h => h) rfl (.inr hS) ?_); try (first | ((with_reducible refine WD.topT ?_ ?_); omega) | ((with_reducible refine WD.topF ?_ ?_); omega) | ((with_reducible refine WD.top64 ?_ ?_); omega))))
              refine WD.idx 29 (i - 1) (no + (i - 1)) rfl (by kernel_rfl) rfl rfl (fun _ _ _ _ _ h => h) rfl rfl rfl rfl rfl (by omega) (by omega) (by omega) (.inr hS) ?_
              refine WD.load 30 [31, 32, 33] rfl (by kernel_rfl) rfl rfl (fun _ _ _ _ _ h => h) rfl rfl rfl rfl (fun wx hx => (hx.1.cell (p := ⟨nb, no + (i - 1), none⟩) hnb).trans hnp) hS ?_
              (((first | refine WD.free 31 rfl (by kernel_rfl) rfl rfl (fun _ _ _ _ _ h => h) rfl rfl (.inr hS) ?_ | refine WD.skip 31 rfl (by kernel_rfl) rfl rfl (fun _ _ _ _ _ h => h) rfl (.inr hS) ?_); try (first | ((with_reducible refine WD.topT ?_ ?_); omega) | ((with_reducible refine WD.topF ?_ ?_); omega) | ((with_reducible refine WD.top64 ?_ ?_); omega))); ((first | refine WD.free 32 rfl (by kernel_rfl) rfl rfl (fun _ _ _ _ _ h => h) rfl rfl (.inr hS) ?_ | refine WD.skip 32 rfl (by kernel_rfl) rfl rfl (fun _ _ _ _ _ h => h) rfl (.inr hS) ?_); try (first | ((with_reducible refine WD.topT ?_ ?_); omega) | ((with_reducible refine WD.topF ?_ ?_); omega) | ((with_reducible refine WD.top64 ?_ ?_); omega))))
              refine WD.one 33 (by kernel_rfl) rfl ?_
              refine WL.pure rfl rfl rfl rfl ?_
              refine WL.nil (WQ.dk (.inl rfl) ?_)
              refine WD.done (by kernel_rfl) ?_
              repeat (first | refine WC.seq ?_ | refine WC.block ?_ | refine WC.region ?_ | refine WL.nil ?_ | refine WC.skip ?_ | refine WC.exit ?_ | refine WC.ret ?_ | refine WQ.then rfl ?_ | refine WQ.thenExit ?_ | refine WQ.thenRet ?_ | refine WQ.blk ?_ | refine WQ.blkRet ?_ | refine WQ.blkHere rfl ?_ | refine WQ.blkOther rfl ?_)
              refine WC.as 215 (.bool true) rfl (congrArg Value.bool hleq) ?_
              refine kgo ?_
              exact WQ.ret1 rfl rfl ⟨badn (by rw [hok, hnm1, decide_eq_false x3]; rfl), hS.1⟩
          · obtain rfl : i = v.names.length := by omega
            have hff : fieldsB v = true := hfi.2 ⟨hall, a5⟩
            have h0 : shp v = 0 := shp0 hform (by have := hEt hE1; omega) (by omega) (fun _ => hff)
            have hchk : chk (m + 1) v = firstBad (v.kids.map (chk m)) := by
              conv => lhs; unfold chk
              rw [if_pos h0]
            clear hfi hall nr nsz
            refine kgl ?_
            have hb1 := hbz
            refine WC.loop (fun i : Nat => [(1, .int .i64 d), (2, .pointer (some ⟨g, 0, none⟩)), (8, .int .i64 i)]) (fun i w' => i ≤ v.kids.length ∧ Below w1.heap.size w1 w' ∧ ∀ j, j < i → chk m (v.kids.getD j noV) = 0) (fun i => v.kids.length - i) 0 ⟨rfl, rfl, rfl, trivial⟩ ⟨Nat.zero_le _, hb1, fun j hj => absurd hj (by omega)⟩ ?_
            clear hb1 c0 c1 c2 c3 c4 c5
            rintro i wr ⟨hi, hbr, hall⟩
            have hgw : g < w1.heap.size := hR.lt
            have c5 : wr.cell? ⟨g, 5, none⟩ = some (.slice sp v.kids.length cap) := (hR.below hbr hgw).cell 5 (by simp)
            have hbelr : Below w.heap.size w wr := hbel.trans (hbr.mono hbel.size)
            by_cases hik : i < v.kids.length
            · obtain ⟨kb, ko, rfl, hkb, hcells⟩ := hrow (by omega)
              obtain ⟨c, hc6, hci, hcr⟩ := hcells i hik
              clear hrow hcells
              have hcr' : wr.rangeAt kb (ko + i * 6) c := fun j u hu => by rw [hbelr.cell (p := ⟨kb, ko + i * 6 + j, none⟩) hkb]; exact hcr j u hu
              refine kgl ?_
              refine WL.idx i (ko + i * 6) rfl rfl rfl rfl rfl rfl rfl rfl hik rfl ?_
              refine WL.loadMid rfl rfl rfl rfl rfl rfl hcr' hc6 ?_
              refine kgo ?_
              refine WL.call rfl rfl rfl rfl rfl Tryz.func99 rfl (by kernel_rfl) (ih (d + 1) (hci.below hbelr) hd) ?_
              rintro e w4 ⟨rfl, hb4⟩
              refine ⟨_, rfl, ?_⟩
              have hb4' : Below w1.heap.size w1 w4 := hbr.trans (hb4.mono hbr.size)
              by_cases h0 : chk m (v.kids.getD i noV) = 0
              · refine kgo ?_
                refine WQ.again (i + 1) ⟨rfl, rfl, rfl, trivial⟩ ⟨hik, hb4', fun j hj => (Nat.lt_succ_iff_lt_or_eq.1 hj).elim (hall j) (fun e => by rw [e]; exact h0)⟩ (by show v.kids.length - (i + 1) < v.kids.length - i; omega)
              · have hfb : chk (m + 1) v = chk m (v.kids.getD i noV) := by
                  rw [hchk, firstBad_take (i := i) (by rw [List.length_map]; exact hik) (fun j hj => by rw [chk_map m v.kids j (by omega)]; exact hall j hj) (by rw [chk_map m v.kids i hik]; exact h0), chk_map m v.kids i hik]
                refine kgo ?_
                exact WQ.ret1 rfl rfl ⟨ret_i64 hfb.symm, hbel.trans (hb4'.mono hbel.size)⟩
            · obtain rfl : i = v.kids.length := by omega
              refine kgl ?_
              refine WQ.ret1 rfl rfl ⟨ret_i64 ?_, hbelr⟩
              rw [hchk]
              exact (firstBad_all fun j hj => by rw [List.length_map] at hj; rw [chk_map m v.kids j hj]; exact hall j hj).symm
        · have hff : fieldsB v = false := by cases h : fieldsB v with | false => rfl | true => exact (a5 (hfi.1 h).2).elim
          refine kgl ?_
          exact WQ.ret1 rfl rfl ⟨ret_i64 (chk_bad (shp3 hff) (by decide)).symm, hbel⟩
    · skip
      refine kgl ?_
      exact WQ.ret1 rfl rfl (bad3 (by rw [hfc]; simp [formC, *]))
  · skip
    refine kgl ?_
    exact WQ.ret1 rfl rfl (bad3 (by rw [hfc]; simp [formC, *]))

theorem rcheck_any : ∀ {f : Nat} {w : World} {v : V} {cs : List Value} (m : Nat) (d : Int), IsV f w v cs → m ≤ 16 → d = 17 - (m : Int) →
    Calls Tryz.prog 99 #[.agg cs.toArray, .int .i64 d] w fun e w' => e = .returned (.int .i64 (chk m v)) ∧ Below w.heap.size w w'
  | 0, _, _, _, _, _, h, _, _ => h.elim
  | f + 1, w, v, cs, 0, d, hv, _, hd => by
    refine enter (args := [.agg cs.toArray, .int .i64 d]) Tryz.func99 rfl Tryz.ntmps99 rfl ?_
    have hd1 : 16 < d := by omega
    refine kgo ?_
    refine WL.box rfl rfl rfl rfl rfl fun g w1 hf => ?_
    refine kgo ?_
    exact WQ.ret1 rfl rfl ⟨rfl, hf.below⟩
  | f + 1, w, v, cs, m + 1, d, hv, hm, hd => by
    have ih := fun {w : World} {v : V} {cs : List Value} (d : Int) (h1 : IsV f w v cs) (h2 : d = 17 - (m : Int)) => @rcheck_any f w v cs m d h1 (by omega) h2
    have hd1 : d ≤ 16 := by omega
    have hd0 : 0 ≤ d := by omega
    by_cases q1 : v.k = 1
    · exact rchk_k1 hv q1 hd1 hd0
    by_cases q2 : v.k = 2
    · exact rchk_k2 hv q2 hd1 hd0
    by_cases q3 : v.k = 3
    · exact rchk_k3 hv q3 hd1 hd0
    by_cases q4 : v.k = 4
    · exact rchk_k4 hv q4 hd1 hd0
    by_cases q5 : v.k = 5
    · exact rchk_k5 hv q5 hd1 hd0
    by_cases q67 : v.k = 6 ∨ v.k = 7
    · exact rchk_k67 hv q67 hd1 hd0
    by_cases q8 : v.k = 8
    · exact rchk_k8 ih (by omega) hv q8 hd1 hd0
    by_cases q9 : v.k = 9
    · exact rchk_k9 ih (by omega) hv q9 hd1 hd0
    exact rchk_kx hv (by omega) hd1 hd0
theorem rCheck_any {f : Nat} {w : World} {v : V} {cs : List Value} (h : IsV f w v cs) :
    Calls Tryz.prog 85 #[.agg cs.toArray] w fun e w' => e = .returned (.int .i64 (chk 16 v)) ∧ Below w.heap.size w w' := by
  refine enter (args := [.agg cs.toArray]) Tryz.func85 rfl Tryz.ntmps85 rfl ?_
  refine kgo ?_
  refine WL.box rfl rfl rfl rfl rfl fun g w1 hf => ?_
  have hf' : Fresh w g w1 41 cs := hf
  refine kgo ?_
  refine WL.loadMid rfl rfl rfl rfl rfl rfl (VBlk.rangeAt hf'.blk) h.len ?_
  refine WL.call rfl rfl rfl rfl rfl Tryz.func99 rfl (by kernel_rfl) (rcheck_any 16 1 (h.below hf'.below) (by omega) (by omega)) ?_
  rintro e w2 ⟨rfl, hb2⟩
  refine ⟨_, rfl, ?_⟩
  refine kgo ?_
  exact WQ.ret1 rfl rfl ⟨rfl, hf'.below.trans (hb2.mono hf'.below.size)⟩
end K
end Go.Proofs.YtlamdhekjlnccaaGreatDoor

/- The document's parts and Encode (chapter 7). -/
namespace Go.Proofs.YtlamdhekjlnccaaGreatDoor
open Go.RowKit
namespace K

/-- How many parts a value has, at least if they are more than bytes may be. -/
def prtK (g : V → Nat → Nat) : List V → Nat → Nat
  | [], n => n
  | k :: r, n => if n ≤ 65536 then prtK g r (g k n) else n
def prt : Nat → V → Nat → Nat
  | 0, _, n => n
  | f + 1, v, n => prtK (prt f) v.kids (n + 1 + v.t.size)
theorem prtK_enc {f m : Nat} (ih : ∀ (v : V) (n : Nat), chk m v = 0 → prt f v n ≤ n + (encV m v).length) : ∀ (l : List V) (n : Nat), (∀ x ∈ l, chk m x = 0) → prtK (prt f) l n ≤ n + (l.flatMap (encV m)).length
  | [], n, _ => by simp [prtK]
  | k :: r, n, h => by
    unfold prtK
    rw [List.flatMap_cons, List.length_append]
    split
    · have h1 := ih k n (h k (by simp))
      have h2 := prtK_enc ih r (prt f k n) fun x hx => h x (List.mem_cons_of_mem _ hx)
      omega
    · omega
theorem pieces_ge (ky : V → List Int) (st : Bool) (names : List ByteArray) (kids : List V) : (kids.flatMap ky).length ≤ ((List.range kids.length).flatMap (pieceE ky st names kids)).length := by
  have key : ∀ i, i ≤ kids.length → ((kids.take i).flatMap ky).length ≤ ((List.range i).flatMap (pieceE ky st names kids)).length := by
    intro i
    induction i with
    | zero => intro _; simp
    | succ i ih =>
      intro hi
      have h1 := ih (by omega)
      have ht : kids.take (i + 1) = kids.take i ++ [kids.getD i noV] := by
        rw [List.take_add_one]
        simp [show i < kids.length by omega]
      rw [range_piece, List.length_append, ht, List.flatMap_append, List.length_append]
      have h2 : ([kids.getD i noV].flatMap ky).length ≤ (pieceE ky st names kids i).length := by
        unfold pieceE
        rw [List.length_append]
        generalize kids.getD i noV = kd
        simp
      omega
  have := key kids.length (Nat.le_refl _)
  rwa [List.take_length] at this
theorem prt_enc : ∀ (f m : Nat) (v : V) (n : Nat), chk m v = 0 → prt f v n ≤ n + (encV m v).length
  | 0, _, _, n, _ => by unfold prt; omega
  | _ + 1, 0, _, _, h => by cases h
  | f + 1, m + 1, v, n, hc => by
    unfold prt
    have h1 := prtK_enc (prt_enc f m) v.kids (n + 1 + v.t.size) fun x hx => chk_mem hc hx
    have hbody : 1 + v.t.size + (v.kids.flatMap (encV m)).length ≤ (encV (m + 1) v).length := by
      rcases shp_full (chk_shp hc) with ⟨h, e⟩ | ⟨h, e, _⟩ | ⟨h, e⟩ | ⟨h, e, _⟩ | ⟨h, e, _⟩ | ⟨h, e, _⟩ | ⟨h, e, _⟩ | ⟨h, e, _⟩
      all_goals rw [encV_two, List.length_cons]
      · rw [e]; simp [V.t, V.kids, noT]
      · rw [e]; simp [V.t, V.kids, noT]
      · rw [e]; simp [V.t, V.kids, noT]
      · rw [e]; simp [V.t, V.kids, noT]
      · rw [e]; simp [V.t, V.kids, noT]
      · rw [if_neg (by omega), if_neg (by omega), if_neg (by omega), if_neg (by omega), if_pos h, List.length_append, byI_len]
        have : v.kids = [] := by rw [e]; rfl
        rw [this]; simp; omega
      · rw [if_neg (by omega), if_neg (by omega), if_neg (by omega), if_neg (by omega), if_neg (by omega), if_pos (.inl h), List.length_append]
        have ht : v.t.size = 0 := by rw [e]; rfl
        have := pieces_ge (encV m) (decide (v.k = 9)) v.names v.kids
        omega
      · rw [if_neg (by omega), if_neg (by omega), if_neg (by omega), if_neg (by omega), if_neg (by omega), if_pos (.inr h), List.length_append]
        have ht : v.t.size = 0 := by rw [e]; rfl
        have := pieces_ge (encV m) (decide (v.k = 9)) v.names v.kids
        omega
    omega

set_option maxHeartbeats 4000000 in
theorem parts_any : ∀ (f : Nat) {w0 w : World} {v : V} {cs : List Value} {pb n : Nat}, IsV f w0 v cs → Below w0.heap.size w0 w → w0.heap.size ≤ pb → VBlk 3 w pb [.int .i64 n] → n ≤ 140737488355328 →
    Calls Tryz.prog 86 #[.agg cs.toArray, .pointer (some ⟨pb, 0, none⟩)] w fun e w' => e = .returned (.bool (decide (65536 < prt f v n))) ∧ VBlk 3 w' pb [.int .i64 (prt f v n)] ∧ Keep (fun b => b < w.heap.size ∧ b ≠ pb) w w'
  | 0, _, _, _, _, _, _, h, _, _, _, _ => h.elim
  | f + 1, w0, w, v, cs, pb, n, hv, hbel, hpb, hblk, hn => by
    have ih := @parts_any f
    obtain ⟨sn, sk, rfl, -, -, -, htz, -, ⟨sp, cap, rfl, hcap1, hcap2, hrow⟩⟩ := hv
    have hgr : prt (f + 1) v n = prtK (prt f) v.kids (n + 1 + v.t.size) := rfl
    rw [hgr]
    refine enter (args := [.agg (six v sn (.slice sp v.kids.length cap)).toArray, .pointer (some ⟨pb, 0, none⟩)]) Tryz.func86 rfl Tryz.ntmps86 rfl ?_
    refine kgo ?_
    refine WL.box rfl rfl rfl rfl rfl fun g w1 hf => ?_
    have hf' : Fresh w g w1 41 (six v sn (.slice sp v.kids.length cap)) := hf
    clear hf
    have hpw := hblk.lt
    have hne : g ≠ pb := by rw [hf'.eq]; omega
    have hblk1 : VBlk 3 w1 pb [.int .i64 n] := hblk.below hf'.below hpw
    have hkeep1 : Keep (fun b => b < w.heap.size ∧ b ≠ pb) w w1 := (Keep.of_below hf'.below).mono fun _ h => h.1
    refine kgo ?_
    refine WC.drawn 10 (fun wx => VBlk 3 wx pb [.int .i64 n] ∧ VBlk 41 wx g (six v sn (.slice sp v.kids.length cap))) fun w2 hd2 => ?_
    have hS : VBlk 3 w2 pb [.int .i64 n] ∧ VBlk 41 w2 g (six v sn (.slice sp v.kids.length cap)) := ⟨hblk1.below (hd2.below _) hblk1.lt, hf'.blk.below (hd2.below _) hf'.blk.lt⟩
    (((first | refine WD.free 0 rfl (by kernel_rfl) rfl rfl (fun _ _ _ _ _ h => h) rfl rfl (.inr hS) ?_ | refine WD.skip 0 rfl (by kernel_rfl) rfl rfl (fun _ _ _ _ _ h => h) rfl (.inr hS) ?_); try (first | ((with_reducible refine WD.topT ?_ ?_); omega) | ((with_reducible refine WD.topF ?_ ?_); omega) | ((with_reducible refine WD.top64 ?_ ?_); omega))); ((first | refine WD.free 1 rfl (by kernel_rfl) rfl rfl (fun _ _ _ _ _ h => h) rfl rfl (.inr hS) ?_ | refine WD.skip 1 rfl (by kernel_rfl) rfl rfl (fun _ _ _ _ _ h => h) rfl (.inr hS) ?_); try (first | ((with_reducible refine WD.topT ?_ ?_); omega) | ((with_reducible refine WD.topF ?_ ?_); omega) | ((with_reducible refine WD.top64 ?_ ?_); omega))); ((first | refine WD.free 2 rfl (by kernel_rfl) rfl rfl (fun _ _ _ _ _ h => h) rfl rfl (.inr hS) ?_ | refine WD.skip 2 rfl (by kernel_rfl) rfl rfl (fun _ _ _ _ _ h => h) rfl (.inr hS) ?_); try (first | ((with_reducible refine WD.topT ?_ ?_); omega) | ((with_reducible refine WD.topF ?_ ?_); omega) | ((with_reducible refine WD.top64 ?_ ?_); omega))))
    refine WD.load 3 [4, 8, 9, 10] rfl (by kernel_rfl) rfl rfl (fun _ _ _ _ _ h => h) rfl rfl rfl rfl (fun wx hx => hx.1.cell 0 (by simp)) hS ?_
    (((first | refine WD.free 4 rfl (by kernel_rfl) rfl rfl (fun _ _ _ _ _ h => h) rfl rfl (.inr hS) ?_ | refine WD.skip 4 rfl (by kernel_rfl) rfl rfl (fun _ _ _ _ _ h => h) rfl (.inr hS) ?_); try (first | ((with_reducible refine WD.topT ?_ ?_); omega) | ((with_reducible refine WD.topF ?_ ?_); omega) | ((with_reducible refine WD.top64 ?_ ?_); omega))); ((first | refine WD.free 5 rfl (by kernel_rfl) rfl rfl (fun _ _ _ _ _ h => h) rfl rfl (.inr hS) ?_ | refine WD.skip 5 rfl (by kernel_rfl) rfl rfl (fun _ _ _ _ _ h => h) rfl (.inr hS) ?_); try (first | ((with_reducible refine WD.topT ?_ ?_); omega) | ((with_reducible refine WD.topF ?_ ?_); omega) | ((with_reducible refine WD.top64 ?_ ?_); omega))))
    refine WD.load 6 [7, 8, 9, 10] rfl (by kernel_rfl) rfl rfl (fun _ _ _ _ _ h => h) rfl rfl rfl rfl (fun wx hx => hx.2.cell 3 (by simp)) hS ?_
    (((first | refine WD.free 7 rfl (by kernel_rfl) rfl rfl (fun _ _ _ _ _ h => h) rfl rfl (.inr hS) ?_ | refine WD.skip 7 rfl (by kernel_rfl) rfl rfl (fun _ _ _ _ _ h => h) rfl (.inr hS) ?_); try (first | ((with_reducible refine WD.topT ?_ ?_); omega) | ((with_reducible refine WD.topF ?_ ?_); omega) | ((with_reducible refine WD.top64 ?_ ?_); omega))); ((first | refine WD.free 8 rfl (by kernel_rfl) rfl rfl (fun _ _ _ _ _ h => h) rfl rfl (.inr hS) ?_ | refine WD.skip 8 rfl (by kernel_rfl) rfl rfl (fun _ _ _ _ _ h => h) rfl (.inr hS) ?_); try (first | ((with_reducible refine WD.topT ?_ ?_); omega) | ((with_reducible refine WD.topF ?_ ?_); omega) | ((with_reducible refine WD.top64 ?_ ?_); omega))); ((first | refine WD.free 9 rfl (by kernel_rfl) rfl rfl (fun _ _ _ _ _ h => h) rfl rfl (.inr hS) ?_ | refine WD.skip 9 rfl (by kernel_rfl) rfl rfl (fun _ _ _ _ _ h => h) rfl (.inr hS) ?_); try (first | ((with_reducible refine WD.topT ?_ ?_); omega) | ((with_reducible refine WD.topF ?_ ?_); omega) | ((with_reducible refine WD.top64 ?_ ?_); omega))))
    refine WD.one 10 (by kernel_rfl) rfl ?_
    have e2 : (n : Int) + 1 + (v.t.size : Int) = ((n + 1 + v.t.size : Nat) : Int) := by omega
    generalize n + 1 + v.t.size = n1 at e2 ⊢
    refine WL.store (v := .int .i64 n1) rfl rfl rfl rfl (congrArg (fun z => some (Value.int .i64 z)) e2) rfl (by kernel_rfl) (hS.1.cell 0 (by simp)) (hS.1.free 0) ?_
    have hb2 : VBlk 3 (w2.setCell ⟨pb, 0, none⟩ (.int .i64 n1)) pb [.int .i64 n1] := hS.1.set 0 (.int .i64 n1)
    have hg2 : VBlk 41 (w2.setCell ⟨pb, 0, none⟩ (.int .i64 n1)) g (six v sn (.slice sp v.kids.length cap)) := hS.2.other _ _ hne
    have hk2 : Keep (fun b => b < w.heap.size ∧ b ≠ pb) w (w2.setCell ⟨pb, 0, none⟩ (.int .i64 n1)) := (hkeep1.trans ((Keep.of_below (hd2.below w1.heap.size)).mono fun b hb => Nat.lt_of_lt_of_le hb.1 hf'.below.size)).setCell (fun h => h.2 rfl) _
    generalize w2.setCell ⟨pb, 0, none⟩ (.int .i64 n1) = w3 at hb2 hg2 hk2
    refine WL.nil (WQ.dk (.inl rfl) ?_)
    refine WD.done (by kernel_rfl) ?_
    refine kgo ?_
    generalize hRR : prtK (prt f) v.kids n1 = RR
    have hgw : g < w3.heap.size := hg2.lt
    refine WC.loop (fun i : Nat => [(1, .pointer (some ⟨pb, 0, none⟩)), (2, .pointer (some ⟨g, 0, none⟩)), (5, .int .i64 i)])
      (fun i w' => i ≤ v.kids.length ∧ Keep (fun b => b < w3.heap.size ∧ b ≠ pb) w3 w' ∧ ∃ x : Nat, VBlk 3 w' pb [.int .i64 x] ∧ prtK (prt f) (v.kids.drop i) x = RR) (fun i => v.kids.length - i) 0
      ⟨rfl, rfl, rfl, trivial⟩ ⟨Nat.zero_le _, Keep.refl _ _, n1, hb2, hRR⟩ ?_
    rintro i wr ⟨hi, hkr, x, hbx, hx⟩
    have hgr2 : VBlk 41 wr g (six v sn (.slice sp v.kids.length cap)) := hg2.keep hkr ⟨hgw, hne⟩
    have hkw : Keep (fun b => b < w.heap.size ∧ b ≠ pb) w wr := hk2.trans (hkr.mono fun b hb => ⟨Nat.lt_of_lt_of_le hb.1 hk2.size, hb.2⟩)
    have hlast : ∀ {wz : World} {xz : Nat}, VBlk 3 wz pb [.int .i64 xz] → Keep (fun b => b < w.heap.size ∧ b ≠ pb) w wz → xz = RR → (Ending.returned (.bool (decide ((65536 : Int) < (xz : Int)))) = .returned (.bool (decide (65536 < RR))) ∧ VBlk 3 wz pb [.int .i64 (RR)] ∧ Keep (fun b => b < w.heap.size ∧ b ≠ pb) w wz) :=
      fun h1 h2 h3 => ⟨by rw [← h3]; congr 2; simp only [decide_eq_decide]; omega, by rw [← h3]; exact h1, h2⟩
    refine kgo ?_
    refine WL.load rfl rfl rfl rfl rfl rfl (hgr2.cell 5 (by simp)) ?_
    by_cases hik : i < v.kids.length
    · have hdr : v.kids.drop i = v.kids.getD i noV :: v.kids.drop (i + 1) := by
        rw [List.drop_eq_getElem_cons hik]
        simp [hik]
      rw [hdr] at hx
      refine kgo ?_
      refine WL.load rfl rfl rfl rfl rfl rfl (hbx.cell 0 (by simp)) ?_
      by_cases hx2 : x ≤ 65536
      · obtain ⟨kb, ko, rfl, hkb, hcells⟩ := hrow (by omega)
        obtain ⟨c, hc6, hci, hcr⟩ := hcells i hik
        have hbelr : Below w0.heap.size w0 wr := (hbel.trans ((hkw.mono fun b hb => ⟨Nat.lt_of_lt_of_le hb hbel.size, Nat.ne_of_lt (Nat.lt_of_lt_of_le hb hpb)⟩ : Keep (fun b => b < w0.heap.size) w wr).below))
        have hcr' : wr.rangeAt kb (ko + i * 6) c := fun j u hu => by rw [hbelr.cell (p := ⟨kb, ko + i * 6 + j, none⟩) hkb]; exact hcr j u hu
        unfold prtK at hx
        rw [if_pos hx2] at hx
        refine kgo ?_
        refine WL.load rfl rfl rfl rfl rfl rfl (hgr2.cell 5 (by simp)) ?_
        refine kgo ?_
        refine WL.idx i (ko + i * 6) rfl rfl rfl rfl rfl rfl rfl rfl hik rfl ?_
        refine WL.loadMid rfl rfl rfl rfl rfl rfl hcr' hc6 ?_
        refine kgo ?_
        refine WL.call rfl rfl rfl rfl rfl Tryz.func86 rfl (by kernel_rfl) (ih (n := x) hci hbelr hpb hbx (by omega)) ?_
        rintro e w4 ⟨rfl, hb4, hk4⟩
        refine ⟨_, rfl, ?_⟩
        refine kgo ?_
        exact WQ.again (i + 1) ⟨rfl, rfl, rfl, trivial⟩ ⟨hik, hkr.trans (hk4.mono fun b hb => ⟨Nat.lt_of_lt_of_le hb.1 hkr.size, hb.2⟩), _, hb4, hx⟩ (by show v.kids.length - (i + 1) < v.kids.length - i; omega)
      · unfold prtK at hx
        rw [if_neg hx2] at hx
        refine kgo ?_
        refine WL.load rfl rfl rfl rfl rfl rfl (hbx.cell 0 (by simp)) ?_
        refine WL.pure rfl rfl rfl rfl ?_
        refine WL.pure rfl rfl rfl rfl ?_
        refine kgo ?_
        exact WQ.ret1 rfl rfl ⟨congrArg (fun b => Ending.returned (Value.bool b)) (decide_eq_true (by omega)).symm, (hlast hbx hkw hx).2⟩
    · obtain rfl : i = v.kids.length := by omega
      rw [List.drop_length] at hx
      unfold prtK at hx
      refine kgo ?_
      refine WL.load rfl rfl rfl rfl rfl rfl (hbx.cell 0 (by simp)) ?_
      refine WL.pure rfl rfl rfl rfl ?_
      refine WL.pure rfl rfl rfl rfl ?_
      refine kgo ?_
      exact WQ.ret1 rfl rfl (hlast hbx hkw hx)

theorem rencode_any {f : Nat} {w : World} {v : V} {cs : List Value} (h : IsV f w v cs) (hlen : chk 16 v = 0 → (encV 16 v).length ≤ 70368744177664) :
    Calls Tryz.prog 63 #[.agg cs.toArray] w (EncPost w v) := by
  have hcs := h.len
  refine enter (args := [.agg cs.toArray]) Tryz.func63 rfl Tryz.ntmps63 rfl ?_
  refine kgo ?_
  refine WL.box rfl rfl rfl rfl rfl fun g w1 hf => ?_
  have hf' : Fresh w g w1 41 cs := hf
  clear hf
  have hz1 := hf'.size
  have h1 := h.below hf'.below
  refine kgo ?_
  refine WL.loadMid rfl rfl rfl rfl rfl rfl (VBlk.rangeAt hf'.blk) hcs ?_
  refine WL.call rfl rfl rfl rfl rfl Tryz.func85 rfl (by kernel_rfl) (rCheck_any h1) ?_
  rintro _ w2 ⟨rfl, hb2⟩
  refine ⟨_, rfl, ?_⟩
  have hw2 : Below w.heap.size w w2 := hf'.below.trans (hb2.mono (by omega))
  have hblk2 := hf'.blk.below hb2 hf'.blk.lt
  by_cases hc : chk 16 v = 0
  · refine kgo ?_
    refine WL.alloc (z := .int .i64 0) rfl rfl rfl rfl (fun _ => by kernel_rfl) fun pb w3 hf3 => ?_
    have hf3' : Fresh w2 pb w3 3 [.int .i64 0] := hf3
    clear hf3
    have hb3 := hf3'.blk
    have hpb := hf3'.eq
    have hblk3 := hblk2.below hf3'.below hblk2.lt
    have hgp : g ≠ pb := by have := hblk2.lt; omega
    refine kgo ?_
    refine WL.store (v := .int .i64 0) rfl rfl rfl rfl rfl rfl (by kernel_rfl) (hb3.cell 0 (by simp)) (hb3.free 0) ?_
    have hb4 := hb3.set 0 (.int .i64 0)
    have hblk4 : VBlk 41 (w3.setCell ⟨pb, 0, none⟩ (.int .i64 0)) g cs := hblk3.other _ _ hgp
    have hk4 : Below w2.heap.size w2 (w3.setCell ⟨pb, 0, none⟩ (.int .i64 0)) := Keep.below ((Keep.of_below hf3'.below).setCell (fun hk => by simp only at hk; omega) _)
    generalize w3.setCell ⟨pb, 0, none⟩ (.int .i64 0) = w4 at hb4 hblk4 hk4
    simp only [List.set_cons_zero] at hb4
    have hw4 : Below w.heap.size w w4 := hw2.trans (hk4.mono hw2.size)
    have hpw : w.heap.size ≤ pb := by have := hw2.size; omega
    clear hf3'
    refine kgo ?_
    refine WL.loadMid rfl rfl rfl rfl rfl rfl (VBlk.rangeAt hblk4) hcs ?_
    refine WL.call rfl rfl rfl rfl rfl Tryz.func86 rfl (by kernel_rfl) (parts_any (n := 0) f h hw4 hpw hb4 (by omega)) ?_
    rintro _ w5 ⟨rfl, hb5, hk5⟩
    refine ⟨_, rfl, ?_⟩
    have hw5 : Below w.heap.size w w5 := hw4.trans (Keep.below (Keep.mono hk5 fun b (hb : b < w.heap.size) => ⟨Nat.lt_of_lt_of_le hb hw4.size, by omega⟩))
    have hblk5 := hblk4.keep hk5 ⟨hblk4.lt, hgp⟩
    have hpe := prt_enc f 16 v 0 hc
    by_cases hp : 65536 < prt f v 0
    · have hr : encR v = ([], 5) := by unfold encR; rw [if_neg (by simpa using hc), if_pos (by omega)]
      refine kgo ?_
      exact WQ.ret2 rfl rfl rfl ⟨_, by rw [hr], by rw [hr]; exact Bu.nil _, hw5, fun g hg => by cases hg⟩
    refine kgo ?_
    refine WL.loadMid rfl rfl rfl rfl rfl rfl (VBlk.rangeAt hblk5) hcs ?_
    refine WL.call rfl rfl rfl rfl rfl Tryz.func87 rfl (by kernel_rfl) (rbytes_all 16 (h.below hw5) hc (Bu.nil w5) ⟨Below.refl _ _, fun g hg => by cases hg⟩ (by have := hlen hc; simp only [List.length_nil]; omega)) ?_
    rintro _ w6 ⟨b, rfl, hb, hg⟩
    refine ⟨_, rfl, ?_⟩
    rw [List.nil_append] at hb
    obtain ⟨sp, cap, rfl, hl1, hl2⟩ := hb.form
    have hw6 : Below w.heap.size w w6 := hw5.trans (hg.old (B := w.heap.size) (hw5.size) fun g h => by cases h)
    by_cases hbig : 65536 < (encV 16 v).length
    · have hr : encR v = ([], 5) := by unfold encR; rw [if_neg (by simpa using hc), if_pos hbig]
      refine kgo ?_
      exact WQ.ret2 rfl rfl rfl ⟨_, by rw [hr], by rw [hr]; exact Bu.nil _, hw6, fun g hg => by cases hg⟩
    · have hr : encR v = (encV 16 v, 0) := by unfold encR; rw [if_neg (by simpa using hc), if_neg hbig]
      refine kgo ?_
      exact WQ.ret2 rfl rfl rfl ⟨_, by rw [hr], by rw [hr]; exact hb, hw6, fun g h => (hg.2 g h).elim (fun h2 => by cases h2) fun h2 => by have := hw5.size; omega⟩
  · have hr : encR v = ([], chk 16 v) := by unfold encR; rw [if_pos hc]
    refine kgo ?_
    exact WQ.ret2 rfl rfl rfl ⟨_, by rw [hr], by rw [hr]; exact Bu.nil _, hw2, fun g hg => by cases hg⟩
end K
end Go.Proofs.YtlamdhekjlnccaaGreatDoor

/- Digests of values (chapters 2, 7): the document's Leaf, Hash. -/
namespace Go.Proofs.YtlamdhekjlnccaaGreatDoor
open Go.RowKit
namespace K
theorem rhash_any {f : Nat} {w : World} {v : V} {cs : List Value} (h : IsV f w v cs) (hlen : chk 16 v = 0 → (encV 16 v).length ≤ 70368744177664) :
    Calls Tryz.prog 62 #[.agg cs.toArray] w (HashPost w v) := by
  have hcs := h.len
  refine enter (args := [.agg cs.toArray]) Tryz.func62 rfl Tryz.ntmps62 rfl ?_
  refine kgo ?_
  refine WL.box rfl rfl rfl rfl rfl fun g w1 hf => ?_
  have hf' : Fresh w g w1 41 cs := hf
  clear hf
  refine WL.alloc (z := .agg (hashC Dig.Z32).toArray) rfl rfl rfl rfl (Dig.zero25) fun g2 w2 hf2 => ?_
  have hf2' : Fresh w1 g2 w2 23 (hashC Dig.Z32) := hf2
  clear hf2
  have hz1 := hf'.size
  have hz2 := hf2'.size
  have he1 := hf'.eq
  have he2 := hf2'.eq
  have hw2 : Below w.heap.size w w2 := hf'.below.trans (hf2'.below.mono (by omega))
  have B1 := hf'.blk.below hf2'.below hf'.blk.lt
  refine kgo ?_
  refine WL.loadMid rfl rfl rfl rfl rfl rfl (VBlk.rangeAt B1) hcs ?_
  refine WL.call rfl rfl rfl rfl rfl Tryz.func63 rfl (by kernel_rfl) (rencode_any (h.below hw2) hlen) ?_
  rintro _ w3 ⟨b, rfl, hb, hk3, -⟩
  refine ⟨_, rfl, ?_⟩
  have hw3 : Below w.heap.size w w3 := hw2.trans (hk3.mono (by omega))
  have B23 := hf2'.blk.below hk3 hf2'.blk.lt
  have hz3 := hk3.size
  by_cases he : (encR v).2 = 0
  · have hR : hashR v = Dig.sumL (0 :: (encR v).1) := by unfold hashR; rw [if_neg (by simpa using he)]
    have hl65 := (encR_ok he).2.1
    rw [← (encR_ok he).2.2] at hl65
    refine kgo ?_
    refine WL.call rfl rfl rfl rfl rfl Tryz.func43 rfl (by kernel_rfl) (rleaf_any hb.sl (by omega)) ?_
    rintro _ w4 ⟨rfl, hk4⟩
    refine ⟨_, rfl, ?_⟩
    have hlen2 : (hashC (Dig.sumL (0 :: (encR v).1))).length = 32 := by rw [List.length_map]; exact Dig.sumL_length _
    have B24 := B23.below hk4 B23.lt
    refine WL.storeRow rfl rfl rfl rfl rfl rfl B24 hlen2 (by rfl) (Ones.int _ _) ?_
    refine kgo ?_
    exact WQ.retCT rfl rfl rfl rfl hlen2 (B24.setRow _) ⟨by rw [hR, he], below_setRow (hw3.trans (hk4.mono (by omega))) (by omega) _⟩
  · have hR : hashR v = Dig.Z32 := by unfold hashR; rw [if_pos he]
    refine kgo ?_
    refine WL.build (hashC Dig.Z32) rfl rfl rfl rfl rfl (by kernel_rfl) ?_
    refine kgo ?_
    refine WL.storeRow rfl rfl rfl rfl rfl rfl B23 (by rfl) (by rfl) (Ones.int _ _) ?_
    refine kgo ?_
    exact WQ.retCT rfl rfl rfl rfl (by rfl) (B23.setRow _) ⟨by rw [hR]; rfl, below_setRow hw3 (by omega) _⟩
end K
end Go.Proofs.YtlamdhekjlnccaaGreatDoor

/- The document's blocks (chapter 11): head, bytes. -/
namespace Go.Proofs.YtlamdhekjlnccaaGreatDoor
open Go.RowKit
namespace K
theorem rhead_any {f : Nat} {w : World} {b : Bk} {cs : List Value} (h : IsB f w b cs) : Calls Tryz.prog 40 #[.agg cs.toArray] w (NewBu w (headL b)) := by
  obtain ⟨se, rfl, hents, hpl, hpb, hi, ht, hx⟩ := h
  refine enter (args := [.agg (bkC b se).toArray]) Tryz.func40 rfl Tryz.ntmps40 rfl ?_
  refine kgo ?_
  refine WL.box rfl rfl rfl rfl rfl fun g w1 hf => ?_
  have hf' : Fresh w g w1 26 (bkC b se) := hf
  clear hf
  have hw1 := hf'.below
  have B1 : BkAt 26 g w1 b se := ⟨hf'.blk, hpl⟩
  clear hf'
  refine kgo ?_
  refine WL.load rfl rfl rfl rfl rfl rfl B1.index ?_
  refine kgo ?_
  refine WL.load rfl rfl rfl rfl rfl rfl B1.time ?_
  refine kgo ?_
  refine WL.load rfl rfl rfl rfl rfl rfl B1.txn ?_
  refine WL.litV [.int .i64 b.index, .int .i64 b.time, .int .i64 b.txn] rfl rfl rfl rfl rfl rfl (by kernel_rfl) fun lg w2 hf2 => ?_
  have hf2' : Fresh w1 lg w2 3 [.int .i64 b.index, .int .i64 b.time, .int .i64 b.txn] := hf2
  clear hf2
  have hw2 := hf2'.below
  have H2 := hf2'.blk
  clear hf2'
  have B2 := B1.below hw2
  have hN : ∃ N : List Int, N = [b.index, b.time, b.txn] := ⟨_, rfl⟩
  obtain ⟨N, hN⟩ := hN
  have hNg : ∀ i, i < 3 → [Value.int .i64 b.index, .int .i64 b.time, .int .i64 b.txn][i]? = some (.int .i64 (N.getD i 0)) ∧ R64 (N.getD i 0) := fun i hi => by
    rw [hN]
    match i, hi with
    | 0, _ => exact ⟨rfl, by assumption⟩
    | 1, _ => exact ⟨rfl, ht⟩
    | 2, _ => exact ⟨rfl, hx⟩
  have hpl2 : ∀ i, i ≤ 3 → ((N.take i).flatMap fun n => uvB n.toNat).length ≤ 10 * i := fun i hi => by
    have h1 := uvB_len b.index.toNat
    have h2 := uvB_len b.time.toNat
    have h3 := uvB_len b.txn.toNat
    rw [hN]
    match i, hi with
    | 0, _ => simp
    | 1, _ => simp; omega
    | 2, _ => simp; omega
    | 3, _ => simp only [List.take_succ_cons, List.take_zero, List.flatMap_cons, List.flatMap_nil, List.length_append, List.length_nil]; omega
  refine kgo ?_
  refine WC.loop (fun i : Nat × Value => [(1, .pointer (some ⟨g, 0, none⟩)), (3, i.2), (4, .slice (some ⟨lg, 0, none⟩) 3 3), (5, .int .i64 i.1)])
    (fun i wx => i.1 ≤ 3 ∧ Bu wx i.2 ((N.take i.1).flatMap fun n => uvB n.toNat) ∧ Apart w2 wx i.2) (fun i => 3 - i.1) (0, .slice none 0 0) ⟨rfl, rfl, rfl, rfl, trivial⟩ ⟨Nat.zero_le _, by simpa using Bu.nil w2, ⟨Below.refl _ _, fun g hg => by cases hg⟩⟩ ?_
  rintro ⟨i, br⟩ wr ⟨hi3, hbr, har⟩
  simp only at hi3 hbr har ⊢
  have hpi := hpl2 i hi3
  by_cases hik : i < 3
  · obtain ⟨hn1, hn2⟩ := hNg i hik
    have hcell : wr.cell? ⟨lg, 0 + i, none⟩ = some (.int .i64 (N.getD i 0)) := VBlk.rangeAt (H2.below har.below H2.lt) i _ hn1
    refine kgo ?_
    refine WL.idx i (0 + i) rfl rfl rfl rfl rfl rfl rfl rfl hik (by omega) ?_
    refine WL.load rfl rfl rfl rfl rfl rfl hcell ?_
    have e := max0 (N.getD i 0) hn2
    have hul := uvB_len (N.getD i 0).toNat
    have hun : (N.getD i 0).toNat < 18446744073709551616 := by omega
    have hNl : N.length = 3 := by rw [hN]; rfl
    have htk : N.take (i + 1) = N.take i ++ [N.getD i 0] := by rw [List.take_add_one]; simp [show i < N.length by omega]
    generalize N.getD i 0 = x at e hul hun htk
    refine kgo ?_
    refine WL.call rfl rfl rfl rfl rfl Tryz.func55 rfl (by kernel_rfl) (by rw [show (bif false then (if (0 : Int) > x then x else 0) else (if x > 0 then x else 0)) = (if x > 0 then x else 0) from rfl, e]; exact ruvarint_any x.toNat hun wr) ?_
    rintro _ w3 ⟨b3, rfl, hb3, hk3, -⟩
    refine ⟨_, rfl, ?_⟩
    refine WL.app rfl rfl rfl rfl rfl (hbr.below hk3) rfl hb3.sl (by omega) fun b4 w4 hb4 hg4 => ?_
    refine kgo ?_
    refine WQ.again (i + 1, b4) ⟨rfl, rfl, rfl, rfl, trivial⟩ ⟨hik, ?_, har.grow (((Grow.refl wr br).below hk3).trans hg4)⟩ (by show 3 - (i + 1) < 3 - i; omega)
    show Bu w4 b4 ((N.take (i + 1)).flatMap _)
    rw [htk, List.flatMap_append]
    simpa using hb4
  · obtain rfl : i = 3 := by omega
    have B3 := B2.below har.below
    refine kgo ?_
    refine WL.all rfl rfl rfl rfl rfl rfl ?_
    refine WL.app rfl rfl rfl rfl rfl hbr rfl (hash_sl B3.prev hpl B3.blk.lt) (by omega) fun b4 w4 hb4 hg4 => ?_
    have a4 := har.grow hg4
    have hw12 := hw1.trans (hw2.mono hw1.size)
    refine kgo ?_
    refine WQ.ret1 rfl rfl ⟨b4, rfl, ?_, hw12.trans (a4.below.mono hw12.size), fun g hg => Nat.le_trans hw12.size (a4.own g hg)⟩
    rw [hN] at hb4
    unfold headL
    simpa [List.append_assoc] using hb4
set_option maxHeartbeats 8000000 in
theorem rbytes11_any {f : Nat} {w : World} {b : Bk} {cs : List Value} (data : Bool) (h : IsB f w b cs) (hck : ∀ e ∈ b.ents, chkE e = 0) (hle : b.ents.length ≤ 200) : Calls Tryz.prog 36 #[.agg cs.toArray, .bool data] w (NewBu w (layB data b)) := by
  have hall := h
  have hhs := BkP.hashes h
  have hcl := h.len
  obtain ⟨se, rfl, hents, hpl, hpb, hr⟩ := h
  obtain ⟨sp, cap, rfl⟩ := hents.slice
  refine enter (args := [.agg (bkC b (.slice sp b.ents.length cap)).toArray, .bool data]) Tryz.func36 rfl Tryz.ntmps36 rfl ?_
  refine kgo ?_
  refine WL.box rfl rfl rfl rfl rfl fun g w1 hf => ?_
  have hf' : Fresh w g w1 26 (bkC b (.slice sp b.ents.length cap)) := hf
  clear hf
  have hw1 := hf'.below
  have B1 : BkAt 26 g w1 b (.slice sp b.ents.length cap) := ⟨hf'.blk, hpl⟩
  clear hf'
  have hhl : (headL b).length ≤ 70 := by
    have h1 := uvB_len b.index.toNat
    have h2 := uvB_len b.time.toNat
    have h3 := uvB_len b.txn.toNat
    unfold headL; simp only [List.length_append]; omega
  have hun := uvB_len b.ents.length
  have eK : IntKind.u64.wrap (b.ents.length : Int) = ((b.ents.length : Nat) : Int) := u64_nat (by omega)
  refine kgo ?_
  refine WC.drawn 6 (fun wx => BkAt 26 g wx b (.slice sp b.ents.length cap)) fun w2 hd2 => ?_
  have hS : BkAt 26 g w2 b (.slice sp b.ents.length cap) := B1.below (hd2.below _)
  have hd12 : Below w1.heap.size w1 w2 := hd2.below _
  have hw2 := hw1.trans (hd12.mono hw1.size)
  refine WD.loadMid 0 [1, 6, 7, 8] rfl (by kernel_rfl) rfl rfl (fun _ _ _ _ _ h => h) rfl rfl rfl rfl (fun wx hx => VBlk.rangeAt hx.blk) hcl hS ?_
  (((first | refine WD.free 2 rfl (by kernel_rfl) rfl rfl (fun _ _ _ _ _ h => h) rfl rfl (.inr hS) ?_ | refine WD.skip 2 rfl (by kernel_rfl) rfl rfl (fun _ _ _ _ _ h => h) rfl (.inr hS) ?_); try (first | ((with_reducible refine WD.topT ?_ ?_); omega) | ((with_reducible refine WD.topF ?_ ?_); omega) | ((with_reducible refine WD.top64 ?_ ?_); omega))))
  refine WD.load 3 [4, 5, 6, 7, 8] rfl (by kernel_rfl) rfl rfl (fun _ _ _ _ _ h => h) rfl rfl rfl rfl (fun wx hx => hx.ents) hS ?_
  (((first | refine WD.free 4 rfl (by kernel_rfl) rfl rfl (fun _ _ _ _ _ h => h) rfl rfl (.inr hS) ?_ | refine WD.skip 4 rfl (by kernel_rfl) rfl rfl (fun _ _ _ _ _ h => h) rfl (.inr hS) ?_); try (first | ((with_reducible refine WD.topT ?_ ?_); omega) | ((with_reducible refine WD.topF ?_ ?_); omega) | ((with_reducible refine WD.top64 ?_ ?_); omega))); ((first | refine WD.free 5 rfl (by kernel_rfl) rfl rfl (fun _ _ _ _ _ h => h) rfl rfl (.inr hS) ?_ | refine WD.skip 5 rfl (by kernel_rfl) rfl rfl (fun _ _ _ _ _ h => h) rfl (.inr hS) ?_); try (first | ((with_reducible refine WD.topT ?_ ?_); omega) | ((with_reducible refine WD.topF ?_ ?_); omega) | ((with_reducible refine WD.top64 ?_ ?_); omega))))
  refine WD.one 1 (by kernel_rfl) rfl ?_
  refine WL.call rfl rfl rfl rfl rfl Tryz.func40 rfl (by kernel_rfl) (rhead_any (IsB.below hw2 hall)) ?_
  rintro _ w3 ⟨b3, rfl, hb3, hk3, ho3⟩
  refine ⟨_, rfl, ?_⟩
  refine WL.nil (WQ.dk (.inr (hS.below hk3)) ?_)
  refine WD.one 6 (by kernel_rfl) rfl ?_
  refine WL.call rfl rfl rfl rfl rfl Tryz.func55 rfl (by kernel_rfl) (by rw [eK]; exact ruvarint_any b.ents.length (by omega) w3) ?_
  rintro _ w4 ⟨b4, rfl, hb4, hk4, -⟩
  refine ⟨_, rfl, ?_⟩
  refine WL.nil (WQ.dk (.inl rfl) ?_)
  refine WD.one 7 (by kernel_rfl) rfl ?_
  refine WL.app rfl rfl rfl rfl rfl (hb3.below hk4) rfl hb4.sl (by omega) fun b5 w5 hb5 hg5 => ?_
  refine WL.nil (WQ.dk (.inl rfl) ?_)
  refine WD.one 8 (by kernel_rfl) rfl ?_
  refine WL.pure rfl rfl rfl rfl ?_
  refine WL.nil (WQ.dk (.inl rfl) ?_)
  refine WD.done (by kernel_rfl) ?_
  have a3 : Apart w1 w3 b3 := ⟨hd12.trans (hk3.mono hd12.size), fun g hg => Nat.le_trans hd12.size (ho3 g hg)⟩
  have a5 : Apart w1 w5 b5 := a3.grow (((Grow.refl w3 b3).below hk4).trans hg5)
  have hM : (headL b ++ uvB b.ents.length).length ≤ 80 := by rw [List.length_append]; omega
  have hML : layB data b = (headL b ++ uvB b.ents.length) ++ b.ents.flatMap fun e => layE e ++ layD data e := by unfold layB; rw [List.append_assoc]
  generalize headL b ++ uvB b.ents.length = M at hb5 hM hML
  refine kgo ?_
  refine WC.loop (fun i : Nat × Value => [(1, .bool data), (2, .pointer (some ⟨g, 0, none⟩)), (5, i.2), (6, .int .i64 i.1)])
    (fun i w' => i.1 ≤ b.ents.length ∧ Bu w' i.2 (M ++ (b.ents.take i.1).flatMap fun e => layE e ++ layD data e) ∧ Apart w1 w' i.2) (fun i => b.ents.length - i.1) (0, b5) ⟨rfl, rfl, rfl, rfl, trivial⟩ ⟨Nat.zero_le _, by simpa using hb5, a5⟩ ?_
  rintro ⟨i, br⟩ wr ⟨hi, hbr, har⟩
  simp only at hi hbr har ⊢
  have Br := B1.below har.below
  have hwr : Below w.heap.size w wr := hw1.trans (har.below.mono hw1.size)
  refine kgo ?_
  refine WL.load rfl rfl rfl rfl rfl rfl Br.ents ?_
  by_cases hik : i < b.ents.length
  · have hlen : (M ++ (b.ents.take i).flatMap fun e => layE e ++ layD data e).length ≤ 80 + 80000 * 200 := by
      have := layXs_len (data := data) (b.ents.take i) fun e he => ⟨hck e (List.mem_of_mem_take he), (hhs e (List.mem_of_mem_take he)).1⟩
      rw [List.length_take] at this
      rw [List.length_append]
      have h2 : min i b.ents.length ≤ 200 := by omega
      have := Nat.mul_le_mul_left 80000 h2
      omega
    have hts := take_snoc b.ents noE hik
    obtain ⟨kb, ko, cap', cs, hse, hkb, hc46, hce, hcr⟩ := hents.at hik
    injection hse with hse1 _ hse2
    subst hse1; subst hse2
    have hmem : b.ents.getD i noE ∈ b.ents := by simp [hik]
    have hce0 := hck _ hmem
    have hh32 := (hhs _ hmem).1
    obtain ⟨hform, hdat⟩ := chkE_ok hce0
    obtain ⟨hkd, -, -, -, htx, -⟩ := formE_rng hform
    generalize b.ents.getD i noE = e at hce hce0 hh32 hform hdat hkd htx hts
    generalize hLL : (M ++ (b.ents.take i).flatMap fun e => layE e ++ layD data e) = L at hbr hlen
    have hle := layE_len e hh32
    have again : ∀ {wx : World} {bx : Value}, Bu wx bx (L ++ (layE e ++ layD data e)) → Apart w1 wx bx → Bu wx bx (M ++ (b.ents.take (i + 1)).flatMap fun e => layE e ++ layD data e) ∧ Apart w1 wx bx := fun {wx bx} h1 h2 => by
      rw [hts, List.flatMap_append, ← List.append_assoc, hLL]
      exact ⟨by simpa using h1, h2⟩
    have hone := hce.one
    have hce' := hce
    obtain ⟨dc, rfl, hv, hdl, -, hh, -⟩ := hce
    refine kgo ?_
    refine WL.load rfl rfl rfl rfl rfl rfl Br.ents ?_
    refine kgo ?_
    refine WL.idx i (ko + i * 46) rfl rfl rfl rfl rfl rfl rfl rfl hik rfl ?_
    refine WL.loadMid rfl rfl rfl rfl rfl rfl (fun j u hu => (hwr.cell (p := ⟨kb, ko + i * 46 + j, none⟩) hkb).trans (hcr j u hu)) hc46 ?_
    refine WL.alloc (z := .agg (enC noE zCells).toArray) rfl rfl rfl rfl (fun _ => by kernel_rfl) fun c w5 hf5 => ?_
    have hf5' : Fresh wr c w5 45 (enC noE zCells) := hf5
    clear hf5
    refine kgo ?_
    refine WL.storeRow rfl rfl rfl rfl rfl rfl hf5'.blk hc46 (by rfl) hone ?_
    have hk6 : Below wr.heap.size wr (w5.setRow c (enC e dc).toArray) := below_setRow hf5'.below (by rw [hf5'.eq]; exact Nat.le_refl _) _
    have C6 : EnAt 45 c (w5.setRow c (enC e dc).toArray) e dc := ⟨hf5'.blk.setRow _, hdl, hh⟩
    have hce5 := hf5'.eq
    generalize w5.setRow c (enC e dc).toArray = w6 at hk6 C6
    clear hf5'
    have hw6 := hwr.trans (hk6.mono hwr.size)
    have hb6 := hbr.below hk6
    have a6 : Apart w1 w6 br := har.grow ((Grow.refl wr br).below hk6)
    refine kgo ?_
    refine WL.loadMid rfl rfl rfl rfl rfl rfl (VBlk.rangeAt C6.blk) hc46 ?_
    refine WL.call rfl rfl rfl rfl rfl Tryz.func44 rfl (by kernel_rfl) (rBytes_any (IsE.below hw6 hce') hform) ?_
    rintro _ w7 ⟨b7, rfl, hb7, hk7, ho7⟩
    refine ⟨_, rfl, ?_⟩
    have C7 := C6.below hk7
    have hcw7 := C7.blk.lt
    refine WL.app rfl rfl rfl rfl rfl (hb6.below hk7) rfl hb7.sl (by omega) fun b8 w8 hb8 hg8 => ?_
    have a8 : Apart w1 w8 b8 := a6.grow (((Grow.refl w6 br).below hk7).trans hg8)
    have hbo : br.ownBlock ≠ some c := fun e => by have := hbr.lt _ e; omega
    have C8 : EnAt 45 c w8 e dc := C7.keep hg8.1 ⟨hcw7, hbo⟩
    have n8 : (L ++ layE e).length ≤ 16100000 := by rw [List.length_append]; omega
    have hw8 : Below w.heap.size w w8 := hw1.trans (a8.below.mono hw1.size)
    refine kgo ?_
    refine WL.load rfl rfl rfl rfl rfl rfl C8.kind ?_
    by_cases k2 : e.kind = 2
    rotate_left
    · have hX : layD data e = [] := by unfold layD; rw [if_neg k2]
      refine kgo ?_
      exact WQ.again (i + 1, b8) ⟨rfl, rfl, rfl, rfl, trivial⟩ ⟨hik, again (by rw [hX, List.append_nil]; exact hb8) a8⟩ (by show b.ents.length - (i + 1) < b.ents.length - i; omega)
    refine kgo ?_
    refine WL.load rfl rfl rfl rfl rfl rfl C8.gone ?_
    by_cases hgd : e.gone = true ∨ data = false
    · have hX : layD data e = [0] := by unfold layD; rw [if_pos k2, if_pos hgd]
      have hcase : e.gone = true ∨ (e.gone = false ∧ data = false) := by
        cases hq : e.gone with
        | true => exact .inl rfl
        | false => exact .inr ⟨rfl, hgd.resolve_left (by rw [hq]; simp)⟩
      rcases hcase with hq | ⟨hq, hdf⟩
      · rw [hq]
        refine kgo ?_
        refine WL.push rfl rfl rfl rfl rfl rfl rfl rfl rfl rfl rfl (fun _ => rfl) rfl hb8 (by simp only [List.length_cons, List.length_nil]; omega) fun b9 w9 hb9 g9 => ?_
        refine kgo ?_
        exact WQ.again (i + 1, b9) ⟨rfl, rfl, rfl, rfl, trivial⟩ ⟨hik, again (by rw [hX, ← List.append_assoc]; exact hb9) (a8.grow g9)⟩ (by show b.ents.length - (i + 1) < b.ents.length - i; omega)
      · rw [hq]
        subst hdf
        refine kgo ?_
        refine WL.push rfl rfl rfl rfl rfl rfl rfl rfl rfl rfl rfl (fun _ => rfl) rfl hb8 (by simp only [List.length_cons, List.length_nil]; omega) fun b9 w9 hb9 g9 => ?_
        refine kgo ?_
        exact WQ.again (i + 1, b9) ⟨rfl, rfl, rfl, rfl, trivial⟩ ⟨hik, again (by rw [hX, ← List.append_assoc]; exact hb9) (a8.grow g9)⟩ (by show b.ents.length - (i + 1) < b.ents.length - i; omega)
    · have hgf : e.gone = false := by cases hq : e.gone with
        | true => exact absurd (.inl hq) hgd
        | false => rfl
      obtain rfl : data = true := by cases data with
        | true => rfl
        | false => exact absurd (.inr rfl) hgd
      have hX : layD true e = 1 :: (uvB (encR e.data).1.length ++ (encR e.data).1) := by unfold layD; rw [if_pos k2, if_neg hgd]
      obtain ⟨he, -⟩ := hdat k2 hgf
      obtain ⟨hc, hl65, hx⟩ := encR_ok he
      have hun := uvB_len (encR e.data).1.length
      rw [← hx] at hl65
      rw [hgf]
      refine kgo ?_
      refine WL.loadMid rfl rfl rfl rfl rfl rfl C8.data hdl ?_
      refine WL.call rfl rfl rfl rfl rfl Tryz.func63 rfl (by kernel_rfl) (rencode_any (hv.below hw8) fun _ => by rw [← hx]; omega) ?_
      rintro _ w9 ⟨b9, rfl, hb9, hk9, ho9⟩
      refine ⟨_, rfl, ?_⟩
      obtain ⟨sp9, cap9, rfl, -⟩ := hb9.form
      have hb89 := hb8.below hk9
      have a9 : Apart w1 w9 b8 := a8.grow ((Grow.refl w8 b8).below hk9)
      refine kgo ?_
      refine WL.push rfl rfl rfl rfl rfl rfl rfl rfl rfl rfl rfl (fun _ => rfl) rfl hb89 (by simp only [List.length_cons, List.length_nil]; omega) fun b10 w10 hb10 g10 => ?_
      have n10 : ((L ++ layE e) ++ [1]).length ≤ 16100001 := by rw [List.length_append]; simp only [List.length_cons, List.length_nil]; omega
      refine kgo ?_
      refine WL.call rfl rfl rfl rfl rfl Tryz.func55 rfl (by kernel_rfl) (by rw [u64_nat (x := (encR e.data).1.length) (by omega)]; exact ruvarint_any (encR e.data).1.length (by omega) w10) ?_
      rintro _ w11 ⟨b11, rfl, hb11, hk11, -⟩
      refine ⟨_, rfl, ?_⟩
      refine WL.app rfl rfl rfl rfl rfl (hb10.below hk11) rfl hb11.sl (by omega) fun b12 w12 hb12 g12 => ?_
      have g11 : Grow w10 b10 w11 b10 := (Grow.refl w10 b10).below hk11
      have hgall : Grow w9 b8 w12 b12 := g10.trans (g11.trans g12)
      have hs12 : Sl .u8 w12 (.slice sp9 (encR e.data).1.length cap9) (encR e.data).1 := hb9.sl.keep hgall.1 fun b o n c hb hlt => ⟨hlt, fun e1 => by
        injection hb with hb1 _ _
        have h1 := ho9 b (by rw [hb1]; rfl)
        have h2 := hb8.lt _ e1
        omega⟩
      have n12 : (((L ++ layE e) ++ [1]) ++ uvB (encR e.data).1.length).length ≤ 16100011 := by rw [List.length_append]; omega
      refine kgo ?_
      refine WL.app rfl rfl rfl rfl rfl hb12 rfl hs12 (by omega) fun b13 w13 hb13 g13 => ?_
      refine kgo ?_
      exact WQ.again (i + 1, b13) ⟨rfl, rfl, rfl, rfl, trivial⟩ ⟨hik, again (by rw [hX]; simpa [List.append_assoc] using hb13) (a9.grow (hgall.trans g13))⟩ (by show b.ents.length - (i + 1) < b.ents.length - i; omega)
  · obtain rfl : i = b.ents.length := by omega
    rw [List.take_length] at hbr
    refine kgo ?_
    refine WQ.ret1 rfl rfl ⟨br, rfl, ?_, hwr, fun g hg => Nat.le_trans hw1.size (har.own g hg)⟩
    rw [hML]
    exact hbr
end K
end Go.Proofs.YtlamdhekjlnccaaGreatDoor

/- The document's blocks (chapter 11): May, Check. -/
namespace Go.Proofs.YtlamdhekjlnccaaGreatDoor
open Go.RowKit
namespace K
theorem rmay_any {f : Nat} {w : World} {e : En} {cs : List Value} (h : IsE f w e cs) (hlen : chk 16 e.data = 0 → (encV 16 e.data).length ≤ 70368744177664) :
    Calls Tryz.prog 35 #[.agg cs.toArray] w fun r w' => r = .returned (.int .i64 (chkE e)) ∧ Below w.heap.size w w' := by
  obtain ⟨dc, rfl, hv, hdl, hone, hh, hby, htx, hr⟩ := h
  have hall : EnP (IsV f w) e (enC e dc) := ⟨dc, rfl, hv, hdl, hone, hh, hby, htx, hr⟩
  refine enter (args := [.agg (enC e dc).toArray]) Tryz.func35 rfl Tryz.ntmps35 rfl ?_
  refine kgo ?_
  refine WL.box rfl rfl rfl rfl rfl fun g w1 hf => ?_
  have hf' : Fresh w g w1 45 (enC e dc) := hf
  clear hf
  have B1 : EnAt _ g w1 e dc := ⟨hf'.blk, hdl, hh⟩
  have hw1 := hf'.below
  clear hf'
  refine kgo ?_
  refine WL.loadMid rfl rfl rfl rfl rfl rfl (VBlk.rangeAt B1.blk) B1.len ?_
  refine WL.call rfl rfl rfl rfl rfl Tryz.func61 rfl (by kernel_rfl) (rform_any (IsE.below hw1 hall)) ?_
  rintro _ w2 ⟨⟨b, rfl, hb⟩, hk2⟩
  refine ⟨_, rfl, ?_⟩
  have hw2 := hw1.trans (hk2.mono hw1.size)
  have B2 := B1.below hk2
  cases b with
  | false =>
    have hf : ¬ formE e := fun h => by have := hb.2 h; cases this
    refine kgo ?_
    exact WQ.ret1 rfl rfl ⟨by unfold chkE; rw [if_neg hf], hw2⟩
  | true =>
    have hf := hb.1 rfl
    refine kgo ?_
    refine WL.load rfl rfl rfl rfl rfl rfl B2.kind ?_
    by_cases k2 : e.kind = 2
    rotate_left
    · refine kgo ?_
      exact WQ.ret1 rfl rfl ⟨by unfold chkE; rw [if_pos hf, if_pos (.inl k2)], hw2⟩
    refine kgo ?_
    refine WL.load rfl rfl rfl rfl rfl rfl B2.gone ?_
    cases hg : e.gone with
    | true =>
      refine kgo ?_
      exact WQ.ret1 rfl rfl ⟨by unfold chkE; rw [if_pos hf, if_pos (.inr hg)], hw2⟩
    | false =>
      have hc0 : chkE e = if (encR e.data).2 ≠ 0 then (encR e.data).2 else if hashR e.data = e.hash then 0 else 18 := by unfold chkE; rw [if_pos hf, if_neg (by simp [k2, hg])]
      refine kgo ?_
      refine WL.loadMid rfl rfl rfl rfl rfl rfl B2.data hdl ?_
      refine WL.call rfl rfl rfl rfl rfl Tryz.func62 rfl (by kernel_rfl) (rhash_any (hv.below hw2) hlen) ?_
      rintro _ w3 ⟨rfl, hk3⟩
      refine ⟨_, rfl, ?_⟩
      have hw3 := hw2.trans (hk3.mono hw2.size)
      have B3 := B2.below hk3
      have hhl : (hashC (hashR e.data)).length = 32 := by rw [List.length_map]; exact hashR_len _
      refine kgo ?_
      refine WL.alloc (z := .agg (hashC Dig.Z32).toArray) rfl rfl rfl rfl (Dig.zero25) fun c w4 hf4 => ?_
      have hf4' : Fresh w3 c w4 23 (hashC Dig.Z32) := hf4
      clear hf4
      refine WL.storeRow rfl rfl rfl rfl rfl rfl hf4'.blk hhl (by rfl) (Ones.int _ _) ?_
      have hk5 : Below w3.heap.size w3 (w4.setRow c (hashC (hashR e.data)).toArray) := below_setRow hf4'.below (by rw [hf4'.eq]; exact Nat.le_refl _) _
      have H5 : VBlk 23 (w4.setRow c (hashC (hashR e.data)).toArray) c (hashC (hashR e.data)) := hf4'.blk.setRow _
      generalize w4.setRow c (hashC (hashR e.data)).toArray = w5 at hk5 H5
      have hw5 := hw3.trans (hk5.mono hw3.size)
      have B5 := B3.below hk5
      clear hf4'
      by_cases he : (encR e.data).2 = 0
      rotate_left
      · refine kgo ?_
        exact WQ.ret1 rfl rfl ⟨by rw [hc0, if_pos he]; rfl, hw5⟩
      rw [if_neg (by simpa using he)] at hc0
      refine kgo ?_
      refine WL.loadMid rfl rfl rfl rfl rfl rfl (VBlk.rangeAt H5) hhl ?_
      refine kgo ?_
      refine WL.loadMid rfl rfl rfl rfl rfl rfl B5.hash (by rw [List.length_map]; exact hh) ?_
      refine WL.neqH rfl rfl rfl rfl rfl rfl (hashR_len _) hh ?_
      by_cases hq : hashR e.data = e.hash
      · refine WL.as 27 (.bool false) rfl (congrArg Value.bool (by simp [hq])) ?_
        refine kgo ?_
        exact WQ.ret1 rfl rfl ⟨by rw [hc0, if_pos hq], hw5⟩
      · refine WL.as 27 (.bool true) rfl (congrArg Value.bool (by simp [hq])) ?_
        refine kgo ?_
        exact WQ.ret1 rfl rfl ⟨by rw [hc0, if_neg hq], hw5⟩
set_option maxHeartbeats 4000000 in
theorem rcheck11_any {f : Nat} {w : World} {b : Bk} {cs : List Value} (h : IsB f w b cs) (hlen : ∀ e ∈ b.ents, chk 16 e.data = 0 → (encV 16 e.data).length ≤ 70368744177664) : Calls Tryz.prog 10 #[.agg cs.toArray] w fun r w' => r = .returned (.int .i64 (chkB b)) ∧ Below w.heap.size w w' := by
  have hall := h
  have hcl := h.len
  obtain ⟨se, rfl, hents, hpl, hpb, hi, ht, hx⟩ := h
  obtain ⟨sp, cap, rfl⟩ := hents.slice
  refine enter (args := [.agg (bkC b (.slice sp b.ents.length cap)).toArray]) Tryz.func10 rfl Tryz.ntmps10 rfl ?_
  refine kgo ?_
  refine WL.box rfl rfl rfl rfl rfl fun g w1 hf => ?_
  have hf' : Fresh w g w1 26 (bkC b (.slice sp b.ents.length cap)) := hf
  clear hf
  have hw1 := hf'.below
  have B1 : BkAt 26 g w1 b (.slice sp b.ents.length cap) := ⟨hf'.blk, hpl⟩
  clear hf'
  have bad : ¬ ((0 ≤ b.index ∧ b.index ≤ 2147483648) ∧ (0 ≤ b.time ∧ b.time ≤ 9007199254740992) ∧ (0 ≤ b.txn ∧ b.txn ≤ 9007199254740992) ∧ (1 ≤ b.ents.length ∧ b.ents.length ≤ 200)) → Ending.returned (Value.int .i64 1) = .returned (.int .i64 (chkB b)) := fun h => by unfold chkB; rw [if_neg h]
  refine kgo ?_
  refine WL.load rfl rfl rfl rfl rfl rfl B1.index ?_
  refine WL.call rfl rfl rfl rfl rfl Tryz.func34 rfl (by kernel_rfl) (rin_any _ _ _ _) ?_
  rintro _ w1 ⟨rfl, rfl⟩
  refine ⟨_, rfl, ?_⟩
  by_cases c1 : 0 ≤ b.index ∧ b.index ≤ 2147483648
  rotate_left
  · refine WL.as 7 (.bool false) rfl (congrArg Value.bool (decide_eq_false c1)) ?_
    refine kgo ?_
    exact WQ.ret1 rfl rfl ⟨bad fun h => c1 h.1, hw1⟩
  refine WL.as 7 (.bool true) rfl (congrArg Value.bool (decide_eq_true c1)) ?_
  refine kgo ?_
  refine WL.load rfl rfl rfl rfl rfl rfl B1.time ?_
  refine WL.on rfl rfl ?_
  refine WL.call rfl rfl rfl rfl rfl Tryz.func34 rfl (by kernel_rfl) (rin_any _ _ _ _) ?_
  rintro _ w1 ⟨rfl, rfl⟩
  refine ⟨_, rfl, ?_⟩
  by_cases c2 : 0 ≤ b.time ∧ b.time ≤ 9007199254740992
  rotate_left
  · refine WL.as 12 (.bool false) rfl (congrArg Value.bool (decide_eq_false c2)) ?_
    refine kgo ?_
    exact WQ.ret1 rfl rfl ⟨bad fun h => c2 h.2.1, hw1⟩
  refine WL.as 12 (.bool true) rfl (congrArg Value.bool (decide_eq_true c2)) ?_
  refine kgo ?_
  refine WL.load rfl rfl rfl rfl rfl rfl B1.txn ?_
  refine WL.on rfl rfl ?_
  refine WL.call rfl rfl rfl rfl rfl Tryz.func34 rfl (by kernel_rfl) (rin_any _ _ _ _) ?_
  rintro _ w1 ⟨rfl, rfl⟩
  refine ⟨_, rfl, ?_⟩
  by_cases c3 : 0 ≤ b.txn ∧ b.txn ≤ 9007199254740992
  rotate_left
  · refine WL.as 18 (.bool false) rfl (congrArg Value.bool (decide_eq_false c3)) ?_
    refine kgo ?_
    exact WQ.ret1 rfl rfl ⟨bad fun h => c3 h.2.2.1, hw1⟩
  refine WL.as 18 (.bool true) rfl (congrArg Value.bool (decide_eq_true c3)) ?_
  refine kgo ?_
  refine WL.load rfl rfl rfl rfl rfl rfl B1.ents ?_
  refine kgo ?_
  refine WL.call rfl rfl rfl rfl rfl Tryz.func34 rfl (by kernel_rfl) (rin_any _ _ _ _) ?_
  rintro _ w1 ⟨rfl, rfl⟩
  refine ⟨_, rfl, ?_⟩
  by_cases c4 : (1 : Int) ≤ (b.ents.length : Int) ∧ (b.ents.length : Int) ≤ 200
  rotate_left
  · refine WL.as 25 (.bool false) rfl (congrArg Value.bool (decide_eq_false c4)) ?_
    refine kgo ?_
    exact WQ.ret1 rfl rfl ⟨bad fun h => c4 (by omega), hw1⟩
  refine WL.as 25 (.bool true) rfl (congrArg Value.bool (decide_eq_true c4)) ?_
  have hgood : chkB b = if firstBad (b.ents.map chkE) ≠ 0 then firstBad (b.ents.map chkE) else if 262144 < (layB true b).length then 5 else 0 := by unfold chkB; rw [if_pos ⟨c1, c2, c3, by omega⟩]
  have hmap : ∀ j, j < b.ents.length → (b.ents.map chkE).getD j 0 = chkE (b.ents.getD j noE) := fun j hj => by simp [hj]
  refine kgo ?_
  refine WC.loop (fun i : Nat => [(1, .pointer (some ⟨g, 0, none⟩)), (3, .int .i64 i)])
    (fun i w' => i ≤ b.ents.length ∧ Below w1.heap.size w1 w' ∧ ∀ j, j < i → chkE (b.ents.getD j noE) = 0) (fun i => b.ents.length - i) 0 ⟨rfl, rfl, trivial⟩ ⟨Nat.zero_le _, Below.refl _ _, fun j hj => by omega⟩ ?_
  rintro i wr ⟨hi, hbr, hz⟩
  have hwr : Below w.heap.size w wr := hw1.trans (hbr.mono hw1.size)
  have Br := B1.below hbr
  refine kgo ?_
  refine WL.load rfl rfl rfl rfl rfl rfl Br.ents ?_
  by_cases hik : i < b.ents.length
  · obtain ⟨kb, ko, cap', cs, hse, hkb, hc46, hce, hcr⟩ := hents.at hik
    injection hse with hse1 _ hse2
    subst hse1; subst hse2
    have hmem : b.ents.getD i noE ∈ b.ents := by simp [hik]
    have hl := hlen _ hmem
    have hmi := hmap i hik
    refine kgo ?_
    refine WL.load rfl rfl rfl rfl rfl rfl Br.ents ?_
    refine kgo ?_
    refine WL.idx i (ko + i * 46) rfl rfl rfl rfl rfl rfl rfl rfl hik rfl ?_
    refine WL.loadMid rfl rfl rfl rfl rfl rfl (fun j u hu => (hwr.cell (p := ⟨kb, ko + i * 46 + j, none⟩) hkb).trans (hcr j u hu)) hc46 ?_
    refine WL.call rfl rfl rfl rfl rfl Tryz.func35 rfl (by kernel_rfl) (rmay_any (IsE.below hwr hce) hl) ?_
    rintro _ w7 ⟨rfl, hk7⟩
    refine ⟨_, rfl, ?_⟩
    have hw7 := hwr.trans (hk7.mono hwr.size)
    by_cases hc : chkE (b.ents.getD i noE) = 0
    · refine kgo ?_
      refine WQ.again (i + 1) ⟨rfl, rfl, trivial⟩ ⟨hik, hbr.trans (hk7.mono hbr.size), fun j hj => ?_⟩ (by show b.ents.length - (i + 1) < b.ents.length - i; omega)
      rcases Nat.lt_or_ge j i with h | h
      · exact hz j h
      · obtain rfl : j = i := by omega
        exact hc
    · have hfb : firstBad (b.ents.map chkE) = chkE (b.ents.getD i noE) := by
        rw [← hmi]
        exact firstBad_take (by simpa using hik) (fun j hj => by rw [hmap j (by omega)]; exact hz j hj) (by rw [hmi]; exact hc)
      refine kgo ?_
      exact WQ.ret1 rfl rfl ⟨by rw [hgood, hfb, if_pos hc], hw7⟩
  · obtain rfl : i = b.ents.length := by omega
    have hfb : firstBad (b.ents.map chkE) = 0 := firstBad_all fun j hj => by
      rw [List.length_map] at hj
      rw [hmap j hj]; exact hz j hj
    have hck : ∀ e ∈ b.ents, chkE e = 0 := fun e he => firstBad_zero.1 hfb _ (List.mem_map_of_mem he)
    rw [if_neg (by simpa using hfb)] at hgood
    refine kgo ?_
    refine WL.loadMid rfl rfl rfl rfl rfl rfl (VBlk.rangeAt Br.blk) hcl ?_
    refine WL.call rfl rfl rfl rfl rfl Tryz.func36 rfl (by kernel_rfl) (rbytes11_any true (IsB.below hwr hall) hck (by omega)) ?_
    rintro _ w8 ⟨b8, rfl, hb8, hk8, -⟩
    refine ⟨_, rfl, ?_⟩
    obtain ⟨sp8, cap8, rfl, -⟩ := hb8.form
    have hw8 := hwr.trans (hk8.mono hwr.size)
    by_cases hbig : 262144 < (layB true b).length
    · refine kgo ?_
      exact WQ.ret1 rfl rfl ⟨by rw [hgood, if_pos hbig], hw8⟩
    · refine kgo ?_
      exact WQ.ret1 rfl rfl ⟨by rw [hgood, if_neg hbig], hw8⟩
end K
end Go.Proofs.YtlamdhekjlnccaaGreatDoor

/- Blocks (chapter 11): the document's EntryHash, Head, Hash. -/
namespace Go.Proofs.YtlamdhekjlnccaaGreatDoor
open Go.RowKit
namespace K
theorem rentryHash_any {f : Nat} {w : World} {e : En} {cs : List Value} (h : IsE f w e cs) (hlen : chk 16 e.data = 0 → (encV 16 e.data).length ≤ 70368744177664) :
    Calls Tryz.prog 14 #[.agg cs.toArray] w fun r w' => r = .returned (.tuple #[.agg (hashC (entV e)).toArray, .int .i64 (chkE e)]) ∧ Below w.heap.size w w' := by
  have h46 := h.len
  refine enter (args := [.agg cs.toArray]) Tryz.func14 rfl Tryz.ntmps14 rfl ?_
  refine kgo ?_
  refine WL.box rfl rfl rfl rfl rfl fun g w1 hf => ?_
  have hf' : Fresh w g w1 45 cs := hf
  clear hf
  refine WL.alloc (z := .agg (hashC Dig.Z32).toArray) rfl rfl rfl rfl (Dig.zero25) fun c w2 hf2 => ?_
  have hf2' : Fresh w1 c w2 23 (hashC Dig.Z32) := hf2
  clear hf2
  have he1 := hf'.eq
  have he2 := hf2'.eq
  have hz1 := hf'.size
  have hz2 := hf2'.size
  have hw2 : Below w.heap.size w w2 := hf'.below.trans (hf2'.below.mono hf'.below.size)
  have A2 := hf'.blk.below hf2'.below hf'.blk.lt
  have C2 := hf2'.blk
  clear hf' hf2'
  refine kgo ?_
  refine WL.loadMid rfl rfl rfl rfl rfl rfl (VBlk.rangeAt A2) h46 ?_
  refine WL.call rfl rfl rfl rfl rfl Tryz.func35 rfl (by kernel_rfl) (rmay_any (IsE.below hw2 h) hlen) ?_
  rintro _ w3 ⟨rfl, hk3⟩
  refine ⟨_, rfl, ?_⟩
  have hw3 := hw2.trans (hk3.mono hw2.size)
  have A3 := A2.below hk3 A2.lt
  have C3 := C2.below hk3 C2.lt
  by_cases hc : chkE e = 0
  rotate_left
  · have hv : entV e = Dig.Z32 := by unfold entV; rw [if_pos hc]
    refine kgo ?_
    refine WL.build (hashC Dig.Z32) rfl rfl rfl rfl rfl (by kernel_rfl) ?_
    refine kgo ?_
    refine WL.storeRow rfl rfl rfl rfl rfl rfl C3 (by rfl) (by rfl) (Ones.int _ _) ?_
    refine kgo ?_
    exact WQ.retCT rfl rfl rfl rfl (by rfl) (C3.setRow _) ⟨by rw [hv], Keep.below (Keep.setRow (Keep.of_below hw3) (fun hk => by omega) _)⟩
  · have hv : entV e = leafH e := by unfold entV; rw [if_neg (by simpa using hc)]
    obtain ⟨hform, -⟩ := chkE_ok hc
    obtain ⟨hkd, -, -, -, htx, -⟩ := formE_rng hform
    have hh : e.hash.length = 32 := by obtain ⟨_, -, -, -, -, hl, -⟩ := h; exact hl
    have hle := layE_len e hh
    refine kgo ?_
    refine WL.loadMid rfl rfl rfl rfl rfl rfl (VBlk.rangeAt A3) h46 ?_
    refine WL.call rfl rfl rfl rfl rfl Tryz.func44 rfl (by kernel_rfl) (rBytes_any (IsE.below hw3 h) hform) ?_
    rintro _ w4 ⟨b4, rfl, hb4, hk4, -⟩
    refine ⟨_, rfl, ?_⟩
    refine WL.call rfl rfl rfl rfl rfl Tryz.func43 rfl (by kernel_rfl) (rleaf_any hb4.sl (by omega)) ?_
    rintro _ w5 ⟨rfl, hk5⟩
    refine ⟨_, rfl, ?_⟩
    have hk35 : Below w3.heap.size w3 w5 := hk4.trans (hk5.mono hk4.size)
    have C5 := C3.below hk35 C3.lt
    have hlen2 : (hashC (leafH e)).length = 32 := by rw [List.length_map]; exact leafH_len e
    refine WL.storeRow rfl rfl rfl rfl rfl rfl C5 hlen2 (by rfl) (Ones.int _ _) ?_
    refine kgo ?_
    exact WQ.retCT rfl rfl rfl rfl hlen2 (C5.setRow _) ⟨by rw [hv, hc], Keep.below (Keep.setRow (Keep.of_below (hw3.trans (hk35.mono hw3.size))) (fun hk => by omega) _)⟩
theorem rheadTop_any {f : Nat} {w : World} {b : Bk} {cs : List Value} (h : IsB f w b cs) :
    Calls Tryz.prog 12 #[.agg cs.toArray] w fun r w' => r = .returned (.agg (hashC (headH b)).toArray) ∧ Below w.heap.size w w' := by
  have h36 := h.len
  have hpl : b.prev.length = 32 := by obtain ⟨_, -, -, hp, -⟩ := h; exact hp
  refine enter (args := [.agg cs.toArray]) Tryz.func12 rfl Tryz.ntmps12 rfl ?_
  refine kgo ?_
  refine WL.box rfl rfl rfl rfl rfl fun g w1 hf => ?_
  have hf' : Fresh w g w1 26 cs := hf
  clear hf
  refine WL.alloc (z := .agg (hashC Dig.Z32).toArray) rfl rfl rfl rfl (Dig.zero25) fun c w2 hf2 => ?_
  have hf2' : Fresh w1 c w2 23 (hashC Dig.Z32) := hf2
  clear hf2
  have he1 := hf'.eq
  have he2 := hf2'.eq
  have hz1 := hf'.size
  have hz2 := hf2'.size
  have hw2 : Below w.heap.size w w2 := hf'.below.trans (hf2'.below.mono hf'.below.size)
  have A2 := hf'.blk.below hf2'.below hf'.blk.lt
  have C2 := hf2'.blk
  clear hf' hf2'
  refine kgo ?_
  refine WL.loadMid rfl rfl rfl rfl rfl rfl (VBlk.rangeAt A2) h36 ?_
  refine WL.call rfl rfl rfl rfl rfl Tryz.func40 rfl (by kernel_rfl) (rhead_any (IsB.below hw2 h)) ?_
  rintro _ w3 ⟨b3, rfl, hb3, hk3, -⟩
  refine ⟨_, rfl, ?_⟩
  have hhl : (headL b).length ≤ 70 := by
    have h1 := uvB_len b.index.toNat
    have h2 := uvB_len b.time.toNat
    have h3 := uvB_len b.txn.toNat
    unfold headL; simp only [List.length_append]; omega
  refine WL.call rfl rfl rfl rfl rfl Tryz.func39 rfl (by kernel_rfl) (Dig.refSum_s b3 _ w3 hb3.sl (by omega)) ?_
  rintro _ w4 ⟨rfl, hk4⟩
  refine ⟨_, rfl, ?_⟩
  have hk24 : Below w2.heap.size w2 w4 := hk3.trans (hk4.mono hk3.size)
  have C4 := C2.below hk24 C2.lt
  have hlen : (hashC (Dig.sumL (headL b))).length = 32 := by rw [List.length_map]; exact Dig.sumL_length _
  refine WL.storeRow rfl rfl rfl rfl rfl rfl C4 hlen (by rfl) (Ones.int _ _) ?_
  refine kgo ?_
  exact WQ.retC rfl rfl rfl hlen (C4.setRow _) ⟨rfl, Keep.below (Keep.setRow (Keep.of_below (hw2.trans (hk24.mono hw2.size))) (fun hk => by omega) _)⟩
set_option maxHeartbeats 4000000 in
theorem rhash11_any {f : Nat} {w : World} {b : Bk} {cs : List Value} (h : IsB f w b cs) (hlen : ∀ e ∈ b.ents, chk 16 e.data = 0 → (encV 16 e.data).length ≤ 70368744177664) :
    Calls Tryz.prog 8 #[.agg cs.toArray] w fun r w' => r = .returned (.tuple #[.agg (hashC (hashBV b)).toArray, .int .i64 (chkB b)]) ∧ Below w.heap.size w w' := by
  have hall := h
  have hcl := h.len
  obtain ⟨se, rfl, hents, hpl, hpb, hr⟩ := h
  obtain ⟨sp, cap, rfl⟩ := hents.slice
  refine enter (args := [.agg (bkC b (.slice sp b.ents.length cap)).toArray]) Tryz.func8 rfl Tryz.ntmps8 rfl ?_
  refine kgo ?_
  refine WL.box rfl rfl rfl rfl rfl fun g w1 hf => ?_
  have hf' : Fresh w g w1 26 (bkC b (.slice sp b.ents.length cap)) := hf
  clear hf
  refine WL.alloc (z := .agg (hashC Dig.Z32).toArray) rfl rfl rfl rfl (Dig.zero25) fun rg w2 hf2 => ?_
  have hf2' : Fresh w1 rg w2 23 (hashC Dig.Z32) := hf2
  clear hf2
  have he1 := hf'.eq
  have he2 := hf2'.eq
  have hz1 := hf'.size
  have hz2 := hf2'.size
  have hw2 : Below w.heap.size w w2 := hf'.below.trans (hf2'.below.mono hf'.below.size)
  have B2 : BkAt 26 g w2 b (.slice sp b.ents.length cap) := ⟨hf'.blk.below hf2'.below hf'.blk.lt, hpl⟩
  have R2 := hf2'.blk
  clear hf' hf2'
  refine kgo ?_
  refine WL.loadMid rfl rfl rfl rfl rfl rfl (VBlk.rangeAt B2.blk) hcl ?_
  refine WL.call rfl rfl rfl rfl rfl Tryz.func10 rfl (by kernel_rfl) (rcheck11_any (IsB.below hw2 hall) hlen) ?_
  rintro _ w3 ⟨rfl, hk3⟩
  refine ⟨_, rfl, ?_⟩
  have hw3 := hw2.trans (hk3.mono hw2.size)
  have B3 := B2.below hk3
  have R3 := R2.below hk3 R2.lt
  by_cases hc : chkB b = 0
  rotate_left
  · have hv : hashBV b = Dig.Z32 := by unfold hashBV; rw [if_pos hc]
    refine kgo ?_
    refine WL.build (hashC Dig.Z32) rfl rfl rfl rfl rfl (by kernel_rfl) ?_
    refine kgo ?_
    refine WL.storeRow rfl rfl rfl rfl rfl rfl R3 (by rfl) (by rfl) (Ones.int _ _) ?_
    refine kgo ?_
    exact WQ.retCT rfl rfl rfl rfl (by rfl) (R3.setRow _) ⟨by rw [hv], Keep.below (Keep.setRow (Keep.of_below hw3) (fun hk => by omega) _)⟩
  have hv : hashBV b = hashH b := by unfold hashBV; rw [if_neg (by simpa using hc)]
  obtain ⟨⟨-, -, -, hl1, hl2⟩, hck, -⟩ := chkB_ok hc
  have hrl : (rootH b).length = 32 := Mk.rt_len (okh_leaves b.ents)
  refine kgo ?_
  refine WC.drawn 8 (fun wx => BkAt 26 g wx b (.slice sp b.ents.length cap)) fun w4 hd4 => ?_
  have k4 : Below w3.heap.size w3 w4 := hd4.below _
  have hS : BkAt 26 g w4 b (.slice sp b.ents.length cap) := B3.below k4
  refine WD.loadMid 0 [1, 3, 4, 8, 9, 10, 11] rfl (by kernel_rfl) rfl rfl (fun _ _ _ _ _ h => h) rfl rfl rfl rfl (fun wx hx => VBlk.rangeAt hx.blk) hcl hS ?_
  refine WD.loadMid 2 [3, 4, 8, 9, 10, 11] rfl (by kernel_rfl) rfl rfl (fun _ _ _ _ _ h => h) rfl rfl rfl rfl (fun wx hx => VBlk.rangeAt hx.blk) hcl hS ?_
  (((first | refine WD.free 5 rfl (by kernel_rfl) rfl rfl (fun _ _ _ _ _ h => h) rfl rfl (.inr hS) ?_ | refine WD.skip 5 rfl (by kernel_rfl) rfl rfl (fun _ _ _ _ _ h => h) rfl (.inr hS) ?_); try (first | ((with_reducible refine WD.topT ?_ ?_); omega) | ((with_reducible refine WD.topF ?_ ?_); omega) | ((with_reducible refine WD.top64 ?_ ?_); omega))))
  refine WD.load 6 [7, 8, 9, 10, 11] rfl (by kernel_rfl) rfl rfl (fun _ _ _ _ _ h => h) rfl rfl rfl rfl (fun wx hx => hx.ents) hS ?_
  (((first | refine WD.free 7 rfl (by kernel_rfl) rfl rfl (fun _ _ _ _ _ h => h) rfl rfl (.inr hS) ?_ | refine WD.skip 7 rfl (by kernel_rfl) rfl rfl (fun _ _ _ _ _ h => h) rfl (.inr hS) ?_); try (first | ((with_reducible refine WD.topT ?_ ?_); omega) | ((with_reducible refine WD.topF ?_ ?_); omega) | ((with_reducible refine WD.top64 ?_ ?_); omega))))
  refine WD.one 1 (by kernel_rfl) rfl ?_
  refine WL.call rfl rfl rfl rfl rfl Tryz.func12 rfl (by kernel_rfl) (rheadTop_any (IsB.below (hw3.trans (k4.mono hw3.size)) hall)) ?_
  rintro _ w5 ⟨rfl, hk5⟩
  refine ⟨_, rfl, ?_⟩
  have k5 := k4.trans (hk5.mono k4.size)
  have hS := hS.below hk5
  refine WL.nil (WQ.dk (.inr hS) ?_)
  refine WD.one 3 (by kernel_rfl) rfl ?_
  refine WL.call rfl rfl rfl rfl rfl Tryz.func30 rfl (by kernel_rfl) (rleaves_any (IsB.below (hw3.trans (k5.mono hw3.size)) hall) hck hl2) ?_
  rintro _ w6 ⟨hk6, lv, rfl, hls⟩
  refine ⟨_, rfl, ?_⟩
  have k6 := k5.trans (hk6.mono k5.size)
  have hS := hS.below hk6
  refine WL.nil (WQ.dk (.inr hS) ?_)
  refine WD.one 4 (by kernel_rfl) rfl ?_
  refine WL.call rfl rfl rfl rfl rfl Tryz.func29 rfl (by kernel_rfl) (Mk.refRoot_any (b.ents.map leafH).length rfl hls (by rw [List.length_map]; omega)) ?_
  rintro _ w7 ⟨rfl, hk7⟩
  refine ⟨_, rfl, ?_⟩
  have k7 := k6.trans (hk7.mono k6.size)
  have hS := hS.below hk7
  refine WL.nil (WQ.dk (.inr hS) ?_)
  refine WD.one 8 (by kernel_rfl) rfl ?_
  refine WL.call rfl rfl rfl rfl rfl Tryz.func28 rfl (by kernel_rfl) (rentriesOf_any (la := rootH b) hrl (n := b.ents.length) (by omega)) ?_
  rintro _ w8 ⟨rfl, hk8⟩
  refine ⟨_, rfl, ?_⟩
  have k8 := k7.trans (hk8.mono k7.size)
  refine WL.nil (WQ.dk (.inl rfl) ?_)
  have hnode : ∀ {wx : World}, Calls Tryz.prog 27 #[.agg (hashC (headH b)).toArray, .agg (hashC (chainP (rootH b) (uvB b.ents.length))).toArray] wx fun e w' => e = .returned (.agg (hashC (joinP (headH b) (chainP (rootH b) (uvB b.ents.length)))).toArray) ∧ Below wx.heap.size wx w' := fun {wx} => Dig.refNode_any _ _ wx (Dig.sumL_length _) (chainP_len _ _)
  refine WD.one 9 (by kernel_rfl) rfl ?_
  refine WL.call rfl rfl rfl rfl rfl Tryz.func27 rfl (by kernel_rfl) hnode ?_
  rintro _ w9 ⟨rfl, hk9⟩
  refine ⟨_, rfl, ?_⟩
  have k9 := k8.trans (hk9.mono k8.size)
  refine WL.nil (WQ.dk (.inl rfl) ?_)
  have R9 := R3.below k9 R3.lt
  have hw9 := hw3.trans (k9.mono hw3.size)
  have hJ : joinP (headH b) (chainP (rootH b) (uvB b.ents.length)) = hashBV b := by rw [hv]; unfold hashH; rfl
  rw [hJ]
  have hbl : (hashC (hashBV b)).length = 32 := by rw [List.length_map]; exact hashBV_len b
  refine WD.one 10 (by kernel_rfl) rfl ?_
  refine WL.storeRow rfl rfl rfl rfl rfl rfl R9 hbl (by rfl) (Ones.int _ _) ?_
  refine WL.nil (WQ.dk (.inl rfl) ?_)
  refine WD.one 11 (by kernel_rfl) rfl ?_
  refine WL.pure rfl rfl rfl rfl ?_
  refine WL.nil (WQ.dk (.inl rfl) ?_)
  refine WD.done (by kernel_rfl) ?_
  refine kgo ?_
  exact WQ.retCT rfl rfl rfl rfl hbl (R9.setRow _) ⟨by rw [hc], Keep.below (Keep.setRow (Keep.of_below hw9) (fun hk => by omega) _)⟩
end K
end Go.Proofs.YtlamdhekjlnccaaGreatDoor

/- The document's Clone (chapter 5). -/
namespace Go.Proofs.YtlamdhekjlnccaaGreatDoor
open Go.RowKit
namespace K
section
variable {n : Nat} {Q : Exit → Act → World → Prop} {l : Env} {w w' : World} {ops : Array Oper} {o : Oper} {rest : List Oper} {d : Nat}
/-- append of nothing. -/
theorem WL.app0 {s x : Operand} {t e sz : Nat} {sp xp : Option Addr} {m cap xc : Nat} (hg : o.guard = none) (hd : o.dst = some d) (hn : Nat.blt d n = true)
    (ho : o.op = .call { callee := .builtin .append, args := #[s, x], argTypes := #[t, t] }) (ht : tyOf ty t = some (.slice e sz)) (hs : evl l s = some (.slice sp m cap)) (hc : m ≤ cap) (hx : evl l x = some (.slice xp 0 xc))
    (h : WL n ops Q rest ((d, .slice sp m cap) :: l) w) : WL n ops Q (o :: rest) l w :=
  WL.step hg hd hn (fun a ha => by
    obtain ⟨hu, hsz⟩ := TyOk.of tyOk ht
    have hs' : (sizeOf e).run Tryz.prog w = .ok sz w := by
      cases hq : Tryz.prog.info? e with
      | none => rw [hq] at hsz; cases hsz
      | some q => rw [hq] at hsz; simp at hsz; simp [sizeOf, typeInfo, hq, hsz]
    unfold execOp
    simp only [ho, resolve, invoke, builtin, Sem.run_bind, Sem.run_pure, Result.andThen_ok, List.map_toArray, List.map_cons, List.map_nil, ha.eval hs, ha.eval hx]
    have hrun : (Builtin.append_ #[t, t] o.type #[.slice sp m cap, .slice xp 0 xc]).run Tryz.prog w = .ok (.slice sp m cap) w := by
      cases sp <;> cases xp <;> simp [Builtin.append_, run_underlying hu, hs', Builtin.lenOf, Builtin.firstCells, hc, loadCells, loadCellsFrom, storeCells]
    rw [hrun]
    rfl) h
end
theorem strs_slV {w : World} {v : Value} {l : List ByteArray} (h : Strs w v l) (h0 : 0 < l.length) : SlV w (fun _ => True) 1 v l.length (l.map Value.string) := by
  obtain ⟨sp, cap, rfl, h1, h2, -, h4⟩ := h
  obtain ⟨b, o, rfl, hb, hr⟩ := h4 h0
  refine ⟨by simp, Ones.str l, _, cap, rfl, h1, h2, (fun h => by cases h), fun _ => ⟨b, o, rfl, hb, trivial, fun j hj => ?_⟩⟩
  rw [List.length_map] at hj
  rw [hr j hj]
  simp [hj]
/-- An own row of texts reads so. -/
theorem own_strs {w : World} {O : Nat → Prop} {v : Value} {l : List ByteArray} (h : OwnV 9 1 w O v l.length (l.map Value.string)) (hz : ∀ s ∈ l, s.size ≤ 140737488355328) : Els 1 noT strP O w v l := by
  obtain ⟨q1, q2, sp, cap, rfl, h4, h5, h6, h7⟩ := h.slV
  refine ⟨sp, cap, rfl, h4, h5, h6, fun h0 => ?_⟩
  obtain ⟨b, o, e, hb, hO, hr⟩ := h7 h0
  refine ⟨b, o, e, hb, hO, fun j hj => ⟨[.string (l.getD j noT)], rfl, ⟨rfl, ?_⟩, fun i u hu => ?_⟩⟩
  · exact hz _ (by simp [hj])
  · cases i with
    | zero =>
      have := hr j (by simpa using hj)
      simp at hu
      rw [Nat.mul_one, Nat.add_zero, this, ← hu]
      simp [hj]
    | succ i => simp at hu

/-- No list in a value is longer. -/
def Sm (B : Nat) : Nat → V → Prop
  | 0, _ => False
  | f + 1, v => v.names.length ≤ B ∧ v.kids.length ≤ B ∧ ∀ x ∈ v.kids, Sm B f x
theorem grtK_sm {B f : Nat} (ih : ∀ (v : V) (n : Nat), Sml f v → grt B f v n ≤ B → n + 1 ≤ grt B f v n ∧ Sm B f v) : ∀ (l : List V) (n : Nat), (∀ x ∈ l, Sml f x) → grtK B (grt B f) l n ≤ B → n + l.length ≤ grtK B (grt B f) l n ∧ ∀ x ∈ l, Sm B f x
  | [], n, _, _ => ⟨by simp [grtK], fun x hx => by cases hx⟩
  | k :: r, n, h, hB => by
    unfold grtK at hB ⊢
    by_cases hn : n ≤ B
    · rw [if_pos hn] at hB ⊢
      have hle : grt B f k n ≤ B := by
        rcases Nat.lt_or_ge B (grt B f k n) with h1 | h1
        · rw [grtK_over r h1] at hB; omega
        · exact h1
      have h1 := ih k n (h k (by simp)) hle
      have h2 := grtK_sm ih r (grt B f k n) (fun x hx => h x (List.mem_cons_of_mem _ hx)) hB
      refine ⟨by simp only [List.length_cons]; omega, fun x hx => ?_⟩
      rcases List.mem_cons.1 hx with rfl | hx
      · exact h1.2
      · exact h2.2 x hx
    · rw [if_neg hn] at hB; omega
theorem grt_sm {B : Nat} : ∀ (f : Nat) (v : V) (n : Nat), Sml f v → grt B f v n ≤ B → n + 1 ≤ grt B f v n ∧ Sm B f v
  | 0, _, _, h, _ => h.elim
  | f + 1, v, n, h, hB => by
    unfold grt at hB ⊢
    have := grtK_sm (grt_sm f) v.kids _ h.2.2 hB
    exact ⟨by omega, by omega, by omega, this.2⟩

set_option maxHeartbeats 8000000 in
theorem clone_any {B : Nat} (hB : B ≤ 1000000) : ∀ (f : Nat) {w : World} {v : V} {cs : List Value}, IsV f w v cs → Sm B f v →
    Calls Tryz.prog 21 #[.agg cs.toArray] w fun e w' => Below w.heap.size w w' ∧ ∃ cs', e = .returned (.agg cs'.toArray) ∧ IsVo (fun b => w.heap.size ≤ b) f w' v cs'
  | 0, _, _, _, h, _ => h.elim
  | f + 1, w, v, cs, h, hm => by
    obtain ⟨sn, sk, rfl, wk, wn, ws, wt, hnames, hkids⟩ := h
    obtain ⟨hmn, hmk, hms⟩ := hm
    obtain ⟨sp, cap, rfl, hcap1, hcap2, hrow⟩ := hkids
    refine enter (args := [.agg (six v sn (.slice sp v.kids.length cap)).toArray]) Tryz.func21 rfl Tryz.ntmps21 rfl ?_
    refine kgo ?_
    refine WL.box rfl rfl rfl rfl rfl fun g1 w1 hf1 => ?_
    have hf1' : Fresh w g1 w1 41 (six v sn (.slice sp v.kids.length cap)) := hf1
    clear hf1
    refine WL.alloc (z := .agg zCells.toArray) rfl rfl rfl rfl (fun _ => by kernel_rfl) fun g2 w2 hf2 => ?_
    have hf2' : Fresh w1 g2 w2 41 zCells := hf2
    clear hf2
    have hz1 := hf1'.size
    have hz2 := hf2'.size
    have he1 := hf1'.eq
    have he2 := hf2'.eq
    have hw2 : Below w.heap.size w w2 := hf1'.below.trans (hf2'.below.mono hf1'.below.size)
    have B1 := hf1'.blk.below hf2'.below hf1'.blk.lt
    have B2 := hf2'.blk
    clear hf1' hf2'
    repeat (first | refine WC.seq ?_ | refine WC.block ?_ | refine WC.region ?_ | refine WL.nil ?_ | refine WC.skip ?_ | refine WC.exit ?_ | refine WC.ret ?_ | refine WQ.then rfl ?_ | refine WQ.thenExit ?_ | refine WQ.thenRet ?_ | refine WQ.blk ?_ | refine WQ.blkRet ?_ | refine WQ.blkHere rfl ?_ | refine WQ.blkOther rfl ?_)
    refine WL.mid (fun _ : Value => [(1, .pointer (some ⟨g1, 0, none⟩)), (2, .pointer (some ⟨g2, 0, none⟩))]) (fun sx wx => VBlk 41 wx g1 (six v sx (.slice sp v.kids.length cap)) ∧ VBlk 41 wx g2 zCells ∧ Below w.heap.size w wx ∧
      Els 1 noT strP (fun b => w.heap.size ≤ b ∧ b ≠ g1 ∧ b ≠ g2) wx sx v.names ∧ sx.oneCell' = true) rfl ?_ ?_
    · refine WL.empty rfl rfl rfl rfl rfl fun g5 w3 hf3 => ?_
      have hf3' : Fresh w2 g5 w3 9 [] := hf3
      clear hf3
      have hz3 := hf3'.size
      have he3 := hf3'.eq
      have hb3 := hf3'.blk
      have hw3 : Below w.heap.size w w3 := hw2.trans (hf3'.below.mono hw2.size)
      have B13 := B1.below hf3'.below B1.lt
      have B23 := B2.below hf3'.below B2.lt
      clear hf3'
      -- the store behind the append
      have go : ∀ {wx : World} {sx : Value}, Grow w3 (.slice (some ⟨g5, 0, none⟩) 0 0) wx sx → VBlk 41 wx g1 (six v sn (.slice sp v.kids.length cap)) ∧ VBlk 41 (wx.setCell ⟨g1, 4, none⟩ sx) g1 (six v sx (.slice sp v.kids.length cap)) ∧ VBlk 41 (wx.setCell ⟨g1, 4, none⟩ sx) g2 zCells ∧ Below w.heap.size w (wx.setCell ⟨g1, 4, none⟩ sx) := fun {wx sx} h => by
        have hk : Keep (fun b => b < g5) w3 wx := Keep.mono h.1 fun b hb => ⟨by omega, fun e => by have : g5 = b := Option.some.inj e; omega⟩
        have b1 := B13.keep hk (by omega)
        refine ⟨b1, b1.set 4 sx, (B23.keep hk (by omega)).other _ _ (by show g2 ≠ g1; omega), Keep.below (Keep.setCell (Keep.of_below (hw3.trans (Keep.below (Keep.mono hk fun b (hb : b < w.heap.size) => by omega)))) (fun hk => by simp only at hk; omega) _)⟩
      obtain ⟨np, nc, rfl, nl, nm, nz, nr⟩ := hnames
      refine kgo ?_
      refine WL.load rfl rfl rfl rfl rfl rfl (B13.cell 4 (by simp)) ?_
      by_cases hn0 : v.names.length = 0
      · refine WL.as 7 (.slice np 0 nc) rfl (by show Value.slice np v.names.length nc = _; rw [hn0]) ?_
        refine WL.app0 rfl rfl rfl rfl rfl rfl (Nat.le_refl 0) rfl ?_
        obtain ⟨b1, b2, b3, b4⟩ := go (Grow.refl w3 (.slice (some ⟨g5, 0, none⟩) 0 0))
        refine kgo ?_
        refine WL.store rfl rfl rfl rfl rfl rfl (by kernel_rfl) (b1.cell 4 (by simp)) (b1.free 4) ?_
        refine WL.nil ?_
        exact WQ.meet (.slice (some ⟨g5, 0, none⟩) 0 0) ⟨rfl, rfl, trivial⟩ ⟨b2, b3, b4, ⟨_, 0, by rw [hn0], by omega, by omega, (fun h => by cases h), fun h => by omega⟩, rfl⟩
      · have hown : OwnV 9 1 w3 (fun g => g = g5) (.slice (some ⟨g5, 0, none⟩) 0 0) 0 [] := ⟨⟨by simp, .inr ⟨g5, 0, #[], rfl, Nat.zero_le _, hb3, Nat.le_refl _, by unfold maxLen; omega, by simp, by simp⟩⟩, fun _ h => (List.not_mem_nil h).elim, fun g h => by cases h; rfl⟩
        have hsl := strs_slV (w := w3) (v := .slice np v.names.length nc) (l := v.names) (Strs.below (w := w) ⟨np, nc, rfl, nl, nm, nz, nr⟩ hw3) (by omega)
        refine WL.appV rfl rfl rfl rfl elemS1 rfl hown rfl hsl (by omega) (by omega) fun sx wx ho hg => ?_
        obtain ⟨b1, b2, b3, b4⟩ := go hg
        have hone : sx.oneCell' = true := by obtain ⟨_, _, rfl, -⟩ := ho.slice; rfl
        refine kgo ?_
        refine WL.store rfl rfl rfl rfl rfl hone (by kernel_rfl) (b1.cell 4 (by simp)) (b1.free 4) ?_
        refine WL.nil ?_
        refine WQ.meet sx ⟨rfl, rfl, trivial⟩ ⟨b2, b3, b4, ?_, hone⟩
        have hset : Keep (fun b => b ≠ g1) wx (wx.setCell ⟨g1, 4, none⟩ sx) := (Keep.refl _ wx).setCell (fun hk => hk rfl) _
        simp only [Nat.zero_add, List.nil_append] at ho
        refine (own_strs (O := fun b => w.heap.size ≤ b ∧ b ≠ g1 ∧ b ≠ g2) (ho.mono fun b hb => by omega) fun s hs => ?_).keep hset (fun b hb _ => hb.2.1) (fun b hb => hb) fun _ _ h => h
        obtain ⟨j, hj, rfl⟩ := List.getElem_of_mem hs
        simpa [hj] using nz j hj
    rintro sx w5 ⟨C1, C2, hw5, hnm, hsx⟩
    have hz5 := hw5.size
    have hgg : g1 ≠ g2 := by omega
    have hg1w := C1.lt
    have hg2w := C2.lt
    refine kgo ?_
    refine WC.loop (fun i : Nat × Value => [(1, .pointer (some ⟨g1, 0, none⟩)), (2, .pointer (some ⟨g2, 0, none⟩)), (3, i.2), (4, .int .i64 i.1)])
      (fun i wr => i.1 ≤ v.kids.length ∧ Below w5.heap.size w5 wr ∧ ∃ q : Nat → Prop, OwnE 41 6 noV (IsVo q f wr) (fun b => w5.heap.size ≤ b) wr i.2 (v.kids.take i.1) ∧ ∀ b, q b → w5.heap.size ≤ b ∧ b < wr.heap.size ∧ i.2.ownBlock ≠ some b) (fun i => v.kids.length - i.1) (0, .slice none 0 0)
      ⟨rfl, rfl, rfl, rfl, trivial⟩ ⟨Nat.zero_le _, Below.refl _ _, fun _ => False, OwnE.nil _ _ _ _ _ _, fun b h => h.elim⟩ ?_
    rintro ⟨i, vk⟩ wr ⟨hi, hbr, q, hoE, hq⟩
    simp only at hi hbr hoE hq ⊢
    have D1 := C1.below hbr hg1w
    have D2 := C2.below hbr hg2w
    have hwr : Below w.heap.size w wr := hw5.trans (hbr.mono hz5)
    have hzr := hbr.size
    refine kgo ?_
    refine WL.load rfl rfl rfl rfl rfl rfl (D1.cell 5 (by simp)) ?_
    by_cases hik : i < v.kids.length
    · obtain ⟨kb, ko, rfl, hkb, hcells⟩ := hrow (by omega)
      obtain ⟨c, hc6, hci, hcr⟩ := hcells i hik
      refine kgo ?_
      refine WL.load rfl rfl rfl rfl rfl rfl (D1.cell 5 (by simp)) ?_
      refine kgo ?_
      refine WL.idx i (ko + i * 6) rfl rfl rfl rfl rfl rfl rfl rfl hik rfl ?_
      refine WL.loadMid rfl rfl rfl rfl rfl rfl (fun j u hu => (hwr.cell (p := ⟨kb, ko + i * 6 + j, none⟩) hkb).trans (hcr j u hu)) hc6 ?_
      refine WL.call rfl rfl rfl rfl rfl Tryz.func21 rfl (by kernel_rfl) (clone_any hB f (hci.below hwr) (hms _ (by simp [hik]))) ?_
      rintro _ w6 ⟨hb6, c6, rfl, hv6⟩
      refine ⟨_, rfl, ?_⟩
      have hz6 := hb6.size
      refine WL.lit1 rfl rfl rfl rfl rfl rfl rfl hv6.len ⟨by omega, by omega⟩ (by kernel_rfl) fun g7 w7 hf7 => ?_
      have hz7 := hf7.size
      have hk7 : Below wr.heap.size wr w7 := hb6.trans (hf7.below.mono hz6)
      have hoE7 : OwnE 41 6 noV (IsVo (fun b => q b ∨ (wr.heap.size ≤ b ∧ b < w7.heap.size)) f w7) (fun b => w5.heap.size ≤ b) w7 vk (v.kids.take i) :=
        hoE.keep (Keep.of_below hk7) (fun g hg => hoE.lt hg) (fun _ h => h) fun x cs hx => hx.keep (Keep.of_below hk7) (fun b hb _ => (hq b hb).2.1) fun b hb => .inl hb
      have hv7 : IsVo (fun b => q b ∨ (wr.heap.size ≤ b ∧ b < w7.heap.size)) f w7 (v.kids.getD i noV) c6 := hv6.there.keep (Keep.of_below hf7.below) (fun b _ h => h) fun b hb => .inr ⟨hb.1, by omega⟩
      have hlt : (v.kids.take i).length ≤ i := by rw [List.length_take]; omega
      refine WL.snoc rfl rfl rfl rfl elemV6 rfl hoE7 rfl hf7.blk hv6.one hv6.len hv7 (by omega) (by omega) fun vk8 w8 ho8 hg8 => ?_
      have hbel8 : Below w5.heap.size w5 w8 := (hbr.trans (hk7.mono hzr)).trans (hg8.old (by omega) fun g hg => hoE7.own hg)
      have hq8 : ∀ b, (q b ∨ (wr.heap.size ≤ b ∧ b < w7.heap.size)) → w5.heap.size ≤ b ∧ b < w7.heap.size ∧ vk.ownBlock ≠ some b := fun b hb => hb.elim (fun h => by
          obtain ⟨h1, h2, h3⟩ := hq b h
          exact ⟨h1, by omega, h3⟩) fun h => ⟨by omega, h.2, fun e => by have := hoE.lt e; omega⟩
      have htk : v.kids.take (i + 1) = v.kids.take i ++ [v.kids.getD i noV] := by
        rw [List.take_add_one]
        simp [hik]
      refine kgo ?_
      refine WQ.again (i + 1, vk8) ⟨rfl, rfl, rfl, rfl, trivial⟩ ⟨hik, hbel8, (fun b => q b ∨ (wr.heap.size ≤ b ∧ b < w7.heap.size)), ?_, fun b hb => ?_⟩ (by show v.kids.length - (i + 1) < v.kids.length - i; omega)
      · show OwnE _ _ _ _ _ _ _ (v.kids.take (i + 1))
        rw [htk]
        exact ho8.keep (Keep.refl (fun _ => True) w8) (fun _ _ => trivial) (fun b hb => by omega) fun x cs hx => hx.keep hg8.1 (fun b hb _ => (hq8 b hb).2) fun b hb => hb
      · obtain ⟨h1, h2, h3⟩ := hq8 b hb
        exact ⟨h1, Nat.lt_of_lt_of_le h2 hg8.1.size, fun e => (hg8.2 b e).elim h3 fun h4 => by omega⟩
    · obtain rfl : i = v.kids.length := by omega
      rw [List.take_length] at hoE
      have hvk := hoE.one
      have hset : Keep (fun b => b ≠ g1) wr (wr.setCell ⟨g1, 5, none⟩ vk) := (Keep.refl _ wr).setCell (fun hk => hk rfl) _
      refine kgo ?_
      refine WL.store rfl rfl rfl rfl rfl hvk (by kernel_rfl) (D1.cell 5 (by simp)) (D1.free 5) ?_
      have E1 := D1.set 5 vk
      have E2 : VBlk 41 (wr.setCell ⟨g1, 5, none⟩ vk) g2 zCells := D2.other _ _ (by show g2 ≠ g1; omega)
      have hwE : Below w.heap.size w (wr.setCell ⟨g1, 5, none⟩ vk) := Keep.below (Keep.setCell (Keep.of_below hwr) (fun hk => by simp only at hk; omega) _)
      have hnmE := (hnm.there (fun _ _ h => h)).keep (O' := fun b => (w.heap.size ≤ b ∧ b ≠ g1 ∧ b ≠ g2)) (Keep.of_below hbr) (fun b hb hlt => hlt) (fun b hb => hb.1) fun _ _ h => h
      have hnmF := hnmE.keep hset (fun b hb _ => hb.2.1) (fun b hb => hb) fun _ _ h => h
      have hkdF : Els 6 noV (IsVo (fun b => w5.heap.size ≤ b) f (wr.setCell ⟨g1, 5, none⟩ vk)) (fun b => w5.heap.size ≤ b) (wr.setCell ⟨g1, 5, none⟩ vk) vk v.kids :=
        hoE.els.keep hset (fun b hb _ => by omega) (fun b hb => hb) fun x cs hx => hx.keep hset (fun b hb _ => by have := (hq b hb).1; omega) fun b hb => (hq b hb).1
      generalize wr.setCell ⟨g1, 5, none⟩ vk = w9 at E1 E2 hwE hnmF hkdF
      simp only [List.set_cons_zero, List.set_cons_succ] at E1
      refine kgo ?_
      refine WL.loadMid rfl rfl rfl rfl rfl rfl (VBlk.rangeAt E1) rfl ?_
      have hone : Ones [Value.int .i64 v.k, .int .i64 v.n, .int .i64 v.s, .string v.t, sx, vk] := by
        intro u hu
        simp at hu
        rcases hu with rfl | rfl | rfl | rfl | rfl | rfl <;> first | rfl | assumption
      refine WL.storeRow rfl rfl rfl rfl rfl rfl E2 rfl rfl hone ?_
      refine kgo ?_
      have hset2 : ∀ a, Keep (fun b => b ≠ g2) w9 (w9.setRow g2 a) := fun a => Keep.setRow (Keep.refl _ w9) (fun hk => hk rfl) a
      refine WQ.retC rfl rfl rfl rfl (E2.setRow _) ⟨Keep.below (Keep.setRow (Keep.of_below hwE) (fun hk => by omega) _), _, rfl, sx, vk, rfl, wk, wn, ws, wt, hnmF.keep (hset2 _) (fun b hb _ => hb.2.2) (fun b hb => hb.1) fun _ _ h => h, ?_⟩
      exact hkdF.keep (hset2 _) (fun b hb _ => by omega) (fun b hb => by omega) fun x cs hx => hx.keep (hset2 _) (fun b hb _ => by omega) fun b hb => by omega
end K
end Go.Proofs.YtlamdhekjlnccaaGreatDoor

/- The document's blocks (chapter 11): Clone. -/
namespace Go.Proofs.YtlamdhekjlnccaaGreatDoor
open Go.RowKit
namespace K
set_option maxHeartbeats 8000000 in
theorem rclone11_any {f : Nat} {w : World} {b : Bk} {cs : List Value} (h : IsB f w b cs) (hsm : ∀ e ∈ b.ents, Sm 3000 f e.data) (hle : b.ents.length ≤ 3000) :
    Calls Tryz.prog 6 #[.agg cs.toArray] w fun r w' => Below w.heap.size w w' ∧ ∃ cs', r = .returned (.agg cs'.toArray) ∧ IsBo (fun x => w.heap.size ≤ x) f w' b cs' := by
  have hcl := h.len
  obtain ⟨se, rfl, hents, hpl, hpb, hr⟩ := h
  obtain ⟨sp, cap, rfl⟩ := hents.slice
  refine enter (args := [.agg (bkC b (.slice sp b.ents.length cap)).toArray]) Tryz.func6 rfl Tryz.ntmps6 rfl ?_
  refine kgo ?_
  refine WL.box rfl rfl rfl rfl rfl fun g w1 hf => ?_
  have hf' : Fresh w g w1 26 (bkC b (.slice sp b.ents.length cap)) := hf
  clear hf
  refine WL.alloc (z := .agg (bkC noB (.slice none 0 0)).toArray) rfl rfl rfl rfl (fun _ => by kernel_rfl) fun rg w2 hf2 => ?_
  have hf2' : Fresh w1 rg w2 26 (bkC noB (.slice none 0 0)) := hf2
  clear hf2
  have hg := hf'.eq
  have hz1 := hf'.size
  have hrg := hf2'.eq
  have hz2 := hf2'.size
  have hw2 : Below w.heap.size w w2 := hf'.below.trans (hf2'.below.mono hf'.below.size)
  have B2 : BkAt 26 g w2 b (.slice sp b.ents.length cap) := ⟨hf'.blk.below hf2'.below hf'.blk.lt, hpl⟩
  have R2 := hf2'.blk
  clear hf' hf2'
  refine kgo ?_
  refine WC.loop (fun i : Nat × Value => [(1, .pointer (some ⟨g, 0, none⟩)), (2, .pointer (some ⟨rg, 0, none⟩)), (3, i.2), (4, .int .i64 i.1)])
    (fun i wr => i.1 ≤ b.ents.length ∧ Below w2.heap.size w2 wr ∧ ∃ q : Nat → Prop, OwnE 45 46 noE (IsEo q f wr) (fun x => w2.heap.size ≤ x) wr i.2 (b.ents.take i.1) ∧ ∀ x, q x → w2.heap.size ≤ x ∧ x < wr.heap.size ∧ i.2.ownBlock ≠ some x) (fun i => b.ents.length - i.1) (0, .slice none 0 0)
    ⟨rfl, rfl, rfl, rfl, trivial⟩ ⟨Nat.zero_le _, Below.refl _ _, fun _ => False, OwnE.nil _ _ _ _ _ _, fun x h => h.elim⟩ ?_
  rintro ⟨i, vk⟩ wr ⟨hi, hbr, q, hoE, hq⟩
  simp only at hi hbr hoE hq ⊢
  have Br := B2.below hbr
  have Rr := R2.below hbr R2.lt
  have hwr : Below w.heap.size w wr := hw2.trans (hbr.mono hw2.size)
  have hzr := hbr.size
  refine kgo ?_
  refine WL.load rfl rfl rfl rfl rfl rfl Br.ents ?_
  by_cases hik : i < b.ents.length
  · obtain ⟨kb, ko, cap', cs, hse, hkb, hc46, hce, hcr⟩ := hents.at hik
    injection hse with hse1 _ hse2
    subst hse1; subst hse2
    have hmem : b.ents.getD i noE ∈ b.ents := by simp [hik]
    have hsm1 := hsm _ hmem
    have hts := take_snoc b.ents noE hik
    generalize b.ents.getD i noE = e at hce hsm1 hts
    have hone := hce.one
    obtain ⟨dc, rfl, hv, hdl, hdo, hh, hby, htx, hrr⟩ := hce
    refine kgo ?_
    refine WL.load rfl rfl rfl rfl rfl rfl Br.ents ?_
    refine kgo ?_
    refine WL.idx i (ko + i * 46) rfl rfl rfl rfl rfl rfl rfl rfl hik rfl ?_
    refine WL.loadMid rfl rfl rfl rfl rfl rfl (fun j u hu => (hwr.cell (p := ⟨kb, ko + i * 46 + j, none⟩) hkb).trans (hcr j u hu)) hc46 ?_
    refine WL.alloc (z := .agg (enC noE zCells).toArray) rfl rfl rfl rfl (fun _ => by kernel_rfl) fun c w5 hf5 => ?_
    have hf5' : Fresh wr c w5 45 (enC noE zCells) := hf5
    clear hf5
    refine kgo ?_
    refine WL.storeRow rfl rfl rfl rfl rfl rfl hf5'.blk hc46 (by rfl) hone ?_
    have hk6 : Below wr.heap.size wr (w5.setRow c (enC e dc).toArray) := below_setRow hf5'.below (by rw [hf5'.eq]; exact Nat.le_refl _) _
    have C6 : EnAt 45 c (w5.setRow c (enC e dc).toArray) e dc := ⟨hf5'.blk.setRow _, hdl, hh⟩
    have hce5 := hf5'.eq
    generalize w5.setRow c (enC e dc).toArray = w6 at hk6 C6
    clear hf5'
    have hw6 := hwr.trans (hk6.mono hwr.size)
    have hz6 := hk6.size
    refine kgo ?_
    refine WL.loadMid rfl rfl rfl rfl rfl rfl C6.data hdl ?_
    refine WL.call rfl rfl rfl rfl rfl Tryz.func21 rfl (by kernel_rfl) (clone_any (B := 3000) (by omega) f (hv.below hw6) hsm1) ?_
    rintro _ w7 ⟨hk7, c7, rfl, hv7⟩
    refine ⟨_, rfl, ?_⟩
    have hz7 := hk7.size
    have C7 := C6.below hk7
    have hc7 := hv7.len
    refine kgo ?_
    refine WL.storeMid rfl rfl rfl rfl rfl rfl C7.blk hc7 (by rw [C7.len]; omega) hv7.one ?_
    have C8 := C7.setData (m := c7) (off := 0 + 5) e.data hc7 rfl
    have hk8 : Keep (fun x => x ≠ c) w7 (w7.setRow c ((enC e dc).take (0 + 5) ++ c7 ++ (enC e dc).drop (0 + 5 + 6)).toArray) := Keep.setRow (Keep.refl _ w7) (fun hk => hk rfl) _
    have hv8 : IsVo (fun x => w6.heap.size ≤ x ∧ x ≠ c ∧ x < (w7.setRow c ((enC e dc).take (0 + 5) ++ c7 ++ (enC e dc).drop (0 + 5 + 6)).toArray).heap.size) f (w7.setRow c ((enC e dc).take (0 + 5) ++ c7 ++ (enC e dc).drop (0 + 5 + 6)).toArray) e.data c7 :=
      hv7.there.keep hk8 (fun x hx _ => by have := C6.blk.lt; omega) fun x hx => by have := C6.blk.lt; have := hk8.size; omega
    have hw8 : Below wr.heap.size wr (w7.setRow c ((enC e dc).take (0 + 5) ++ c7 ++ (enC e dc).drop (0 + 5 + 6)).toArray) := Keep.below (Keep.setRow (Keep.of_below (hk6.trans (hk7.mono hz6))) (fun hk => by omega) _)
    generalize w7.setRow c ((enC e dc).take (0 + 5) ++ c7 ++ (enC e dc).drop (0 + 5 + 6)).toArray = w8 at C8 hv8 hw8 hk8
    have C8b : EnAt 45 c w8 e c7 := C8
    have hz8 := hw8.size
    refine kgo ?_
    refine WL.loadMid rfl rfl rfl rfl rfl rfl (VBlk.rangeAt C8b.blk) C8b.len ?_
    have hE8 : IsEo (fun x => w6.heap.size ≤ x ∧ x ≠ c ∧ x < w8.heap.size) f w8 e (enC e c7) := ⟨c7, rfl, hv8, hc7, hv7.one, hh, hby, htx, hrr⟩
    refine WL.lit1 rfl rfl rfl rfl rfl rfl rfl hE8.len ⟨by omega, by omega⟩ (by kernel_rfl) fun g9 w9 hf9 => ?_
    have hz9 := hf9.size
    have hk9 : Below wr.heap.size wr w9 := hw8.trans (hf9.below.mono hz8)
    have hoE9 : OwnE 45 46 noE (IsEo (fun x => q x ∨ (wr.heap.size ≤ x ∧ x < w9.heap.size)) f w9) (fun x => w2.heap.size ≤ x) w9 vk (b.ents.take i) :=
      hoE.keep (Keep.of_below hk9) (fun g hg => hoE.lt hg) (fun _ h => h) fun x cs hx => EnP.mono (fun v cs hv => IsVo.keep (Keep.of_below hk9) (fun x hx _ => (hq x hx).2.1) (fun x hx => .inl hx) hv) hx
    have hE9 : IsEo (fun x => q x ∨ (wr.heap.size ≤ x ∧ x < w9.heap.size)) f w9 e (enC e c7) := EnP.mono (fun v cs hv => IsVo.keep (Keep.of_below hf9.below) (fun x hx _ => hx.2.2) (fun x hx => .inr (by omega)) hv) hE8
    have hlt : (b.ents.take i).length ≤ i := by rw [List.length_take]; omega
    refine kgo ?_
    refine WL.snoc rfl rfl rfl rfl elemE rfl hoE9 rfl hf9.blk hE8.one hE8.len hE9 (by omega) (by omega) fun vk10 w10 ho10 hg10 => ?_
    have hbel10 : Below w2.heap.size w2 w10 := (hbr.trans (hk9.mono hzr)).trans (hg10.old (by omega) fun g hg => hoE9.own hg)
    have hq10 : ∀ x, (q x ∨ (wr.heap.size ≤ x ∧ x < w9.heap.size)) → w2.heap.size ≤ x ∧ x < w9.heap.size ∧ vk.ownBlock ≠ some x := fun x hx => hx.elim (fun h => by
      obtain ⟨h1, h2, h3⟩ := hq x h
      exact ⟨h1, by omega, h3⟩) fun h => ⟨by omega, h.2, fun e => by have := hoE.lt e; omega⟩
    refine kgo ?_
    refine WQ.again (i + 1, vk10) ⟨rfl, rfl, rfl, rfl, trivial⟩ ⟨hik, hbel10, (fun x => q x ∨ (wr.heap.size ≤ x ∧ x < w9.heap.size)), ?_, fun x hx => ?_⟩ (by show b.ents.length - (i + 1) < b.ents.length - i; omega)
    · show OwnE _ _ _ _ _ _ _ (b.ents.take (i + 1))
      rw [hts]
      exact ho10.keep (Keep.refl (fun _ => True) w10) (fun _ _ => trivial) (fun x hx => by omega) fun x cs hx => EnP.mono (fun v cs hv => IsVo.keep hg10.1 (fun x hx _ => (hq10 x hx).2) (fun x hx => hx) hv) hx
    · obtain ⟨h1, h2, h3⟩ := hq10 x hx
      exact ⟨h1, Nat.lt_of_lt_of_le h2 hg10.1.size, fun e => (hg10.2 x e).elim h3 fun h4 => by omega⟩
  · obtain rfl : i = b.ents.length := by omega
    rw [List.take_length] at hoE
    have hvk := hoE.one
    have hset : Keep (fun x => x ≠ g) wr (wr.setCell ⟨g, 35, none⟩ vk) := (Keep.refl _ wr).setCell (fun hk => hk rfl) _
    refine kgo ?_
    refine WL.store rfl rfl rfl rfl rfl hvk (by kernel_rfl) Br.ents (Br.blk.free 35) ?_
    have E1 := Br.setEnts vk b.ents
    have E2 : VBlk 26 (wr.setCell ⟨g, 35, none⟩ vk) rg (bkC noB (.slice none 0 0)) := Rr.other _ _ (by show rg ≠ g; omega)
    have hwE : Below w.heap.size w (wr.setCell ⟨g, 35, none⟩ vk) := Keep.below (Keep.setCell (Keep.of_below hwr) (fun hk => by simp only at hk; omega) _)
    have hels : Els 46 noE (IsEo (fun x => w2.heap.size ≤ x) f (wr.setCell ⟨g, 35, none⟩ vk)) (fun x => w2.heap.size ≤ x) (wr.setCell ⟨g, 35, none⟩ vk) vk b.ents :=
      hoE.els.keep hset (fun x hx _ => by omega) (fun x hx => hx) fun x cs hx => EnP.mono (fun v cs hv => IsVo.keep hset (fun x hx _ => by have := (hq x hx).1; omega) (fun x hx => (hq x hx).1) hv) hx
    generalize wr.setCell ⟨g, 35, none⟩ vk = w9 at E1 E2 hwE hels
    have E1b : BkAt 26 g w9 b vk := E1
    refine kgo ?_
    refine WL.loadMid rfl rfl rfl rfl rfl rfl (VBlk.rangeAt E1b.blk) E1b.len ?_
    have hone : Ones (bkC b vk) := by
      intro u hu
      unfold bkC at hu
      simp only [List.mem_cons, List.mem_append, List.not_mem_nil, or_false] at hu
      rcases hu with rfl | rfl | rfl | hu | rfl
      all_goals first | rfl | exact Ones.int _ _ u hu | exact hvk
    refine WL.storeRow rfl rfl rfl rfl rfl rfl E2 E1b.len (by rfl) hone ?_
    refine kgo ?_
    have hset2 : ∀ a, Keep (fun x => x ≠ rg) w9 (w9.setRow rg a) := fun a => Keep.setRow (Keep.refl _ w9) (fun hk => hk rfl) a
    refine WQ.retC rfl rfl rfl E1b.len (E2.setRow _) ⟨Keep.below (Keep.setRow (Keep.of_below hwE) (fun hk => by omega) _), _, rfl, vk, rfl, ?_, hpl, hpb, hr⟩
    exact hels.keep (hset2 _) (fun x hx _ => by omega) (fun x hx => by omega) fun x cs hx => EnP.mono (fun v cs hv => IsVo.keep (hset2 _) (fun x hx _ => by omega) (fun x hx => by omega) hv) hx
theorem heavy_sm {f : Nat} {b : Bk} (hs : ∀ e ∈ b.ents, Sml f e.data) (h : ∀ e ∈ b.ents, ∃ n, ¬ 3000 < grt 3000 f e.data n) :
    (∀ e ∈ b.ents, chk 16 e.data = 0 → (encV 16 e.data).length ≤ 70368744177664) ∧ ∀ e ∈ b.ents, Sm 3000 f e.data :=
  ⟨fun e he => by obtain ⟨n, hn⟩ := h e he; exact enc_len (hs e he) hn, fun e he => by obtain ⟨n, hn⟩ := h e he; exact (grt_sm (B := 3000) f e.data n (hs e he) (by omega)).2⟩
end K
end Go.Proofs.YtlamdhekjlnccaaGreatDoor

/- BlockChecks (chapter 11): the law. -/
namespace Go.Proofs.YtlamdhekjlnccaaGreatDoor
open Go.RowKit
namespace K
set_option maxHeartbeats 16000000 in
theorem blockChecks_law {f : Nat} {w : World} {b : Bk} {c1 : List Value} (h : IsB f w b c1) (hm : ∀ e ∈ b.ents, Sml f e.data) (hT : Mk.Tab w) :
    Calls Tryz.prog 3 #[.agg c1.toArray] w fun e w' => e = .returned (.bool true) ∧ Below w.heap.size w w' := by
  have hall := h
  have hl1 := h.len
  obtain ⟨se, rfl, hents, hpl, hpb, hr⟩ := h
  obtain ⟨sp, cap, rfl⟩ := hents.slice
  refine enter (args := [.agg (bkC b (.slice sp b.ents.length cap)).toArray]) Tryz.func3 rfl Tryz.ntmps3 rfl ?_
  refine kgo ?_
  refine WL.box rfl rfl rfl rfl rfl fun g1 w1 hf1 => ?_
  have hf1' : Fresh w g1 w1 26 (bkC b (.slice sp b.ents.length cap)) := hf1
  clear hf1
  have hw1 := hf1'.below
  have B1 : BkAt 26 g1 w1 b (.slice sp b.ents.length cap) := ⟨hf1'.blk, hpl⟩
  clear hf1'
  refine kgo ?_
  refine WL.loadMid rfl rfl rfl rfl rfl rfl (VBlk.rangeAt B1.blk) hl1 ?_
  refine WL.call rfl rfl rfl rfl rfl Tryz.func5 rfl (by kernel_rfl) (heavy_grt (IsB.below hw1 hall) hm) ?_
  rintro _ w2 ⟨hk2, p1, rfl, hp1⟩
  refine ⟨_, rfl, ?_⟩
  have hw2 := hw1.trans (hk2.mono hw1.size)
  have B2 := B1.below hk2
  cases p1 with
  | true =>
    refine kgo ?_
    exact WQ.ret1 rfl rfl ⟨rfl, hw2⟩
  | false =>
  obtain ⟨hn, hgr⟩ := hp1 rfl
  obtain ⟨hlen, hsm⟩ := heavy_sm hm hgr
  refine kgo ?_
  refine WL.loadMid rfl rfl rfl rfl rfl rfl (VBlk.rangeAt B2.blk) hl1 ?_
  refine WL.call rfl rfl rfl rfl rfl Tryz.func6 rfl (by kernel_rfl) (rclone11_any (IsB.below hw2 hall) hsm hn) ?_
  rintro _ w3 ⟨hk3, c3, rfl, hB3⟩
  refine ⟨_, rfl, ?_⟩
  have hl3 := hB3.len
  refine WL.alloc (z := .agg (bkC noB (.slice none 0 0)).toArray) rfl rfl rfl rfl (fun _ => by kernel_rfl) fun xg w4 hf4 => ?_
  have hf4' : Fresh w3 xg w4 26 (bkC noB (.slice none 0 0)) := hf4
  clear hf4
  refine WL.storeRow rfl rfl rfl rfl rfl rfl hf4'.blk hl3 rfl hB3.one ?_
  have hk5 : Below w3.heap.size w3 (w4.setRow xg c3.toArray) := below_setRow hf4'.below (by rw [hf4'.eq]; exact Nat.le_refl _) _
  have X5 : VBlk 26 (w4.setRow xg c3.toArray) xg c3 := hf4'.blk.setRow c3
  have hxgB : w3.heap.size ≤ xg := by have := hf4'.eq; omega
  generalize w4.setRow xg c3.toArray = w5 at hk5 X5
  clear hf4'
  have hk25 : Below w2.heap.size w2 w5 := hk3.trans (hk5.mono hk3.size)
  have hw5 : Below w.heap.size w w5 := hw2.trans (hk25.mono hw2.size)
  have B5 := B2.below hk25
  have hX5 : IsB f w5 b c3 := IsB.below hk5 (isB_of hB3)
  have hbl : (hashC (hashBV b)).length = 32 := by rw [List.length_map]; exact hashBV_len b
  have hbl0 := hashBV_len b
  obtain ⟨xe, rfl, hxe, hxp, hxr⟩ := hX5
  have hX5 : IsB f w5 b (bkC b xe) := ⟨xe, rfl, hxe, hxp, hxr⟩
  obtain ⟨xsp, xcap, rfl⟩ := hxe.slice
  have X5 : BkAt 26 xg w5 b (.slice xsp b.ents.length xcap) := ⟨X5, hxp⟩
  have hwp : ∀ {wx : World}, Below w5.heap.size w5 wx → Below w.heap.size w wx := fun h => hw5.trans (h.mono hw5.size)
  refine kgo ?_
  refine WL.loadMid rfl rfl rfl rfl rfl rfl (VBlk.rangeAt X5.blk) hl3 ?_
  refine WL.call rfl rfl rfl rfl rfl Tryz.func7 rfl (by kernel_rfl) (hash11_any hX5 (hT.below hw5 (Nat.le_refl _)) hlen) ?_
  rintro _ pa ⟨rfl, hk⟩
  refine ⟨_, rfl, ?_⟩
  refine kgo ?_
  refine WL.alloc (z := .agg (hashC Dig.Z32).toArray) rfl rfl rfl rfl (Dig.zero25) fun h4 pb hf => ?_
  have hf' : Fresh pa h4 pb 23 (hashC Dig.Z32) := hf
  clear hf
  refine WL.storeRow rfl rfl rfl rfl rfl rfl hf'.blk hbl (by rfl) (Ones.int _ _) ?_
  have hk2 : Below pa.heap.size pa (pb.setRow h4 (hashC (hashBV b)).toArray) := below_setRow hf'.below (by rw [hf'.eq]; exact Nat.le_refl _) _
  have Hh4 : VBlk 23 (pb.setRow h4 (hashC (hashBV b)).toArray) h4 (hashC (hashBV b)) := hf'.blk.setRow _
  generalize pb.setRow h4 (hashC (hashBV b)).toArray = p at hk2 Hh4
  clear hf'
  have hkp : Below w5.heap.size w5 p := hk.trans (hk2.mono hk.size)
  clear hk hk2
  have B6 := B5.below hkp
  refine kgo ?_
  refine WL.loadMid rfl rfl rfl rfl rfl rfl (VBlk.rangeAt B6.blk) hl1 ?_
  refine WL.call rfl rfl rfl rfl rfl Tryz.func8 rfl (by kernel_rfl) (rhash11_any (IsB.below (hwp hkp) hall) hlen) ?_
  rintro _ qa ⟨rfl, hk⟩
  refine ⟨_, rfl, ?_⟩
  refine kgo ?_
  refine WL.alloc (z := .agg (hashC Dig.Z32).toArray) rfl rfl rfl rfl (Dig.zero25) fun h6 qb hf => ?_
  have hf' : Fresh qa h6 qb 23 (hashC Dig.Z32) := hf
  clear hf
  refine WL.storeRow rfl rfl rfl rfl rfl rfl hf'.blk hbl (by rfl) (Ones.int _ _) ?_
  have hk2 : Below qa.heap.size qa (qb.setRow h6 (hashC (hashBV b)).toArray) := below_setRow hf'.below (by rw [hf'.eq]; exact Nat.le_refl _) _
  have Hh6 : VBlk 23 (qb.setRow h6 (hashC (hashBV b)).toArray) h6 (hashC (hashBV b)) := hf'.blk.setRow _
  generalize qb.setRow h6 (hashC (hashBV b)).toArray = q at hk2 Hh6
  clear hf'
  have hkq : Below p.heap.size p q := hk.trans (hk2.mono hk.size)
  clear hk hk2
  have k5q : Below w5.heap.size w5 q := hkp.trans (hkq.mono hkp.size)
  have Hh4 := Hh4.below hkq Hh4.lt
  have Bq := B6.below hkq
  have Xq := X5.below k5q
  refine kgo ?_
  refine WC.drawn 19 (fun wx => BkAt 26 g1 wx b (.slice sp b.ents.length cap) ∧ BkAt 26 xg wx b (.slice xsp b.ents.length xcap) ∧ VBlk 23 wx h4 (hashC (hashBV b)) ∧ VBlk 23 wx h6 (hashC (hashBV b))) fun w6 hd6 => ?_
  have kS : ∀ {wx wy : World}, (BkAt 26 g1 wx b (.slice sp b.ents.length cap) ∧ BkAt 26 xg wx b (.slice xsp b.ents.length xcap) ∧ VBlk 23 wx h4 (hashC (hashBV b)) ∧ VBlk 23 wx h6 (hashC (hashBV b))) → Below wx.heap.size wx wy →
      (BkAt 26 g1 wy b (.slice sp b.ents.length cap) ∧ BkAt 26 xg wy b (.slice xsp b.ents.length xcap) ∧ VBlk 23 wy h4 (hashC (hashBV b)) ∧ VBlk 23 wy h6 (hashC (hashBV b))) :=
    fun h hk => ⟨h.1.below hk, h.2.1.below hk, h.2.2.1.below hk h.2.2.1.lt, h.2.2.2.below hk h.2.2.2.lt⟩
  have hS := kS ⟨Bq, Xq, Hh4, Hh6⟩ (hd6.below _)
  have kk : Below w5.heap.size w5 w6 := k5q.trans ((hd6.below q.heap.size).mono k5q.size)
  refine WD.loadMid 0 [1, 3, 4, 5, 6, 7, 8, 9, 10, 11, 12, 13, 14, 15, 16, 17, 18, 19, 20, 21] rfl (by kernel_rfl) rfl rfl (fun _ _ _ _ _ h => h) rfl rfl rfl rfl (fun wx hx => VBlk.rangeAt hx.2.1.blk) hl3 hS ?_
  refine WD.loadMid 2 [3, 4, 5, 6, 7, 8, 9, 10, 11, 12, 13, 14, 15, 16, 17, 18, 19, 20, 21] rfl (by kernel_rfl) rfl rfl (fun _ _ _ _ _ h => h) rfl rfl rfl rfl (fun wx hx => VBlk.rangeAt hx.1.blk) hl1 hS ?_
  refine WD.one 1 (by kernel_rfl) rfl ?_
  refine WL.call rfl rfl rfl rfl rfl Tryz.func9 rfl (by kernel_rfl) (check11_any (IsB.below kk hX5) hlen) ?_
  rintro _ w7 ⟨rfl, hk⟩
  refine ⟨_, rfl, ?_⟩
  have hS := kS hS hk
  have kk := kk.trans (hk.mono kk.size)
  clear hk
  refine WL.nil (WQ.dk (.inr hS) ?_)
  refine WD.one 3 (by kernel_rfl) rfl ?_
  refine WL.call rfl rfl rfl rfl rfl Tryz.func10 rfl (by kernel_rfl) (rcheck11_any (IsB.below (hwp kk) hall) hlen) ?_
  rintro _ w8 ⟨rfl, hk⟩
  refine ⟨_, rfl, ?_⟩
  have hS := kS hS hk
  have kk := kk.trans (hk.mono kk.size)
  clear hk
  refine WL.nil (WQ.dk (.inr hS) ?_)
  (((first | refine WD.free 4 rfl (by kernel_rfl) rfl rfl (fun _ _ _ _ _ h => h) rfl rfl (.inr hS) ?_ | refine WD.skip 4 rfl (by kernel_rfl) rfl rfl (fun _ _ _ _ _ h => h) rfl (.inr hS) ?_); try (first | ((with_reducible refine WD.topT ?_ ?_); omega) | ((with_reducible refine WD.topF ?_ ?_); omega) | ((with_reducible refine WD.top64 ?_ ?_); omega))); ((first | refine WD.free 5 rfl (by kernel_rfl) rfl rfl (fun _ _ _ _ _ h => h) rfl rfl (.inr hS) ?_ | refine WD.skip 5 rfl (by kernel_rfl) rfl rfl (fun _ _ _ _ _ h => h) rfl (.inr hS) ?_); try (first | ((with_reducible refine WD.topT ?_ ?_); omega) | ((with_reducible refine WD.topF ?_ ?_); omega) | ((with_reducible refine WD.top64 ?_ ?_); omega))))
  refine WD.loadMid 6 [8, 9, 10, 11, 12, 13, 14, 15, 16, 17, 18, 19, 20, 21] rfl (by kernel_rfl) rfl rfl (fun _ _ _ _ _ h => h) rfl rfl rfl rfl (fun wx hx => VBlk.rangeAt hx.2.2.1) hbl hS ?_
  refine WD.loadMid 7 [8, 9, 10, 11, 12, 13, 14, 15, 16, 17, 18, 19, 20, 21] rfl (by kernel_rfl) rfl rfl (fun _ _ _ _ _ h => h) rfl rfl rfl rfl (fun wx hx => VBlk.rangeAt hx.2.2.2) hbl hS ?_
  refine WD.one 8 (by kernel_rfl) rfl ?_
  refine WL.on rfl rfl ?_
  refine WL.neqH rfl rfl rfl rfl rfl rfl hbl0 hbl0 ?_
  refine WL.as 35 (.bool false) rfl (congrArg Value.bool (by simp)) ?_
  refine WL.nil (WQ.dk (.inr hS) ?_)
  (((first | refine WD.free 9 rfl (by kernel_rfl) rfl rfl (fun _ _ _ _ _ h => h) rfl rfl (.inr hS) ?_ | refine WD.skip 9 rfl (by kernel_rfl) rfl rfl (fun _ _ _ _ _ h => h) rfl (.inr hS) ?_); try (first | ((with_reducible refine WD.topT ?_ ?_); omega) | ((with_reducible refine WD.topF ?_ ?_); omega) | ((with_reducible refine WD.top64 ?_ ?_); omega))); ((first | refine WD.free 10 rfl (by kernel_rfl) rfl rfl (fun _ _ _ _ _ h => h) rfl rfl (.inr hS) ?_ | refine WD.skip 10 rfl (by kernel_rfl) rfl rfl (fun _ _ _ _ _ h => h) rfl (.inr hS) ?_); try (first | ((with_reducible refine WD.topT ?_ ?_); omega) | ((with_reducible refine WD.topF ?_ ?_); omega) | ((with_reducible refine WD.top64 ?_ ?_); omega))); ((first | refine WD.free 11 rfl (by kernel_rfl) rfl rfl (fun _ _ _ _ _ h => h) rfl rfl (.inr hS) ?_ | refine WD.skip 11 rfl (by kernel_rfl) rfl rfl (fun _ _ _ _ _ h => h) rfl (.inr hS) ?_); try (first | ((with_reducible refine WD.topT ?_ ?_); omega) | ((with_reducible refine WD.topF ?_ ?_); omega) | ((with_reducible refine WD.top64 ?_ ?_); omega))); ((first | refine WD.free 12 rfl (by kernel_rfl) rfl rfl (fun _ _ _ _ _ h => h) rfl rfl (.inr hS) ?_ | refine WD.skip 12 rfl (by kernel_rfl) rfl rfl (fun _ _ _ _ _ h => h) rfl (.inr hS) ?_); try (first | ((with_reducible refine WD.topT ?_ ?_); omega) | ((with_reducible refine WD.topF ?_ ?_); omega) | ((with_reducible refine WD.top64 ?_ ?_); omega))); ((first | refine WD.free 13 rfl (by kernel_rfl) rfl rfl (fun _ _ _ _ _ h => h) rfl rfl (.inr hS) ?_ | refine WD.skip 13 rfl (by kernel_rfl) rfl rfl (fun _ _ _ _ _ h => h) rfl (.inr hS) ?_); try (first | ((with_reducible refine WD.topT ?_ ?_); omega) | ((with_reducible refine WD.topF ?_ ?_); omega) | ((with_reducible refine WD.top64 ?_ ?_); omega))); ((first | refine WD.free 14 rfl (by kernel_rfl) rfl rfl (fun _ _ _ _ _ h => h) rfl rfl (.inr hS) ?_ | refine WD.skip 14 rfl (by kernel_rfl) rfl rfl (fun _ _ _ _ _ h => h) rfl (.inr hS) ?_); try (first | ((with_reducible refine WD.topT ?_ ?_); omega) | ((with_reducible refine WD.topF ?_ ?_); omega) | ((with_reducible refine WD.top64 ?_ ?_); omega))); ((first | refine WD.free 15 rfl (by kernel_rfl) rfl rfl (fun _ _ _ _ _ h => h) rfl rfl (.inr hS) ?_ | refine WD.skip 15 rfl (by kernel_rfl) rfl rfl (fun _ _ _ _ _ h => h) rfl (.inr hS) ?_); try (first | ((with_reducible refine WD.topT ?_ ?_); omega) | ((with_reducible refine WD.topF ?_ ?_); omega) | ((with_reducible refine WD.top64 ?_ ?_); omega))))
  refine WD.loadMid 16 [17, 19, 20, 21] rfl (by kernel_rfl) rfl rfl (fun _ _ _ _ _ h => h) rfl rfl rfl rfl (fun wx hx => VBlk.rangeAt hx.2.1.blk) hl3 hS ?_
  refine WD.loadMid 18 [19, 20, 21] rfl (by kernel_rfl) rfl rfl (fun _ _ _ _ _ h => h) rfl rfl rfl rfl (fun wx hx => VBlk.rangeAt hx.1.blk) hl1 hS ?_
  refine WD.one 17 (by kernel_rfl) rfl ?_
  refine WL.on rfl rfl ?_
  refine WL.call rfl rfl rfl rfl rfl Tryz.func11 rfl (by kernel_rfl) (headTop_any (IsB.below kk hX5)) ?_
  rintro _ w9 ⟨rfl, hk⟩
  refine ⟨_, rfl, ?_⟩
  have hS := kS hS hk
  have kk := kk.trans (hk.mono kk.size)
  clear hk
  refine WL.nil (WQ.dk (.inr hS) ?_)
  refine WD.one 19 (by kernel_rfl) rfl ?_
  refine WL.on rfl rfl ?_
  refine WL.call rfl rfl rfl rfl rfl Tryz.func12 rfl (by kernel_rfl) (rheadTop_any (IsB.below (hwp kk) hall)) ?_
  rintro _ w10 ⟨rfl, hk⟩
  refine ⟨_, rfl, ?_⟩
  have hS := kS hS hk
  have kk := kk.trans (hk.mono kk.size)
  clear hk
  refine WL.nil (WQ.dk (.inl rfl) ?_)
  have hhd : (headH b).length = 32 := Dig.sumL_length _
  refine WD.one 20 (by kernel_rfl) rfl ?_
  refine WL.on rfl rfl ?_
  refine WL.neqH rfl rfl rfl rfl rfl rfl hhd hhd ?_
  refine WL.as 47 (.bool false) rfl (congrArg Value.bool (by simp)) ?_
  refine WL.nil (WQ.dk (.inl rfl) ?_)
  refine WD.one 21 (by kernel_rfl) rfl ?_
  refine WL.pure rfl rfl rfl rfl ?_
  refine WL.nil (WQ.dk (.inl rfl) ?_)
  refine WD.done (by kernel_rfl) ?_
  have hS10 := hS
  refine kgo ?_
  refine WC.loop (fun i : Nat => [(1, .pointer (some ⟨g1, 0, none⟩)), (3, .pointer (some ⟨xg, 0, none⟩)), (8, .int .i64 i)])
    (fun i wr => i ≤ b.ents.length ∧ Below w5.heap.size w5 wr) (fun i => b.ents.length - i) 0 ⟨rfl, rfl, rfl, trivial⟩ ⟨Nat.zero_le _, kk⟩ ?_
  rintro i wr ⟨hi, hbr⟩
  have Br := B5.below hbr
  have Xr := X5.below hbr
  have hwr := hwp hbr
  refine kgo ?_
  refine WL.load rfl rfl rfl rfl rfl rfl Br.ents ?_
  by_cases hik : i < b.ents.length
  · obtain ⟨kb, ko, cap', cs, hse, hkb, hc46, hce, hcr⟩ := hents.at hik
    injection hse with hse1 _ hse2
    subst hse1; subst hse2
    obtain ⟨xb, xo, cap2, cs2, hse, hxb, hc46', hcx, hcrx⟩ := hxe.at hik
    injection hse with hse1 _ hse2
    subst hse1; subst hse2
    have hmem : b.ents.getD i noE ∈ b.ents := by simp [hik]
    have hlen1 := hlen _ hmem
    generalize b.ents.getD i noE = e at hce hcx hlen1
    have hel : (hashC (entV e)).length = 32 := by rw [List.length_map]; exact entV_len e
    have hel0 := entV_len e
    refine kgo ?_
    refine WL.load rfl rfl rfl rfl rfl rfl Xr.ents ?_
    refine kgo ?_
    refine WL.idx i (xo + i * 46) rfl rfl rfl rfl rfl rfl rfl rfl hik rfl ?_
    refine WL.loadMid rfl rfl rfl rfl rfl rfl (fun j u hu => (hbr.cell (p := ⟨xb, xo + i * 46 + j, none⟩) hxb).trans (hcrx j u hu)) hc46' ?_
    refine WL.call rfl rfl rfl rfl rfl Tryz.func13 rfl (by kernel_rfl) (entryHash_any (IsE.below hbr hcx) hlen1) ?_
    rintro _ ua ⟨rfl, hk⟩
    refine ⟨_, rfl, ?_⟩
    refine kgo ?_
    refine WL.alloc (z := .agg (hashC Dig.Z32).toArray) rfl rfl rfl rfl (Dig.zero25) fun ha ub hf => ?_
    have hf' : Fresh ua ha ub 23 (hashC Dig.Z32) := hf
    clear hf
    refine WL.storeRow rfl rfl rfl rfl rfl rfl hf'.blk hel (by rfl) (Ones.int _ _) ?_
    have hk2 : Below ua.heap.size ua (ub.setRow ha (hashC (entV e)).toArray) := below_setRow hf'.below (by rw [hf'.eq]; exact Nat.le_refl _) _
    have Ha : VBlk 23 (ub.setRow ha (hashC (entV e)).toArray) ha (hashC (entV e)) := hf'.blk.setRow _
    generalize ub.setRow ha (hashC (entV e)).toArray = u at hk2 Ha
    clear hf'
    have hbu : Below w5.heap.size w5 u := hbr.trans ((hk.trans (hk2.mono hk.size)).mono hbr.size)
    clear hk hk2
    have Bu' := B5.below hbu
    have hwu := hwp hbu
    refine kgo ?_
    refine WL.load rfl rfl rfl rfl rfl rfl Bu'.ents ?_
    refine kgo ?_
    refine WL.idx i (ko + i * 46) rfl rfl rfl rfl rfl rfl rfl rfl hik rfl ?_
    refine WL.loadMid rfl rfl rfl rfl rfl rfl (fun j u hu => (hwu.cell (p := ⟨kb, ko + i * 46 + j, none⟩) hkb).trans (hcr j u hu)) hc46 ?_
    refine WL.call rfl rfl rfl rfl rfl Tryz.func14 rfl (by kernel_rfl) (rentryHash_any (IsE.below hwu hce) hlen1) ?_
    rintro _ va ⟨rfl, hk⟩
    refine ⟨_, rfl, ?_⟩
    have Ha := Ha.below hk Ha.lt
    refine kgo ?_
    refine WL.alloc (z := .agg (hashC Dig.Z32).toArray) rfl rfl rfl rfl (Dig.zero25) fun hb vb hf => ?_
    have hf' : Fresh va hb vb 23 (hashC Dig.Z32) := hf
    clear hf
    refine WL.storeRow rfl rfl rfl rfl rfl rfl hf'.blk hel (by rfl) (Ones.int _ _) ?_
    have hk2 : Below va.heap.size va (vb.setRow hb (hashC (entV e)).toArray) := below_setRow hf'.below (by rw [hf'.eq]; exact Nat.le_refl _) _
    have Hb : VBlk 23 (vb.setRow hb (hashC (entV e)).toArray) hb (hashC (entV e)) := hf'.blk.setRow _
    generalize vb.setRow hb (hashC (entV e)).toArray = v at hk2 Hb
    clear hf'
    have hbv : Below w5.heap.size w5 v := hbu.trans ((hk.trans (hk2.mono hk.size)).mono hbu.size)
    have Ha := Ha.below hk2 Ha.lt
    clear hk hk2
    refine kgo ?_
    refine WL.loadMid rfl rfl rfl rfl rfl rfl (VBlk.rangeAt Ha) hel ?_
    refine WL.loadMid rfl rfl rfl rfl rfl rfl (VBlk.rangeAt Hb) hel ?_
    refine WL.neqH rfl rfl rfl rfl rfl rfl hel0 hel0 ?_
    refine WL.as 76 (.bool false) rfl (congrArg Value.bool (by simp)) ?_
    refine kgo ?_
    exact WQ.again (i + 1) ⟨rfl, rfl, rfl, trivial⟩ ⟨hik, hbv⟩ (by show b.ents.length - (i + 1) < b.ents.length - i; omega)
  · obtain rfl : i = b.ents.length := by omega
    refine kgo ?_
    refine WL.loadMid rfl rfl rfl rfl rfl rfl (VBlk.rangeAt Xr.blk) hl3 ?_
    refine WL.loadMid rfl rfl rfl rfl rfl rfl (VBlk.rangeAt Br.blk) hl1 ?_
    refine WL.call rfl rfl rfl rfl rfl Tryz.func15 rfl (by kernel_rfl) (blocks_any (IsB.below hbr hX5) (IsB.below hwr hall)) ?_
    rintro _ w10 ⟨⟨bb, rfl, hbb⟩, hk10⟩
    refine ⟨_, rfl, ?_⟩
    obtain rfl : bb = true := hbb.2 rfl
    have hw10 : Below w.heap.size w w10 := hwr.trans (hk10.mono hwr.size)
    refine kgo ?_
    refine WL.call rfl rfl rfl rfl rfl Tryz.func16 rfl (by kernel_rfl) known_any ?_
    rintro _ w11 ⟨rfl, hk11⟩
    refine ⟨_, rfl, ?_⟩
    refine kgo ?_
    exact WQ.ret1 rfl rfl ⟨rfl, hw10.trans (hk11.mono hw10.size)⟩
end K
end Go.Proofs.YtlamdhekjlnccaaGreatDoor

/- The library's table, as the row lays it (chapter 11; began as MkArgs). -/
namespace Go.Proofs.YtlamdhekjlnccaaGreatDoor
open Go.ChangeShapes Go.WideShapes Go.ChangeAt Go.RowKit
namespace Mk

/-- What the row lays, and its variable's name. -/
def laidL : List (String × DataW Unit) := Rows.blockChecksRow.laid
def tabName : String := (laidL.map (·.1)).headD Rows.blockChecksRow.func
theorem laidL_is : laidL = [(tabName, Rows.laid_math_bits_deBruijn64tab)] := rfl
theorem gTab : Tryz.prog.globalNamed tabName = some 0 := by kernel_rfl
theorem tTab : (Tryz.prog.globals[0]?).map (·.type) = some 132 := by kernel_rfl
theorem datum_is : (Rows.laid_math_bits_deBruijn64tab : DataW Unit) = .agg (Lib.deBruijn64tab.map fun n : Nat => .lit (.int .u8 (n : Int))) := rfl

theorem of_laid {W : World} (h : laidMetH Tryz.prog laidL W) : Tab W := by
  rw [MakeChecks.laidMetH_plain _ _ _ (by kernel_rfl), laidL_is] at h
  obtain ⟨ps, ⟨g0, t0, cs0, f0, p0, q0, hg0, ht0, hv0, hd0, _, _⟩, _, _⟩ := h
  obtain rfl := Option.some.inj (gTab.symm.trans hg0)
  obtain rfl := Option.some.inj (tTab.symm.trans ht0)
  obtain ⟨xs, m1, rfl, hx1, hlen, hn3, hel⟩ := DataW.trod_array Tryz.underlying132 hd0
  have c5 : Tryz.prog.cellsOf 5 = 1 := by kernel_rfl
  simp only [Prod.mk.injEq] at hx1
  have hxs : Lib.deBruijn64tab.map (fun n : Nat => (DataW.lit (.int .u8 (n : Int)) : DataW Unit)) = xs.map (·.1) := by
    have := hx1.1
    rw [datum_is] at this
    injection this
  intro j hj
  have hj64 : j < 64 := hj
  have h0 := hel j hj64
  obtain ⟨x, hx⟩ : ∃ x, xs[j]? = some x := ⟨xs[j]'(by omega), List.getElem?_eq_getElem (by omega)⟩
  rw [hx] at h0
  obtain ⟨k, e1, e2, _⟩ := DataW.trod_int Tryz.underlying5 h0
  have e1' : (cs0.toList.drop j).take 1 = [.int .u8 k] := by
    rw [c5, Nat.mul_one] at e1; exact e1
  have hk : (Lib.deBruijn64tab.map (fun n : Nat => (DataW.lit (.int .u8 (n : Int)) : DataW Unit)))[j]? = some x.1 := by rw [hxs, List.getElem?_map, hx]; rfl
  rw [e2, List.getElem?_map] at hk
  have hjl : j < Lib.deBruijn64tab.length := hj
  rw [List.getElem?_eq_getElem hjl] at hk
  simp only [Option.map_some, Option.some.injEq, DataW.lit.injEq, Lit.int.injEq, true_and] at hk
  have hcell := World.var?_cell hg0 hv0 j
  have e3 : cs0[j]? = some (.int .u8 k) := by
    have : ((cs0.toList.drop j).take 1)[0]? = some (.int .u8 k) := by rw [e1']; rfl
    simpa using this
  show W.cell? ⟨0, j, none⟩ = _
  rw [hcell, e3, ← hk]
  have : Lib.deBruijn64tab.getD j 0 = Lib.deBruijn64tab[j] := by simp [hjl]
  rw [this]

/-- The door's own heap meets the condition. -/
theorem door_met (os : Os) (args : Array Value) : laidMetH Tryz.prog laidL ((World.doorLaid Tryz.prog 14 os).forCall (fun _ _ => 0) ⟨#[], args, []⟩).memory :=
  laidMetH_of_parts3 (fuel := 8) (laidMet_of_run' 8 (by kernel_rfl) (by kernel_rfl)) (by kernel_rfl) (by kernel_rfl)
end Mk
end Go.Proofs.YtlamdhekjlnccaaGreatDoor

/- Values that come in: what they read as. -/
namespace Go.Proofs.YtlamdhekjlnccaaGreatDoor
open Go.ChangeShapes Go.WideShapes Go.ChangeAt Go.RowKit
namespace K

section
variable {H : Type} {P : Program}
/-- All weights are within reach. -/
def WOk (P : Program) (t : TypeId) (d : DataW H) : Prop := ∀ n ∈ d.weights P t, n ≤ reachBytes
theorem weightsAll_mem {e : TypeId} : ∀ {ds : List (DataW H)} {d : DataW H} {n : Nat}, d ∈ ds → n ∈ d.weights P e → n ∈ DataW.weightsAll P e ds
  | d0 :: ds, d, n, hd, hn => by
    rw [DataW.weightsAll, List.mem_append]
    rcases List.mem_cons.1 hd with rfl | hd
    · exact .inl hn
    · exact .inr (weightsAll_mem hd hn)
theorem WOk.slice {t e : TypeId} {elems spare : List (DataW H)} (hu : P.underlying t = some (.slice e)) (h : WOk P t (.slice elems spare)) : (elems.length + spare.length) * P.bytesOf e ≤ reachBytes ∧ ∀ d ∈ elems, WOk P e d := by
  unfold WOk at h
  rw [DataW.weights, hu] at h
  simp only [List.mem_cons, List.mem_append] at h
  exact ⟨h _ (.inl rfl), fun d hd n hn => h n (.inr (.inl (weightsAll_mem hd hn)))⟩
theorem WOk.agg {t : TypeId} {fs : Array Field} {parts : List (DataW H)} (hu : P.underlying t = some (.struct fs)) (h : WOk P t (.agg parts)) {i : Nat} {f : Field} {d : DataW H} (hf : fs[i]? = some f) (hd : parts[i]? = some d) : WOk P f.type d := by
  unfold WOk at h
  rw [DataW.weights, hu] at h
  exact fun n hn => h n (DataW.weights_mem_each (j := i) (by simp [hf]) hd n hn)
theorem WOk.string {t : TypeId} {l : List UInt8} (h : WOk P t (.lit (.string l) : DataW H)) : l.length ≤ reachBytes := h _ (by simp [DataW.weights])
end

section
variable {H : Type} {enc : TypeId × Value → H} {W : World} {base : Nat} {held : Bool}
theorem reach_le {n : Nat} (h : n ≤ reachBytes) : n ≤ 140737488355328 := Nat.le_trans h (by decide)

/-- A slice, opened at each place. -/
theorem open_sl2 {t e : TypeId} {fuel : Nat} {v : Value} {x : DataW H × List MemPlace} (m : Nat) (hm0 : 0 < m) (hu : Tryz.prog.underlying t = some (.slice e)) (hce : Tryz.prog.cellsOf e = m) (h : DataW.trod enc Tryz.prog W base (fun _ => true) held fuel t [v] = some x) :
    ∃ sp len cap, v = .slice sp len cap ∧ len ≤ cap ∧ cap ≤ 9223372036854775807 ∧ ∃ n elems rest, n < fuel ∧ (x.1 = .slice (elems.map (·.1)) rest ∨ (x.1 = .nil ∧ elems = [])) ∧ elems.length = len ∧
      ∀ i, i < len → ∃ (b o : Nat) (cs : List Value) (y : DataW H × List MemPlace), sp = some ⟨b, o, none⟩ ∧ b < W.heap.size ∧ cs.length = m ∧ W.rangeAt b (o + i * m) cs ∧ elems[i]? = some y ∧ DataW.trod enc Tryz.prog W base (fun _ => true) held n e cs = some y := by
  rcases DataW.trod_slice hu h with ⟨hcs, rfl⟩ | ⟨a, len, cap, elems, rest, n, rfl, hcs, rfl, hb, hl, hcap, hlen, hel, -, -⟩
  · obtain rfl : v = .slice none 0 0 := by simpa using hcs
    cases fuel with
    | zero => simp [DataW.trod] at h
    | succ f => exact ⟨none, 0, 0, rfl, Nat.le_refl _, by omega, f, [], [], by omega, .inr ⟨rfl, rfl⟩, rfl, fun i hi => absurd hi (by omega)⟩
  · obtain rfl : v = .slice (some a) len cap := by simpa using hcs
    refine ⟨some a, len, cap, rfl, hl, by unfold maxLen at hcap; exact hcap, n, elems, rest.map (·.1), by omega, .inl rfl, hlen, fun i hi => ?_⟩
    have h1 := hel i hi
    rw [hce] at h1
    obtain ⟨y, hy⟩ : ∃ y, elems[i]? = some y := ⟨elems[i], List.getElem?_eq_getElem (by omega)⟩
    rw [hy] at h1
    obtain ⟨cs, hc1, hc2⟩ := Option.bind_eq_some_iff.1 h1
    obtain ⟨-, hcl, hat⟩ := World.cells?_some hc1
    have h00 := hel 0 (by omega)
    rw [hce] at h00
    obtain ⟨y0, hy0⟩ : ∃ y, elems[0]? = some y := ⟨elems[0], List.getElem?_eq_getElem (by omega)⟩
    rw [hy0] at h00
    obtain ⟨cs0, hc01, -⟩ := Option.bind_eq_some_iff.1 h00
    obtain ⟨-, hcl0, hat0⟩ := World.cells?_some hc01
    have hx0 := hat0 0 hm0
    have e0 : (a.add (0 * m)).add 0 = a := by rw [Nat.zero_mul]; rfl
    rw [e0, List.getElem?_eq_getElem (by omega)] at hx0
    have hsp := cell_spot hx0
    obtain ⟨b, o, s⟩ := a
    simp only at hsp
    subst hsp
    refine ⟨b, o, cs, y, rfl, block_lt_of_cell hx0, hcl, fun j u hj => ?_, hy, hc2⟩
    have hjl : j < m := by
      rcases Nat.lt_or_ge j m with h | h
      · exact h
      · rw [List.getElem?_eq_none (by omega)] at hj; cases hj
    have := hat j hjl
    rw [addr_add, addr_add] at this
    rw [this]; exact hj

theorem Six.mono {P P' : V → List Value → Prop} {w : World} {v : Value} {l : List V} (h : Six P w v l) (hP : ∀ x cs, P x cs → P' x cs) : Six P' w v l := by
  obtain ⟨sp, cap, h1, h2, h3, h4⟩ := h
  refine ⟨sp, cap, h1, h2, h3, fun h0 => ?_⟩
  obtain ⟨b, o, e, hlt, hr⟩ := h4 h0
  refine ⟨b, o, e, hlt, fun j hj => ?_⟩
  obtain ⟨cs, hc, hp, hat⟩ := hr j hj
  exact ⟨cs, hc, hP _ _ hp, hat⟩
theorem IsV.mono {w : World} : ∀ {f f' : Nat} {v : V} {cs : List Value}, f ≤ f' → IsV f w v cs → IsV f' w v cs
  | 0, _, _, _, _, h => h.elim
  | f + 1, f', v, cs, hf, h => by
    obtain ⟨g, rfl⟩ : ∃ g, f' = g + 1 := ⟨f' - 1, by omega⟩
    obtain ⟨sn, sk, h1, h2, h3, h4, h5, h6, h7⟩ := h
    exact ⟨sn, sk, h1, h2, h3, h4, h5, h6, Six.mono h7 fun _ _ hp => IsV.mono (by omega) hp⟩
theorem Sml.mono : ∀ {f f' : Nat} {v : V}, f ≤ f' → Sml f v → Sml f' v
  | 0, _, _, _, h => h.elim
  | f + 1, f', v, hf, h => by
    obtain ⟨g, rfl⟩ : ∃ g, f' = g + 1 := ⟨f' - 1, by omega⟩
    exact ⟨h.1, h.2.1, fun x hx => Sml.mono (by omega) (h.2.2 x hx)⟩

theorem cellsV : Tryz.prog.cellsOf 41 = 6 := by kernel_rfl
theorem cellsI : Tryz.prog.cellsOf 3 = 1 := by kernel_rfl
theorem cellsS : Tryz.prog.cellsOf 9 = 1 := by kernel_rfl
theorem cellsSS : Tryz.prog.cellsOf 38 = 1 := by kernel_rfl
theorem cellsVV : Tryz.prog.cellsOf 39 = 1 := by kernel_rfl
theorem bytesS : Tryz.prog.bytesOf 9 = 16 := by kernel_rfl
theorem bytesV : Tryz.prog.bytesOf 41 = 88 := by kernel_rfl

theorem open_strs2 {fuel : Nat} {v : Value} {x : DataW H × List MemPlace} (h : DataW.trod enc Tryz.prog W base (fun _ => true) held fuel 38 [v] = some x) (hz : WOk Tryz.prog 38 x.1) :
    ∃ l, Strs W v l ∧ l.length ≤ 140737488355328 := by
  obtain ⟨sp, len, cap, rfl, hl, hc, n, elems, rest, -, hx, hlen, hel⟩ := open_sl2 1 (by omega) Tryz.underlying38 cellsS h
  have key : ∀ i, i < len → ∃ (s : ByteArray), s.size ≤ 140737488355328 ∧ ∃ b o, sp = some ⟨b, o, none⟩ ∧ b < W.heap.size ∧ W.cell? ⟨b, o + i, none⟩ = some (.string s) := by
    intro i hi
    obtain ⟨b, o, cs, y, hsp, hb, hcl, hat, hy, ht⟩ := hel i hi
    obtain ⟨s, rfl, rfl, -⟩ := DataW.trod_string Tryz.underlying9 ht
    have hw : WOk Tryz.prog 9 (.lit (.string s.data.toList) : DataW H) := by
      rcases hx with hx | ⟨-, rfl⟩
      · rw [hx] at hz
        exact (hz.slice Tryz.underlying38).2 _ (List.mem_map.2 ⟨_, List.mem_of_getElem? hy, rfl⟩)
      · cases hy
    have := hw.string
    rw [Array.length_toList] at this
    refine ⟨s, reach_le this, b, o, hsp, hb, ?_⟩
    have := hat 0 _ rfl
    rw [Nat.mul_one] at this
    exact this
  have : Inhabited ByteArray := ⟨noT⟩
  obtain ⟨g, hg⟩ := Deep.choose_lt key
  have hget : ∀ k, k < len → ((List.range len).map g).getD k noT = g k := fun k hk => by simp [hk]
  have hll : ((List.range len).map g).length = len := by simp
  refine ⟨(List.range len).map g, ⟨sp, cap, by rw [hll], by rw [hll]; exact hl, hc, fun j hj => ?_, fun h0 => ?_⟩, ?_⟩
  · rw [hll] at hj; rw [hget j hj]; exact (hg j hj).1
  · rw [hll] at h0
    obtain ⟨-, b, o, hsp, hb, -⟩ := hg 0 h0
    refine ⟨b, o, hsp, hb, fun j hj => ?_⟩
    rw [hll] at hj
    obtain ⟨-, b2, o2, hsp2, -, hcell⟩ := hg j hj
    rw [hsp] at hsp2
    cases hsp2
    rw [hget j hj]; exact hcell
  · rw [hll]
    rcases hx with hx | ⟨-, rfl⟩
    · rw [hx] at hz
      have := (hz.slice Tryz.underlying38).1
      rw [bytesS, List.length_map, hlen] at this
      exact reach_le (by omega)
    · simp at hlen; omega

theorem open_vals2 : ∀ (fuel : Nat), (∀ n, n < fuel → ∀ {cs : List Value} {x : DataW H × List MemPlace}, DataW.trod enc Tryz.prog W base (fun _ => true) held n 41 cs = some x → WOk Tryz.prog 41 x.1 → ∃ v, IsV n W v cs ∧ Sml n v) →
    ∀ {v : Value} {x : DataW H × List MemPlace}, DataW.trod enc Tryz.prog W base (fun _ => true) held fuel 39 [v] = some x → WOk Tryz.prog 39 x.1 → ∃ l n, n < fuel ∧ IsVs n W v l ∧ (∀ y ∈ l, Sml n y) ∧ l.length ≤ 140737488355328 := by
  intro fuel ih v x h hz
  obtain ⟨sp, len, cap, rfl, hl, hc, n, elems, rest, hn, hx, hlen, hel⟩ := open_sl2 6 (by omega) Tryz.underlying39 cellsV h
  have key : ∀ i, i < len → ∃ (y : V), Sml n y ∧ ∃ b o cs, sp = some ⟨b, o, none⟩ ∧ b < W.heap.size ∧ cs.length = 6 ∧ IsV n W y cs ∧ W.rangeAt b (o + i * 6) cs := by
    intro i hi
    obtain ⟨b, o, cs, y, hsp, hb, hcl, hat, hy, ht⟩ := hel i hi
    have hw : WOk Tryz.prog 41 y.1 := by
      rcases hx with hx | ⟨-, rfl⟩
      · rw [hx] at hz
        exact (hz.slice Tryz.underlying39).2 _ (List.mem_map.2 ⟨_, List.mem_of_getElem? hy, rfl⟩)
      · cases hy
    obtain ⟨v, hv, hs⟩ := ih n hn ht hw
    exact ⟨v, hs, b, o, cs, hsp, hb, hcl, hv, hat⟩
  obtain ⟨g, hg⟩ := Deep.choose_lt key
  have hget : ∀ k, k < len → ((List.range len).map g).getD k noV = g k := fun k hk => by simp [hk]
  have hll : ((List.range len).map g).length = len := by simp
  refine ⟨(List.range len).map g, n, hn, ⟨sp, cap, by rw [hll], by rw [hll]; exact hl, hc, fun h0 => ?_⟩, fun y hy => ?_, ?_⟩
  · rw [hll] at h0
    obtain ⟨-, b, o, -, hsp, hb, -⟩ := hg 0 h0
    refine ⟨b, o, hsp, hb, fun j hj => ?_⟩
    rw [hll] at hj
    obtain ⟨-, b2, o2, cs, hsp2, -, hcl, hv, hat⟩ := hg j hj
    rw [hsp] at hsp2
    cases hsp2
    rw [hget j hj]
    exact ⟨cs, hcl, hv, hat⟩
  · obtain ⟨i, hi, rfl⟩ := List.mem_map.1 hy
    exact (hg i (List.mem_range.1 hi)).1
  · rw [hll]
    rcases hx with hx | ⟨-, rfl⟩
    · rw [hx] at hz
      have := (hz.slice Tryz.underlying39).1
      rw [bytesV, List.length_map, hlen] at this
      exact reach_le (by omega)
    · simp at hlen; omega

theorem take1 {l : List Value} {o : Nat} {v : Value} (h : (l.drop o).take 1 = [v]) : l[o]? = some v := by
  have : ((l.drop o).take 1)[0]? = some v := by rw [h]; rfl
  simpa [List.getElem?_take] using this
set_option maxRecDepth 100000 in
set_option maxHeartbeats 1000000 in
theorem open_val : ∀ (fuel : Nat) {cs : List Value} {x : DataW H × List MemPlace}, DataW.trod enc Tryz.prog W base (fun _ => true) held fuel 41 cs = some x → WOk Tryz.prog 41 x.1 → ∃ v, IsV fuel W v cs ∧ Sml fuel v := by
  intro fuel
  induction fuel using Nat.strongRecOn with
  | _ fuel ih =>
    intro cs x h hz
    obtain ⟨xs, n, rfl, rfl, hl, hxl, hx⟩ := DataW.trod_struct Tryz.underlying41 h
    have hxl' : xs.length = 6 := hxl
    rw [cellsV] at hl
    have e : ∀ i, i < 6 → ∃ y, xs[i]? = some y := fun i hi => ⟨xs[i], List.getElem?_eq_getElem (by omega)⟩
    obtain ⟨x0, e0⟩ := e 0 (by omega)
    obtain ⟨x1, e1⟩ := e 1 (by omega)
    obtain ⟨x2, e2⟩ := e 2 (by omega)
    obtain ⟨x3, e3⟩ := e 3 (by omega)
    obtain ⟨x4, e4⟩ := e 4 (by omega)
    obtain ⟨x5, e5⟩ := e 5 (by omega)
    have h0 := hx 0 _ rfl
    have h1 := hx 1 _ rfl
    have h2 := hx 2 _ rfl
    have h3 := hx 3 _ rfl
    have h4 := hx 4 _ rfl
    have h5 := hx 5 _ rfl
    rw [e0] at h0; rw [e1] at h1; rw [e2] at h2; rw [e3] at h3; rw [e4] at h4; rw [e5] at h5
    have z : ∀ {i : Nat} {f : Field} {y : DataW H × List MemPlace}, _ → xs[i]? = some y → WOk Tryz.prog f.type y.1 := fun {i f y} hf hy => WOk.agg Tryz.underlying41 hz (i := i) (f := f) hf (by rw [List.getElem?_map, hy]; rfl)
    have z3 : WOk Tryz.prog 9 x3.1 := z (i := 3) rfl e3
    have z4 : WOk Tryz.prog 38 x4.1 := z (i := 4) rfl e4
    have z5 : WOk Tryz.prog 39 x5.1 := z (i := 5) rfl e5
    obtain ⟨a, ha, -, wa⟩ := DataW.trod_int Tryz.underlying3 h0
    obtain ⟨b, hb, -, wb⟩ := DataW.trod_int Tryz.underlying3 h1
    obtain ⟨c, hc, -, wc⟩ := DataW.trod_int Tryz.underlying3 h2
    obtain ⟨s, hs, hs2, -⟩ := DataW.trod_string Tryz.underlying9 h3
    have t0 : cs[0]? = some (.int .i64 a) := take1 (by rw [← cellsI]; exact ha)
    have t1 : cs[1]? = some (.int .i64 b) := take1 (by rw [← cellsI]; exact hb)
    have t2 : cs[2]? = some (.int .i64 c) := take1 (by rw [← cellsI]; exact hc)
    have t3 : cs[3]? = some (.string s) := take1 (by rw [← cellsS]; exact hs)
    match cs, hl with
    | [c0, c1, c2, c3, c4, c5], _ =>
      simp at t0 t1 t2 t3
      subst t0; subst t1; subst t2; subst t3
      have h4' : DataW.trod enc Tryz.prog W base (fun _ => true) held n 38 [c4] = some x4 := h4
      have h5' : DataW.trod enc Tryz.prog W base (fun _ => true) held n 39 [c5] = some x5 := h5
      obtain ⟨names, hnm, hnl⟩ := open_strs2 h4' z4
      obtain ⟨kids, k, hk, hkd, hks, hkl⟩ := open_vals2 n (fun q hq {cs x} h1 h2 => ih q (by omega) h1 h2) h5' z5
      rw [hs2] at z3
      have hsz := z3.string
      rw [Array.length_toList] at hsz
      refine ⟨.mk a b c s names kids, ⟨c4, c5, rfl, wa, wb, wc, reach_le hsz, hnm, Six.mono hkd fun _ _ hp => IsV.mono (by omega) hp⟩, hnl, hkl, fun y hy => Sml.mono (by omega) (hks y hy)⟩
set_option maxRecDepth 100000 in
/-- A row of values that comes in. -/
theorem open_vals {b0 : Nat} {r : Reach} {v : Value} {d : DataW H} {p : List MemPlace} (hval : Value.okWide Tryz.prog W r b0 39 v) (h : DataW.Trod enc Tryz.prog W base (fun _ => true) held 39 v d p) :
    (∀ n ∈ d.weights Tryz.prog 39, n ≤ reachBytes) → ∃ f l, IsVs f W v l ∧ (∀ x ∈ l, Sml f x) ∧ l.length ≤ 140737488355328 := by
  intro hz
  obtain ⟨a, len, cap, rfl⟩ := okWide_slice Tryz.underlying39 hval
  obtain ⟨fuel, hf⟩ := h
  obtain ⟨l, n, -, h1, h2, h3⟩ := open_vals2 fuel (fun n _ {cs x} h1 h2 => open_val n h1 h2) (v := .slice a len cap) hf hz
  exact ⟨n, l, h1, h2, h3⟩
set_option maxRecDepth 100000
/-- A value that comes in. -/
theorem open_valA {b0 : Nat} {r : Reach} {v : Value} {d : DataW H} {p : List MemPlace} (hval : Value.okWide Tryz.prog W r b0 41 v) (h : DataW.Trod enc Tryz.prog W base (fun _ => true) held 41 v d p) :
    (∀ n ∈ d.weights Tryz.prog 41, n ≤ reachBytes) → ∃ f x cs, v = .agg cs.toArray ∧ IsV f W x cs ∧ Sml f x := by
  intro hz
  obtain ⟨cs, rfl, -⟩ := okWide_struct Tryz.underlying41 hval
  obtain ⟨fuel, hf⟩ := h
  obtain ⟨x, h1, h2⟩ := open_val fuel (cs := cs.toList) hf hz
  exact ⟨fuel, x, cs.toList, by rw [Array.toArray_toList], h1, h2⟩
/-- A row of bytes that comes in, with its size. -/
theorem open_bytes {b0 : Nat} {r : Reach} {v : Value} {d : DataW H} {p : List MemPlace} (hval : Value.okWide Tryz.prog W r b0 69 v) (h : DataW.Trod enc Tryz.prog W base (fun _ => true) held 69 v d p) :
    (∀ n ∈ d.weights Tryz.prog 69, n ≤ reachBytes) → ∃ l, Sl .u8 W v l ∧ (∀ c ∈ l, 0 ≤ c ∧ c ≤ 255) ∧ l.length ≤ 140737488355328 := by
  intro hz
  obtain ⟨l, hs, hw⟩ := open_sl Tryz.underlying69 Tryz.underlying5 (by kernel_rfl) hval h
  refine ⟨l, hs, fun c hc => ?_, ?_⟩
  · have := hw c hc
    simp [Lit.wf, IntKind.min, IntKind.max, IntKind.bits, IntKind.signed] at this
    omega
  · obtain ⟨sp0, cap0, rfl, -⟩ := hs
    obtain ⟨fuel, hf⟩ := h
    obtain ⟨sp, len, cap, e, -, -, n, elems, rest, -, hx, hlen, -⟩ := open_sl2 1 (by omega) Tryz.underlying69 (by kernel_rfl) (v := .slice sp0 l.length cap0) hf
    injection e with _ e2 _
    rcases hx with hx | ⟨-, rfl⟩
    · have hz' : WOk Tryz.prog 69 d := hz
      simp only at hx
      rw [hx] at hz'
      have := (hz'.slice Tryz.underlying69).1
      rw [show Tryz.prog.bytesOf 5 = 1 by kernel_rfl, List.length_map, hlen] at this
      exact reach_le (by omega)
    · simp at hlen; omega
end
end K
end Go.Proofs.YtlamdhekjlnccaaGreatDoor

/- Blocks and entries that come in: what they read as. -/
namespace Go.Proofs.YtlamdhekjlnccaaGreatDoor
open Go.ChangeShapes Go.WideShapes Go.ChangeAt Go.RowKit
namespace K
section
variable {H : Type} {enc : TypeId × Value → H} {W : World} {base : Nat} {held : Bool}
/-- A digest. -/
theorem open_hash {fuel : Nat} {cs : List Value} {x : DataW H × List MemPlace} (h : DataW.trod enc Tryz.prog W base (fun _ => true) held fuel 23 cs = some x) (hl : cs.length = 32) :
    ∃ l : List Int, cs = hashC l ∧ l.length = 32 ∧ Byt l := by
  obtain ⟨xs, m, -, -, -, hxl, hx⟩ := DataW.trod_array Tryz.underlying23 h
  have he : Tryz.prog.cellsOf 5 = 1 := by kernel_rfl
  have hel : ∀ i, i < 32 → ∃ q : Int, cs[i]? = some (.int .u8 q) ∧ 0 ≤ q ∧ q ≤ 255 := by
    intro i hi
    have h1 := hx i hi
    rw [he, Nat.mul_one, List.getElem?_eq_getElem (by omega)] at h1
    obtain ⟨q, e1, -, e2⟩ := DataW.trod_int Tryz.underlying5 h1
    refine ⟨q, take1 e1, ?_⟩
    simp [Lit.wf, IntKind.min, IntKind.max, IntKind.bits, IntKind.signed] at e2
    omega
  have : Inhabited Int := ⟨0⟩
  obtain ⟨g, hg⟩ := Deep.choose_lt hel
  refine ⟨(List.range 32).map g, ?_, by simp, fun c hc => ?_⟩
  · refine List.ext_getElem? fun i => ?_
    by_cases hi : i < 32
    · rw [(hg i hi).1]; simp [hi]
    · rw [List.getElem?_eq_none (by omega), List.getElem?_eq_none (by simp; omega)]
  · obtain ⟨i, hi, rfl⟩ := List.mem_map.1 hc
    exact (hg i (List.mem_range.1 hi)).2
theorem cut5 {α : Type} (cs : List α) : cs = cs.take 5 ++ ((cs.drop 5).take 6 ++ ((cs.drop 11).take 32 ++ cs.drop 43)) := by
  have h1 : cs.drop 43 = (cs.drop 11).drop 32 := by rw [List.drop_drop]
  have h2 : cs.drop 11 = (cs.drop 5).drop 6 := by rw [List.drop_drop]
  rw [h1, List.take_append_drop, h2, List.take_append_drop, List.take_append_drop]
theorem r64_of_wf {x : Int} (h : (Lit.int .i64 x).wf = true) : R64 x := by
  simp [Lit.wf, IntKind.min, IntKind.max, IntKind.bits, IntKind.signed] at h; omega
set_option maxRecDepth 100000 in
set_option maxHeartbeats 2000000 in
theorem open_en {fuel : Nat} {cs : List Value} {x : DataW H × List MemPlace} (h : DataW.trod enc Tryz.prog W base (fun _ => true) held fuel 45 cs = some x) (hz : WOk Tryz.prog 45 x.1) :
    ∃ e, IsE fuel W e cs ∧ Sml fuel e.data := by
  obtain ⟨xs, n, rfl, rfl, hl, hxl, hx⟩ := DataW.trod_struct Tryz.underlying45 h
  have hxl' : xs.length = 9 := hxl
  have hcl : cs.length = 46 := hl.trans (by kernel_rfl)
  have e : ∀ i, i < 9 → ∃ y, xs[i]? = some y := fun i hi => ⟨xs[i], List.getElem?_eq_getElem (by omega)⟩
  obtain ⟨x0, e0⟩ := e 0 (by omega)
  obtain ⟨x1, e1⟩ := e 1 (by omega)
  obtain ⟨x2, e2⟩ := e 2 (by omega)
  obtain ⟨x3, e3⟩ := e 3 (by omega)
  obtain ⟨x4, e4⟩ := e 4 (by omega)
  obtain ⟨x5, e5⟩ := e 5 (by omega)
  obtain ⟨x6, e6⟩ := e 6 (by omega)
  obtain ⟨x7, e7⟩ := e 7 (by omega)
  obtain ⟨x8, e8⟩ := e 8 (by omega)
  have h0 := hx 0 _ rfl
  have h1 := hx 1 _ rfl
  have h2 := hx 2 _ rfl
  have h3 := hx 3 _ rfl
  have h4 := hx 4 _ rfl
  have h5 := hx 5 _ rfl
  have h6 := hx 6 _ rfl
  have h7 := hx 7 _ rfl
  have h8 := hx 8 _ rfl
  rw [e0] at h0; rw [e1] at h1; rw [e2] at h2; rw [e3] at h3; rw [e4] at h4; rw [e5] at h5; rw [e6] at h6; rw [e7] at h7; rw [e8] at h8
  have z : ∀ {i : Nat} {f : Field} {y : DataW H × List MemPlace}, _ → xs[i]? = some y → WOk Tryz.prog f.type y.1 := fun {i f y} hf hy => WOk.agg Tryz.underlying45 hz (i := i) (f := f) hf (by rw [List.getElem?_map, hy]; rfl)
  have z1 : WOk Tryz.prog 9 x1.1 := z (i := 1) rfl e1
  have z5 : WOk Tryz.prog 41 x5.1 := z (i := 5) rfl e5
  obtain ⟨a, ha, -, wa⟩ := DataW.trod_int Tryz.underlying3 h0
  obtain ⟨s, hs, hs2, -⟩ := DataW.trod_string Tryz.underlying9 h1
  obtain ⟨b, hb, -, wb⟩ := DataW.trod_int Tryz.underlying3 h2
  obtain ⟨c, hc, -, wc⟩ := DataW.trod_int Tryz.underlying3 h3
  obtain ⟨d, hd, -, wd⟩ := DataW.trod_int Tryz.underlying3 h4
  have h5' : DataW.trod enc Tryz.prog W base (fun _ => true) held n 41 ((cs.drop 5).take (Tryz.prog.cellsOf 41)) = some x5 := h5
  rw [cellsV] at h5'
  obtain ⟨v, hv, hvs⟩ := open_val n h5' z5
  have h6' : DataW.trod enc Tryz.prog W base (fun _ => true) held n 23 ((cs.drop 11).take (Tryz.prog.cellsOf 23)) = some x6 := h6
  rw [show Tryz.prog.cellsOf 23 = 32 by kernel_rfl] at h6'
  obtain ⟨hh, hhe, hhl, hhb⟩ := open_hash h6' (by simp [hcl])
  obtain ⟨g, hg, -⟩ := DataW.trod_bool Tryz.underlying4 h7
  have h8' : DataW.trod enc Tryz.prog W base (fun _ => true) held n 43 ((cs.drop 44).take (Tryz.prog.cellsOf 43)) = some x8 := h8
  rw [show Tryz.prog.cellsOf 43 = 2 by kernel_rfl] at h8'
  obtain ⟨ys, n8, -, -, hl8, hyl, hy⟩ := DataW.trod_struct Tryz.underlying43 h8'
  have hyl' : ys.length = 2 := hyl
  obtain ⟨y0, f0⟩ : ∃ y, ys[0]? = some y := ⟨ys[0], List.getElem?_eq_getElem (by omega)⟩
  obtain ⟨y1, f1⟩ : ∃ y, ys[1]? = some y := ⟨ys[1], List.getElem?_eq_getElem (by omega)⟩
  have k0 := hy 0 _ rfl
  have k1 := hy 1 _ rfl
  rw [f0] at k0; rw [f1] at k1
  obtain ⟨ab, hab, -, wab⟩ := DataW.trod_int Tryz.underlying3 k0
  obtain ⟨ae, hae, -, wae⟩ := DataW.trod_int Tryz.underlying3 k1
  have t0 : cs[0]? = some (.int .i64 a) := take1 (by rw [← cellsI]; exact ha)
  have t1 : cs[1]? = some (.string s) := take1 (by rw [← cellsS]; exact hs)
  have t2 : cs[2]? = some (.int .i64 b) := take1 (by rw [← cellsI]; exact hb)
  have t3 : cs[3]? = some (.int .i64 c) := take1 (by rw [← cellsI]; exact hc)
  have t4 : cs[4]? = some (.int .i64 d) := take1 (by rw [← cellsI]; exact hd)
  have t43 : cs[43]? = some (.bool g) := take1 (by rw [← show Tryz.prog.cellsOf 4 = 1 by kernel_rfl]; exact hg)
  have t44 : ((cs.drop 44).take 2)[0]? = some (.int .i64 ab) := take1 (by rw [← cellsI]; exact hab)
  have t45 : ((cs.drop 44).take 2)[1]? = some (.int .i64 ae) := take1 (by rw [← cellsI]; exact hae)
  have t44' : cs[44]? = some (.int .i64 ab) := by simpa using t44
  have t45' : cs[45]? = some (.int .i64 ae) := by simpa using t45
  have hsz : s.size ≤ 140737488355328 := by
    rw [hs2] at z1
    have := z1.string
    rw [Array.length_toList] at this
    exact reach_le this
  have hhead : cs.take 5 = [.int .i64 a, .string s, .int .i64 b, .int .i64 c, .int .i64 d] := by
    refine List.ext_getElem? fun i => ?_
    match i with
    | 0 => simpa using t0
    | 1 => simpa using t1
    | 2 => simpa using t2
    | 3 => simpa using t3
    | 4 => simpa using t4
    | i + 5 => rw [List.getElem?_eq_none (by simp; omega), List.getElem?_eq_none (by simp)]
  have htail : cs.drop 43 = [.bool g, .int .i64 ab, .int .i64 ae] := by
    refine List.ext_getElem? fun i => ?_
    match i with
    | 0 => simpa using t43
    | 1 => simpa using t44'
    | 2 => simpa using t45'
    | i + 3 => rw [List.getElem?_eq_none (by simp; omega), List.getElem?_eq_none (by simp)]
  refine ⟨⟨a, s, b, c, d, v, hh, g, ab, ae⟩, ⟨(cs.drop 5).take 6, ?_, IsV.mono (by omega) hv, by simp [hcl], IsV.one hv, hhl, hhb, hsz, r64_of_wf wa, r64_of_wf wb, r64_of_wf wc, r64_of_wf wd, r64_of_wf wab, r64_of_wf wae⟩, Sml.mono (by omega) hvs⟩
  have := cut5 cs
  rw [hhead, htail, hhe] at this
  exact this.trans rfl
theorem cellsE : Tryz.prog.cellsOf 45 = 46 := by kernel_rfl
/-- A row of entries. -/
theorem open_ens (fuel : Nat) {v : Value} {x : DataW H × List MemPlace} (h : DataW.trod enc Tryz.prog W base (fun _ => true) held fuel 24 [v] = some x) (hz : WOk Tryz.prog 24 x.1) :
    ∃ l n, n < fuel ∧ Els 46 noE (IsE n W) (fun _ => True) W v l ∧ ∀ y ∈ l, Sml n y.data := by
  obtain ⟨sp, len, cap, rfl, hl, hc, n, elems, rest, hn, hx, hlen, hel⟩ := open_sl2 46 (by omega) Tryz.underlying24 cellsE h
  have key : ∀ i, i < len → ∃ (y : En), Sml n y.data ∧ ∃ b o cs, sp = some ⟨b, o, none⟩ ∧ b < W.heap.size ∧ cs.length = 46 ∧ IsE n W y cs ∧ W.rangeAt b (o + i * 46) cs := by
    intro i hi
    obtain ⟨b, o, cs, y, hsp, hb, hcl, hat, hy, ht⟩ := hel i hi
    have hw : WOk Tryz.prog 45 y.1 := by
      rcases hx with hx | ⟨-, rfl⟩
      · rw [hx] at hz
        exact (hz.slice Tryz.underlying24).2 _ (List.mem_map.2 ⟨_, List.mem_of_getElem? hy, rfl⟩)
      · cases hy
    obtain ⟨v, hv, hs⟩ := open_en ht hw
    exact ⟨v, hs, b, o, cs, hsp, hb, hcl, hv, hat⟩
  have : Inhabited En := ⟨noE⟩
  obtain ⟨g, hg⟩ := Deep.choose_lt key
  have hget : ∀ k, k < len → ((List.range len).map g).getD k noE = g k := fun k hk => by simp [hk]
  have hll : ((List.range len).map g).length = len := by simp
  refine ⟨(List.range len).map g, n, hn, ⟨sp, cap, by rw [hll], by rw [hll]; exact hl, hc, fun h0 => ?_, fun h0 => ?_⟩, fun y hy => ?_⟩
  · subst h0
    rcases DataW.trod_slice Tryz.underlying24 h with ⟨hcs, -⟩ | ⟨a, len', cap', elems', rest', n', -, hcs, -⟩
    · injection hcs with hcs
      injection hcs
    · injection hcs with hcs
      injection hcs with h1
      cases h1
  · rw [hll] at h0
    obtain ⟨-, b, o, -, hsp, hb, -⟩ := hg 0 h0
    refine ⟨b, o, hsp, hb, trivial, fun j hj => ?_⟩
    rw [hll] at hj
    obtain ⟨-, b2, o2, cs, hsp2, -, hcl, hv, hat⟩ := hg j hj
    rw [hsp] at hsp2
    cases hsp2
    rw [hget j hj]
    exact ⟨cs, hcl, hv, hat⟩
  · obtain ⟨i, hi, rfl⟩ := List.mem_map.1 hy
    exact (hg i (List.mem_range.1 hi)).1
set_option maxRecDepth 100000 in
set_option maxHeartbeats 2000000 in
theorem open_blk {fuel : Nat} {cs : List Value} {x : DataW H × List MemPlace} (h : DataW.trod enc Tryz.prog W base (fun _ => true) held fuel 26 cs = some x) (hz : WOk Tryz.prog 26 x.1) :
    ∃ f b, IsB f W b cs ∧ ∀ e ∈ b.ents, Sml f e.data := by
  obtain ⟨xs, n, rfl, rfl, hl, hxl, hx⟩ := DataW.trod_struct Tryz.underlying26 h
  have hxl' : xs.length = 5 := hxl
  have hcl : cs.length = 36 := hl.trans (by kernel_rfl)
  have e : ∀ i, i < 5 → ∃ y, xs[i]? = some y := fun i hi => ⟨xs[i], List.getElem?_eq_getElem (by omega)⟩
  obtain ⟨x0, e0⟩ := e 0 (by omega)
  obtain ⟨x1, e1⟩ := e 1 (by omega)
  obtain ⟨x2, e2⟩ := e 2 (by omega)
  obtain ⟨x3, e3⟩ := e 3 (by omega)
  obtain ⟨x4, e4⟩ := e 4 (by omega)
  have h0 := hx 0 _ rfl
  have h1 := hx 1 _ rfl
  have h2 := hx 2 _ rfl
  have h3 := hx 3 _ rfl
  have h4 := hx 4 _ rfl
  rw [e0] at h0; rw [e1] at h1; rw [e2] at h2; rw [e3] at h3; rw [e4] at h4
  have z : ∀ {i : Nat} {f : Field} {y : DataW H × List MemPlace}, _ → xs[i]? = some y → WOk Tryz.prog f.type y.1 := fun {i f y} hf hy => WOk.agg Tryz.underlying26 hz (i := i) (f := f) hf (by rw [List.getElem?_map, hy]; rfl)
  have z4 : WOk Tryz.prog 24 x4.1 := z (i := 4) rfl e4
  obtain ⟨a, ha, -, wa⟩ := DataW.trod_int Tryz.underlying3 h0
  obtain ⟨b, hb, -, wb⟩ := DataW.trod_int Tryz.underlying3 h1
  obtain ⟨c, hc, -, wc⟩ := DataW.trod_int Tryz.underlying3 h2
  have h3' : DataW.trod enc Tryz.prog W base (fun _ => true) held n 23 ((cs.drop 3).take (Tryz.prog.cellsOf 23)) = some x3 := h3
  rw [show Tryz.prog.cellsOf 23 = 32 by kernel_rfl] at h3'
  obtain ⟨hh, hhe, hhl, hhb⟩ := open_hash h3' (by simp [hcl])
  have h4' : DataW.trod enc Tryz.prog W base (fun _ => true) held n 24 ((cs.drop 35).take (Tryz.prog.cellsOf 24)) = some x4 := h4
  rw [show Tryz.prog.cellsOf 24 = 1 by kernel_rfl] at h4'
  obtain ⟨se, hse⟩ : ∃ se, (cs.drop 35).take 1 = [se] := ⟨cs[35], by rw [List.drop_eq_getElem_cons (by omega)]; rfl⟩
  rw [hse] at h4'
  obtain ⟨l, m, hm, hels, hsm⟩ := open_ens n h4' z4
  have t0 : cs[0]? = some (.int .i64 a) := take1 (by rw [← cellsI]; exact ha)
  have t1 : cs[1]? = some (.int .i64 b) := take1 (by rw [← cellsI]; exact hb)
  have t2 : cs[2]? = some (.int .i64 c) := take1 (by rw [← cellsI]; exact hc)
  refine ⟨m, ⟨a, b, c, hh, l⟩, ⟨se, ?_, hels, hhl, hhb, r64_of_wf wa, r64_of_wf wb, r64_of_wf wc⟩, hsm⟩
  have hhead : cs.take 3 = [.int .i64 a, .int .i64 b, .int .i64 c] := by
    refine List.ext_getElem? fun i => ?_
    match i with
    | 0 => simpa using t0
    | 1 => simpa using t1
    | 2 => simpa using t2
    | i + 3 => rw [List.getElem?_eq_none (by simp; omega), List.getElem?_eq_none (by simp)]
  have h35 : cs.drop 35 = [se] := by rw [← hse, List.take_of_length_le (by simp [hcl])]
  have hcut : cs = cs.take 3 ++ ((cs.drop 3).take 32 ++ cs.drop 35) := by
    have h2 : cs.drop 35 = (cs.drop 3).drop 32 := by rw [List.drop_drop]
    rw [h2, List.take_append_drop, List.take_append_drop]
  rw [hhead, h35, hhe] at hcut
  exact hcut.trans rfl
set_option maxRecDepth 100000
/-- A block that comes in. -/
theorem open_blkA {b0 : Nat} {r : Reach} {v : Value} {d : DataW H} {p : List MemPlace} (hval : Value.okWide Tryz.prog W r b0 26 v) (h : DataW.Trod enc Tryz.prog W base (fun _ => true) held 26 v d p) :
    (∀ n ∈ d.weights Tryz.prog 26, n ≤ reachBytes) → ∃ f x cs, v = .agg cs.toArray ∧ IsB f W x cs ∧ ∀ e ∈ x.ents, Sml f e.data := by
  intro hz
  obtain ⟨cs, rfl, -⟩ := okWide_struct Tryz.underlying26 hval
  obtain ⟨fuel, hf⟩ := h
  obtain ⟨f, x, h1, h2⟩ := open_blk (cs := cs.toList) hf hz
  exact ⟨f, x, cs.toList, by rw [Array.toArray_toList], h1, h2⟩
end
end K
end Go.Proofs.YtlamdhekjlnccaaGreatDoor

/-
  For every block the law BlockChecks answers true, and the argument reads as it did. The library's table lies as the program's text lays it: that is the card's tie; no other condition.
-/
namespace Go.Proofs.YtlamdhekjlnccaaGreatDoor.blockChecks
open Go.ChangeShapes Go.WideShapes Go.ChangeAt Go.RowKit
open Go.ChangeMaps (open_string shut_string)
open Go.Proofs.YtlamdhekjlnccaaGreatDoor

set_option maxRecDepth 100000 in
theorem lifted (os : Os) (started : os.Started) (H : Type) (enc : TypeId × Value → H) :
    ReturnsInHanded {} Tryz.checked os 3 .any (fun w args => (Rows.blockChecksSpec.pre enc Tryz.prog Tryz.f3 [] false w args ∧ laidMetH Tryz.prog Mk.laidL w) ∧ sizedMet enc Tryz.prog Tryz.f3 (OpenSpec.ofChange Rows.blockChecksSpec) false w args)
      (Rows.blockChecksSpec.post enc Tryz.prog Tryz.f3 false true false false) := by
  refine returnsInHanded_of_change_and (C := Tryz.checked) (X := fun w _ => laidMetH Tryz.prog Mk.laidL w) (fun _ _ _ hh h => h.of_heap hh) Tryz.ownKnob started (by kernel_rfl) Tryz.func3
    (ChangeSpec.witness_shaped (enc := enc) (C := Tryz.checked) (os := os) (X := fun w _ => laidMetH Tryz.prog Mk.laidL w) false (World.doorLaid Tryz.prog 14 os) #[.agg (K.bkC K.noB (.slice none 0 0)).toArray] 8 rfl (World.shaped_of_RefB (by kernel_rfl) (by kernel_rfl)) (by kernel_rfl) (by kernel_rfl) (by kernel_rfl) (Mk.door_met os _)) ?_
  intro W base args ds gs before hval0 hW hcnd hsz hL _
  have hval : ∀ (j : Nat) t v, Tryz.f3.params[j]? = some t → args[j]? = some v → Value.okWide Tryz.prog W .any base t v := hval0
  have hW' := hW
  obtain ⟨p, q, hA0, hV, rfl, hfz, hnd⟩ := hW
  have hA : DataW.TrodAll enc Tryz.prog W 0 (fun _ => true) true Tryz.f3.params.toList args.toList ds p := hA0
  rw [Tryz.params3] at hA hval
  obtain ⟨v0, vs0, d0, ds0, p0, q0, hargs, rfl, rfl, h0, r0⟩ := trodAll_cons hA
  obtain ⟨rfl, rfl, rfl⟩ := trodAll_nil r0
  obtain rfl : args = #[v0] := by cases args; simp_all
  obtain ⟨rfl, rfl⟩ := trodVars_none hV
  have k0 := h0
  have lt0 : ∀ x ∈ p0, x.block < W.heap.size := by obtain ⟨m, hm⟩ := k0; exact DataW.trod_lt m _ _ _ hm
  obtain ⟨f0, x0, c0, rfl, iv0, sm0⟩ := K.open_blkA (hval 0 26 v0 rfl rfl) h0 (fun n hn => by have := List.all_eq_true.1 hsz n (DataW.weights_mem_each (j := 0) rfl rfl n hn); simpa using this)
  clear hA0 hval0
  have hT := Mk.of_laid hL
  refine (K.blockChecks_law iv0 sm0 hT).mono fun e W' ⟨he, bel⟩ => ?_
  subst he
  exact ⟨_, rfl, _, _, _, [], _, [], hW', trodAll_mk1 (shut_bool Tryz.underlying4 _), (trodAll_cons_mk (Below.trod Tryz.laid (by kernel_rfl) (of_decide_eq_true (by kernel_rfl)) k0 bel lt0) trodAll_mk0), rfl, bel.frame _, fun h => by cases h⟩

theorem over : Rows.blockChecksRow.holds Tryz.pinned (OpenSpec.ofChange Rows.blockChecksSpec) :=
  OpenClaim.holds_of_wide 3 Tryz.f3 rfl rfl rfl rfl rfl rfl rfl ⟨rfl, rfl, rfl, rfl, rfl⟩ rfl rfl rfl rfl rfl (by kernel_rfl) Tryz.func3 (by kernel_rfl)
    (of_decide_eq_true (by kernel_rfl)) (by unfold Func.isWrapper; first | (rw [if_pos (by decide +kernel)]; kernel_rfl) | (rw [if_neg (by decide +kernel)]; exact ⟨rfl, rfl⟩))
    (fun os started H enc _ => lifted os started H enc)

/-- The statement: the tied card. -/
theorem proved : Rows.BlockChecksCardSaid :=
  Claim7.holds_tied_plain_at .later [] [.data] true (true, "5b8e71136d18ad0beb00200b58e3df34c33f2e0ff157dfff6c07f73d723e1b9a") false
    over (fun _ h => by cases h) (by kernel_rfl) (fun _ h => by cases h) blockChecks_row_tie rfl ⟨rfl, rfl⟩ (by kernel_rfl) rfl
    (fun f fn hf hfn => by
      obtain rfl : f = 3 := Option.some.inj ((show Tryz.prog.funcNamed Rows.blockChecksRow.func = some 3 by kernel_rfl).symm.trans hf) |>.symm
      obtain rfl : fn = Tryz.f3 := (Option.some.inj (Tryz.func3.symm.trans hfn)).symm
      exact ⟨by kernel_rfl, fun j t ht => by
        rw [Tryz.params3] at ht
        have hm : t ∈ [26] := by simpa using Array.mem_of_getElem? ht
        have hall : ([26].all fun u => !Tryz.prog.wantsStandIn u) = true := by kernel_rfl
        exact (show Tryz.prog.wantsStandIn t = false by simpa using List.all_eq_true.1 hall t hm)⟩)
    (by kernel_rfl)
end Go.Proofs.YtlamdhekjlnccaaGreatDoor.blockChecks
