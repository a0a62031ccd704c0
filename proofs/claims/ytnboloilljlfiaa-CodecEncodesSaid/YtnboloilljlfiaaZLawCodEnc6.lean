/- Texts for LawCodEnc, part 6 of 7. -/
import Derived.Test.YtnboloilljlfiaaZLawCodEnc5
/- Values: the document's check (scrivenerref5.check, Check): lists and structs. -/
namespace Go.Proofs.Ytnboloilljlfiaa
open Go.RowKit
namespace K
open Vl (formC formB_eq okN fields_iff)


set_option maxRecDepth 100000 in
set_option maxHeartbeats 16000000 in
theorem rchk_k8 {f : Nat} {w : World} {v : V} {cs : List Value} {m : Nat} {d : Int} (ih : ∀ {w : World} {v : V} {cs : List Value} (d : Int), IsV f w v cs → d = 17 - (m : Int) → Calls Try.prog 32 #[.agg cs.toArray, .int .i64 d] w fun e w' => e = .returned (.int .i64 (chk m v)) ∧ Below w.heap.size w w') (hd : d + 1 = 17 - (m : Int)) (hv : IsV (f + 1) w v cs) (q : v.k = 8) (_hd1 : d ≤ 16) (_hd0 : 0 ≤ d) :
    Calls Try.prog 32 #[.agg cs.toArray, .int .i64 d] w fun e w' => e = .returned (.int .i64 (chk (m + 1) v)) ∧ Below w.heap.size w w' := by
  obtain ⟨sn, sk, rfl, -, hn64, -, htz, ⟨np, nc, rfl, nl, nc2, nsz, nr⟩, ⟨sp, cap, rfl, hcap1, hcap2, hrow⟩⟩ := hv
  have hn : -9223372036854775808 ≤ v.n ∧ v.n ≤ 9223372036854775807 := by simp [Lit.wf, IntKind.min, IntKind.max, IntKind.bits, IntKind.signed] at hn64; omega
  clear hn64
  refine enter (args := [.agg (six v (.slice np v.names.length nc) (.slice sp v.kids.length cap)).toArray, .int .i64 d]) Try.func32 rfl Try.ntmps32 rfl ?_
  repeat (first | ((with_reducible refine WL.topT ?_ ?_); omega) | ((with_reducible refine WL.topF ?_ ?_); omega) | ((with_reducible refine WL.top64 ?_ ?_); omega) | refine WC.seq ?_ | refine WC.block ?_ | refine WC.region ?_ | refine WL.nil ?_ | refine WC.skip ?_ | refine WC.exit ?_ | refine WC.ret ?_ | refine WQ.then rfl ?_ | refine WQ.thenExit ?_ | refine WQ.thenRet ?_ | refine WQ.blk ?_ | refine WQ.blkRet ?_ | refine WQ.blkHere rfl ?_ | refine WQ.blkOther rfl ?_ | refine WL.pure rfl rfl rfl rfl ?_ | refine WL.on rfl rfl ?_ | refine WL.off rfl rfl rfl ?_ | refine WC.condTrue rfl ?_ | refine WC.condFalse rfl ?_)
  refine WL.box rfl rfl rfl rfl rfl fun g w1 hf => ?_
  have hR : VBlk 25 w1 g (six v (.slice np v.names.length nc) (.slice sp v.kids.length cap)) := hf.blk
  have hbel : Below w.heap.size w w1 := hf.below
  have c0 : w1.cell? ⟨g, 0, none⟩ = some (.int .i64 v.k) := hR.cell 0 (by simp)
  have c1 : w1.cell? ⟨g, 1, none⟩ = some (.int .i64 v.n) := hR.cell 1 (by simp)
  have c2 : w1.cell? ⟨g, 2, none⟩ = some (.int .i64 v.s) := hR.cell 2 (by simp)
  have c3 : w1.cell? ⟨g, 3, none⟩ = some (.string v.t) := hR.cell 3 (by simp)
  have c4 : w1.cell? ⟨g, 4, none⟩ = some (.slice np v.names.length nc) := hR.cell 4 (by simp)
  have c5 : w1.cell? ⟨g, 5, none⟩ = some (.slice sp v.kids.length cap) := hR.cell 5 (by simp)
  clear hf
  have hfc := formB_eq v
  have hB : bareB v = (decide (v.n = 0) && decide (v.s = 0)) := rfl
  have hP : plainB v = (decide (v.names.length = 0) && decide (v.kids.length = 0)) := rfl
  have hE := text_ne v
  have bad3 : formB v = false → Ending.returned (.int .i64 3) = .returned (.int .i64 (chk (m + 1) v)) ∧ Below w.heap.size w w1 := fun h => ⟨ret_i64 (chk_bad (shp_form3 h) (by decide)).symm, hbel⟩
  repeat (first | ((with_reducible refine WL.topT ?_ ?_); omega) | ((with_reducible refine WL.topF ?_ ?_); omega) | ((with_reducible refine WL.top64 ?_ ?_); omega) | refine WC.seq ?_ | refine WC.region ?_ | refine WL.nil ?_ | refine WC.skip ?_ | refine WC.exit ?_ | refine WC.ret ?_ | refine WQ.then rfl ?_ | refine WQ.thenExit ?_ | refine WQ.thenRet ?_ | refine WQ.blk ?_ | refine WQ.blkRet ?_ | refine WQ.blkHere rfl ?_ | refine WQ.blkOther rfl ?_ | refine WL.pure rfl rfl rfl rfl ?_ | refine WL.on rfl rfl ?_ | refine WL.off rfl rfl rfl ?_ | refine WL.load rfl rfl rfl rfl rfl rfl (by assumption) ?_ | refine WC.condTrue rfl ?_ | refine WC.condFalse rfl ?_)
  refine WL.as 5 (.bool (!noTextB v)) rfl (congrArg Value.bool hE) ?_
  refine WL.mid (fun _ : Unit => [(1, .int .i64 d), (2, .pointer (some ⟨g, 0, none⟩)), (5, .bool (!noTextB v)), (6, .bool (!plainB v))]) (fun _ w' => w1 = w') rfl ?_ ?_
  · by_cases hK : v.kids.length = 0
    · have hK0 : ¬ (0 : Int) < v.kids.length := by omega
      refine WL.as 19 (.bool false) rfl (congrArg Value.bool (decide_eq_false hK0)) ?_
      by_cases hN : v.names.length = 0
      · repeat (first | ((with_reducible refine WL.topT ?_ ?_); omega) | ((with_reducible refine WL.topF ?_ ?_); omega) | ((with_reducible refine WL.top64 ?_ ?_); omega) | refine WC.seq ?_ | refine WC.block ?_ | refine WC.region ?_ | refine WL.nil ?_ | refine WC.skip ?_ | refine WC.exit ?_ | refine WC.ret ?_ | refine WQ.then rfl ?_ | refine WQ.thenExit ?_ | refine WQ.thenRet ?_ | refine WQ.blk ?_ | refine WQ.blkRet ?_ | refine WQ.blkHere rfl ?_ | refine WQ.blkOther rfl ?_ | refine WL.pure rfl rfl rfl rfl ?_ | refine WL.on rfl rfl ?_ | refine WL.off rfl rfl rfl ?_ | refine WL.load rfl rfl rfl rfl rfl rfl (by assumption) ?_ | refine WC.condTrue rfl ?_ | refine WC.condFalse rfl ?_)
        exact WQ.meet () ⟨rfl, rfl, rfl, congrArg (fun b => some (Value.bool b)) (by rw [hP]; simp [hN, hK]), trivial⟩ rfl
      · repeat (first | ((with_reducible refine WL.topT ?_ ?_); omega) | ((with_reducible refine WL.topF ?_ ?_); omega) | ((with_reducible refine WL.top64 ?_ ?_); omega) | refine WC.seq ?_ | refine WC.block ?_ | refine WC.region ?_ | refine WL.nil ?_ | refine WC.skip ?_ | refine WC.exit ?_ | refine WC.ret ?_ | refine WQ.then rfl ?_ | refine WQ.thenExit ?_ | refine WQ.thenRet ?_ | refine WQ.blk ?_ | refine WQ.blkRet ?_ | refine WQ.blkHere rfl ?_ | refine WQ.blkOther rfl ?_ | refine WL.pure rfl rfl rfl rfl ?_ | refine WL.on rfl rfl ?_ | refine WL.off rfl rfl rfl ?_ | refine WL.load rfl rfl rfl rfl rfl rfl (by assumption) ?_ | refine WC.condTrue rfl ?_ | refine WC.condFalse rfl ?_)
        exact WQ.meet () ⟨rfl, rfl, rfl, congrArg (fun b => some (Value.bool b)) (by rw [hP]; simp [hN]), trivial⟩ rfl
    · have hK0 : (0 : Int) < v.kids.length := by omega
      refine WL.as 19 (.bool true) rfl (congrArg Value.bool (decide_eq_true hK0)) ?_
      repeat (first | ((with_reducible refine WL.topT ?_ ?_); omega) | ((with_reducible refine WL.topF ?_ ?_); omega) | ((with_reducible refine WL.top64 ?_ ?_); omega) | refine WC.seq ?_ | refine WC.block ?_ | refine WC.region ?_ | refine WL.nil ?_ | refine WC.skip ?_ | refine WC.exit ?_ | refine WC.ret ?_ | refine WQ.then rfl ?_ | refine WQ.thenExit ?_ | refine WQ.thenRet ?_ | refine WQ.blk ?_ | refine WQ.blkRet ?_ | refine WQ.blkHere rfl ?_ | refine WQ.blkOther rfl ?_ | refine WL.pure rfl rfl rfl rfl ?_ | refine WL.on rfl rfl ?_ | refine WL.off rfl rfl rfl ?_ | refine WL.load rfl rfl rfl rfl rfl rfl (by assumption) ?_ | refine WC.condTrue rfl ?_ | refine WC.condFalse rfl ?_)
      exact WQ.meet () ⟨rfl, rfl, rfl, congrArg (fun b => some (Value.bool b)) (by rw [hP]; simp [hK]), trivial⟩ rfl
  rintro _ _ rfl
  have shp5 : formB v = true → (16384 < v.t.size ∨ 200 < v.kids.length) → shp v = 5 := fun h1 h2 => by unfold shp; rw [if_neg (by rw [h1]; exact Bool.noConfusion), if_pos h2]
  have shp0 : formB v = true → v.t.size ≤ 16384 → v.kids.length ≤ 200 → (v.k = 9 → fieldsB v = true) → shp v = 0 := fun h1 h2 h3 h4 => by
    unfold shp
    rw [if_neg (by rw [h1]; exact Bool.noConfusion), if_neg (by omega), if_neg (fun h => by have := h4 h.1; rw [this] at h; exact Bool.noConfusion h.2)]
  have hEt : noTextB v = true → v.t.size = 0 := fun h => of_decide_eq_true h
  have hPk : plainB v = true → v.kids.length = 0 := fun h => by rw [hP] at h; rw [Bool.and_eq_true] at h; exact of_decide_eq_true h.2
  have chk0 : shp v = 0 → v.kids.length = 0 → chk (m + 1) v = 0 := fun h1 h2 => by
    unfold chk
    rw [if_pos h1, List.eq_nil_of_length_eq_zero h2]
    rfl
  clear hE hP

  clear nr nsz
  by_cases a1 : v.n = 0
  · skip
    by_cases a2 : v.s = 0
    · skip
      cases hE1 : noTextB v with
      | false =>
        rw [hE1] at hfc
        repeat (first | ((with_reducible refine WL.topT ?_ ?_); omega) | ((with_reducible refine WL.topF ?_ ?_); omega) | ((with_reducible refine WL.top64 ?_ ?_); omega) | refine WC.seq ?_ | refine WC.block ?_ | refine WC.region ?_ | refine WL.nil ?_ | refine WC.skip ?_ | refine WC.exit ?_ | refine WC.ret ?_ | refine WQ.then rfl ?_ | refine WQ.thenExit ?_ | refine WQ.thenRet ?_ | refine WQ.blk ?_ | refine WQ.blkRet ?_ | refine WQ.blkHere rfl ?_ | refine WQ.blkOther rfl ?_ | refine WL.pure rfl rfl rfl rfl ?_ | refine WL.on rfl rfl ?_ | refine WL.off rfl rfl rfl ?_ | refine WL.load rfl rfl rfl rfl rfl rfl (by assumption) ?_ | refine WC.condTrue rfl ?_ | refine WC.condFalse rfl ?_)
        exact WQ.ret1 rfl rfl (bad3 (by rw [hfc]; simp [formC, *]))
      | true =>
        rw [hE1] at hfc
        by_cases a3 : v.names.length = 0
        · skip
          by_cases a4 : 200 < v.kids.length
          · repeat (first | ((with_reducible refine WL.topT ?_ ?_); omega) | ((with_reducible refine WL.topF ?_ ?_); omega) | ((with_reducible refine WL.top64 ?_ ?_); omega) | refine WC.seq ?_ | refine WC.block ?_ | refine WC.region ?_ | refine WL.nil ?_ | refine WC.skip ?_ | refine WC.exit ?_ | refine WC.ret ?_ | refine WQ.then rfl ?_ | refine WQ.thenExit ?_ | refine WQ.thenRet ?_ | refine WQ.blk ?_ | refine WQ.blkRet ?_ | refine WQ.blkHere rfl ?_ | refine WQ.blkOther rfl ?_ | refine WL.pure rfl rfl rfl rfl ?_ | refine WL.on rfl rfl ?_ | refine WL.off rfl rfl rfl ?_ | refine WL.load rfl rfl rfl rfl rfl rfl (by assumption) ?_ | refine WC.condTrue rfl ?_ | refine WC.condFalse rfl ?_)
            exact WQ.ret1 rfl rfl ⟨ret_i64 (chk_bad (shp5 (by rw [hfc]; simp [formC, *]) (.inr a4)) (by decide)).symm, hbel⟩
          have h0 : shp v = 0 := shp0 (by rw [hfc]; simp [formC, *]) (by have := hEt hE1; omega) (by omega) (fun h => by omega)
          have hchk : chk (m + 1) v = firstBad (v.kids.map (chk m)) := by
            conv => lhs; unfold chk
            rw [if_pos h0]
          have hb1 : Below w1.heap.size w1 w1 := Below.refl _ _
          repeat (first | ((with_reducible refine WL.topT ?_ ?_); omega) | ((with_reducible refine WL.topF ?_ ?_); omega) | ((with_reducible refine WL.top64 ?_ ?_); omega) | refine WC.seq ?_ | refine WC.block ?_ | refine WC.region ?_ | refine WL.nil ?_ | refine WC.skip ?_ | refine WC.exit ?_ | refine WC.ret ?_ | refine WQ.then rfl ?_ | refine WQ.thenExit ?_ | refine WQ.thenRet ?_ | refine WQ.blk ?_ | refine WQ.blkRet ?_ | refine WQ.blkHere rfl ?_ | refine WQ.blkOther rfl ?_ | refine WL.pure rfl rfl rfl rfl ?_ | refine WL.on rfl rfl ?_ | refine WL.off rfl rfl rfl ?_ | refine WL.load rfl rfl rfl rfl rfl rfl (by assumption) ?_ | refine WC.condTrue rfl ?_ | refine WC.condFalse rfl ?_)
          refine WC.loop (fun i : Nat => [(1, .int .i64 d), (2, .pointer (some ⟨g, 0, none⟩)), (8, .int .i64 i)]) (fun i w' => i ≤ v.kids.length ∧ Below w1.heap.size w1 w' ∧ ∀ j, j < i → chk m (v.kids.getD j noV) = 0) (fun i => v.kids.length - i) 0 ⟨rfl, rfl, rfl, trivial⟩ ⟨Nat.zero_le _, hb1, fun j hj => absurd hj (by omega)⟩ ?_
          clear hb1 c0 c1 c2 c3 c4 c5
          rintro i wr ⟨hi, hbr, hall⟩
          have hgw : g < w1.heap.size := hR.lt
          have c5 : wr.cell? ⟨g, 5, none⟩ = some (.slice sp v.kids.length cap) := (hR.below hbr hgw).cell 5 (by simp)
          have hbelr : Below w.heap.size w wr := hbel.trans (hbr.mono hbel.size)
          by_cases hik : i < v.kids.length
          · obtain ⟨kb, ko, rfl, hkb, hcells⟩ := hrow (by omega)
            obtain ⟨c, hc6, hci, hcr⟩ := hcells i hik
            clear hrow hcells
            have hcr' : wr.rangeAt kb (ko + i * 6) c := fun j u hu => by rw [hbelr.cell (p := ⟨kb, ko + i * 6 + j, none⟩) hkb]; exact hcr j u hu
            repeat (first | ((with_reducible refine WL.topT ?_ ?_); omega) | ((with_reducible refine WL.topF ?_ ?_); omega) | ((with_reducible refine WL.top64 ?_ ?_); omega) | refine WC.seq ?_ | refine WC.block ?_ | refine WC.region ?_ | refine WL.nil ?_ | refine WC.skip ?_ | refine WC.exit ?_ | refine WC.ret ?_ | refine WQ.then rfl ?_ | refine WQ.thenExit ?_ | refine WQ.thenRet ?_ | refine WQ.blk ?_ | refine WQ.blkRet ?_ | refine WQ.blkHere rfl ?_ | refine WQ.blkOther rfl ?_ | refine WL.pure rfl rfl rfl rfl ?_ | refine WL.on rfl rfl ?_ | refine WL.off rfl rfl rfl ?_ | refine WL.load rfl rfl rfl rfl rfl rfl (by assumption) ?_ | refine WC.condTrue rfl ?_ | refine WC.condFalse rfl ?_)
            refine WL.idx i (ko + i * 6) rfl rfl rfl rfl rfl rfl rfl rfl hik rfl ?_
            refine WL.loadMid rfl rfl rfl rfl rfl rfl hcr' hc6 ?_
            repeat (first | ((with_reducible refine WL.topT ?_ ?_); omega) | ((with_reducible refine WL.topF ?_ ?_); omega) | ((with_reducible refine WL.top64 ?_ ?_); omega) | refine WC.seq ?_ | refine WC.block ?_ | refine WC.region ?_ | refine WL.nil ?_ | refine WC.skip ?_ | refine WC.exit ?_ | refine WC.ret ?_ | refine WQ.then rfl ?_ | refine WQ.thenExit ?_ | refine WQ.thenRet ?_ | refine WQ.blk ?_ | refine WQ.blkRet ?_ | refine WQ.blkHere rfl ?_ | refine WQ.blkOther rfl ?_ | refine WL.pure rfl rfl rfl rfl ?_ | refine WL.on rfl rfl ?_ | refine WL.off rfl rfl rfl ?_ | refine WC.condTrue rfl ?_ | refine WC.condFalse rfl ?_)
            refine WL.call rfl rfl rfl rfl rfl Try.func32 rfl (by kernel_rfl) (ih (d + 1) (hci.below hbelr) hd) ?_
            rintro e w4 ⟨rfl, hb4⟩
            refine ⟨_, rfl, ?_⟩
            have hb4' : Below w1.heap.size w1 w4 := hbr.trans (hb4.mono hbr.size)
            by_cases h0 : chk m (v.kids.getD i noV) = 0
            · repeat (first | ((with_reducible refine WL.topT ?_ ?_); omega) | ((with_reducible refine WL.topF ?_ ?_); omega) | ((with_reducible refine WL.top64 ?_ ?_); omega) | refine WC.seq ?_ | refine WC.block ?_ | refine WC.region ?_ | refine WL.nil ?_ | refine WC.skip ?_ | refine WC.exit ?_ | refine WC.ret ?_ | refine WQ.then rfl ?_ | refine WQ.thenExit ?_ | refine WQ.thenRet ?_ | refine WQ.blk ?_ | refine WQ.blkRet ?_ | refine WQ.blkHere rfl ?_ | refine WQ.blkOther rfl ?_ | refine WL.pure rfl rfl rfl rfl ?_ | refine WL.on rfl rfl ?_ | refine WL.off rfl rfl rfl ?_ | refine WC.condTrue rfl ?_ | refine WC.condFalse rfl ?_)
              refine WQ.again (i + 1) ⟨rfl, rfl, rfl, trivial⟩ ⟨hik, hb4', fun j hj => (Nat.lt_succ_iff_lt_or_eq.1 hj).elim (hall j) (fun e => by rw [e]; exact h0)⟩ (by show v.kids.length - (i + 1) < v.kids.length - i; omega)
            · have hfb : chk (m + 1) v = chk m (v.kids.getD i noV) := by
                rw [hchk, firstBad_take (i := i) (by rw [List.length_map]; exact hik) (fun j hj => by rw [chk_map m v.kids j (by omega)]; exact hall j hj) (by rw [chk_map m v.kids i hik]; exact h0), chk_map m v.kids i hik]
              repeat (first | ((with_reducible refine WL.topT ?_ ?_); omega) | ((with_reducible refine WL.topF ?_ ?_); omega) | ((with_reducible refine WL.top64 ?_ ?_); omega) | refine WC.seq ?_ | refine WC.block ?_ | refine WC.region ?_ | refine WL.nil ?_ | refine WC.skip ?_ | refine WC.exit ?_ | refine WC.ret ?_ | refine WQ.then rfl ?_ | refine WQ.thenExit ?_ | refine WQ.thenRet ?_ | refine WQ.blk ?_ | refine WQ.blkRet ?_ | refine WQ.blkHere rfl ?_ | refine WQ.blkOther rfl ?_ | refine WL.pure rfl rfl rfl rfl ?_ | refine WL.on rfl rfl ?_ | refine WL.off rfl rfl rfl ?_ | refine WC.condTrue rfl ?_ | refine WC.condFalse rfl ?_)
              exact WQ.ret1 rfl rfl ⟨ret_i64 hfb.symm, hbel.trans (hb4'.mono hbel.size)⟩
          · obtain rfl : i = v.kids.length := by omega
            repeat (first | ((with_reducible refine WL.topT ?_ ?_); omega) | ((with_reducible refine WL.topF ?_ ?_); omega) | ((with_reducible refine WL.top64 ?_ ?_); omega) | refine WC.seq ?_ | refine WC.block ?_ | refine WC.region ?_ | refine WL.nil ?_ | refine WC.skip ?_ | refine WC.exit ?_ | refine WC.ret ?_ | refine WQ.then rfl ?_ | refine WQ.thenExit ?_ | refine WQ.thenRet ?_ | refine WQ.blk ?_ | refine WQ.blkRet ?_ | refine WQ.blkHere rfl ?_ | refine WQ.blkOther rfl ?_ | refine WL.pure rfl rfl rfl rfl ?_ | refine WL.on rfl rfl ?_ | refine WL.off rfl rfl rfl ?_ | refine WL.load rfl rfl rfl rfl rfl rfl (by assumption) ?_ | refine WC.condTrue rfl ?_ | refine WC.condFalse rfl ?_)
            refine WQ.ret1 rfl rfl ⟨ret_i64 ?_, hbelr⟩
            rw [hchk]
            exact (firstBad_all fun j hj => by rw [List.length_map] at hj; rw [chk_map m v.kids j hj]; exact hall j hj).symm
        · skip
          repeat (first | ((with_reducible refine WL.topT ?_ ?_); omega) | ((with_reducible refine WL.topF ?_ ?_); omega) | ((with_reducible refine WL.top64 ?_ ?_); omega) | refine WC.seq ?_ | refine WC.block ?_ | refine WC.region ?_ | refine WL.nil ?_ | refine WC.skip ?_ | refine WC.exit ?_ | refine WC.ret ?_ | refine WQ.then rfl ?_ | refine WQ.thenExit ?_ | refine WQ.thenRet ?_ | refine WQ.blk ?_ | refine WQ.blkRet ?_ | refine WQ.blkHere rfl ?_ | refine WQ.blkOther rfl ?_ | refine WL.pure rfl rfl rfl rfl ?_ | refine WL.on rfl rfl ?_ | refine WL.off rfl rfl rfl ?_ | refine WL.load rfl rfl rfl rfl rfl rfl (by assumption) ?_ | refine WC.condTrue rfl ?_ | refine WC.condFalse rfl ?_)
          exact WQ.ret1 rfl rfl (bad3 (by rw [hfc]; simp [formC, *]))
    · skip
      repeat (first | ((with_reducible refine WL.topT ?_ ?_); omega) | ((with_reducible refine WL.topF ?_ ?_); omega) | ((with_reducible refine WL.top64 ?_ ?_); omega) | refine WC.seq ?_ | refine WC.block ?_ | refine WC.region ?_ | refine WL.nil ?_ | refine WC.skip ?_ | refine WC.exit ?_ | refine WC.ret ?_ | refine WQ.then rfl ?_ | refine WQ.thenExit ?_ | refine WQ.thenRet ?_ | refine WQ.blk ?_ | refine WQ.blkRet ?_ | refine WQ.blkHere rfl ?_ | refine WQ.blkOther rfl ?_ | refine WL.pure rfl rfl rfl rfl ?_ | refine WL.on rfl rfl ?_ | refine WL.off rfl rfl rfl ?_ | refine WL.load rfl rfl rfl rfl rfl rfl (by assumption) ?_ | refine WC.condTrue rfl ?_ | refine WC.condFalse rfl ?_)
      exact WQ.ret1 rfl rfl (bad3 (by rw [hfc]; simp [formC, *]))
  · skip
    repeat (first | ((with_reducible refine WL.topT ?_ ?_); omega) | ((with_reducible refine WL.topF ?_ ?_); omega) | ((with_reducible refine WL.top64 ?_ ?_); omega) | refine WC.seq ?_ | refine WC.block ?_ | refine WC.region ?_ | refine WL.nil ?_ | refine WC.skip ?_ | refine WC.exit ?_ | refine WC.ret ?_ | refine WQ.then rfl ?_ | refine WQ.thenExit ?_ | refine WQ.thenRet ?_ | refine WQ.blk ?_ | refine WQ.blkRet ?_ | refine WQ.blkHere rfl ?_ | refine WQ.blkOther rfl ?_ | refine WL.pure rfl rfl rfl rfl ?_ | refine WL.on rfl rfl ?_ | refine WL.off rfl rfl rfl ?_ | refine WL.load rfl rfl rfl rfl rfl rfl (by assumption) ?_ | refine WC.condTrue rfl ?_ | refine WC.condFalse rfl ?_)
    exact WQ.ret1 rfl rfl (bad3 (by rw [hfc]; simp [formC, *]))

set_option maxRecDepth 100000 in
set_option maxHeartbeats 16000000 in
theorem rchk_k9 {f : Nat} {w : World} {v : V} {cs : List Value} {m : Nat} {d : Int} (ih : ∀ {w : World} {v : V} {cs : List Value} (d : Int), IsV f w v cs → d = 17 - (m : Int) → Calls Try.prog 32 #[.agg cs.toArray, .int .i64 d] w fun e w' => e = .returned (.int .i64 (chk m v)) ∧ Below w.heap.size w w') (hd : d + 1 = 17 - (m : Int)) (hv : IsV (f + 1) w v cs) (q : v.k = 9) (_hd1 : d ≤ 16) (_hd0 : 0 ≤ d) :
    Calls Try.prog 32 #[.agg cs.toArray, .int .i64 d] w fun e w' => e = .returned (.int .i64 (chk (m + 1) v)) ∧ Below w.heap.size w w' := by
  obtain ⟨sn, sk, rfl, -, hn64, -, htz, ⟨np, nc, rfl, nl, nc2, nsz, nr⟩, ⟨sp, cap, rfl, hcap1, hcap2, hrow⟩⟩ := hv
  have hn : -9223372036854775808 ≤ v.n ∧ v.n ≤ 9223372036854775807 := by simp [Lit.wf, IntKind.min, IntKind.max, IntKind.bits, IntKind.signed] at hn64; omega
  clear hn64
  refine enter (args := [.agg (six v (.slice np v.names.length nc) (.slice sp v.kids.length cap)).toArray, .int .i64 d]) Try.func32 rfl Try.ntmps32 rfl ?_
  repeat (first | ((with_reducible refine WL.topT ?_ ?_); omega) | ((with_reducible refine WL.topF ?_ ?_); omega) | ((with_reducible refine WL.top64 ?_ ?_); omega) | refine WC.seq ?_ | refine WC.block ?_ | refine WC.region ?_ | refine WL.nil ?_ | refine WC.skip ?_ | refine WC.exit ?_ | refine WC.ret ?_ | refine WQ.then rfl ?_ | refine WQ.thenExit ?_ | refine WQ.thenRet ?_ | refine WQ.blk ?_ | refine WQ.blkRet ?_ | refine WQ.blkHere rfl ?_ | refine WQ.blkOther rfl ?_ | refine WL.pure rfl rfl rfl rfl ?_ | refine WL.on rfl rfl ?_ | refine WL.off rfl rfl rfl ?_ | refine WC.condTrue rfl ?_ | refine WC.condFalse rfl ?_)
  refine WL.box rfl rfl rfl rfl rfl fun g w1 hf => ?_
  have hR : VBlk 25 w1 g (six v (.slice np v.names.length nc) (.slice sp v.kids.length cap)) := hf.blk
  have hbel : Below w.heap.size w w1 := hf.below
  have c0 : w1.cell? ⟨g, 0, none⟩ = some (.int .i64 v.k) := hR.cell 0 (by simp)
  have c1 : w1.cell? ⟨g, 1, none⟩ = some (.int .i64 v.n) := hR.cell 1 (by simp)
  have c2 : w1.cell? ⟨g, 2, none⟩ = some (.int .i64 v.s) := hR.cell 2 (by simp)
  have c3 : w1.cell? ⟨g, 3, none⟩ = some (.string v.t) := hR.cell 3 (by simp)
  have c4 : w1.cell? ⟨g, 4, none⟩ = some (.slice np v.names.length nc) := hR.cell 4 (by simp)
  have c5 : w1.cell? ⟨g, 5, none⟩ = some (.slice sp v.kids.length cap) := hR.cell 5 (by simp)
  clear hf
  have hfc := formB_eq v
  have hB : bareB v = (decide (v.n = 0) && decide (v.s = 0)) := rfl
  have hP : plainB v = (decide (v.names.length = 0) && decide (v.kids.length = 0)) := rfl
  have hE := text_ne v
  have bad3 : formB v = false → Ending.returned (.int .i64 3) = .returned (.int .i64 (chk (m + 1) v)) ∧ Below w.heap.size w w1 := fun h => ⟨ret_i64 (chk_bad (shp_form3 h) (by decide)).symm, hbel⟩
  repeat (first | ((with_reducible refine WL.topT ?_ ?_); omega) | ((with_reducible refine WL.topF ?_ ?_); omega) | ((with_reducible refine WL.top64 ?_ ?_); omega) | refine WC.seq ?_ | refine WC.region ?_ | refine WL.nil ?_ | refine WC.skip ?_ | refine WC.exit ?_ | refine WC.ret ?_ | refine WQ.then rfl ?_ | refine WQ.thenExit ?_ | refine WQ.thenRet ?_ | refine WQ.blk ?_ | refine WQ.blkRet ?_ | refine WQ.blkHere rfl ?_ | refine WQ.blkOther rfl ?_ | refine WL.pure rfl rfl rfl rfl ?_ | refine WL.on rfl rfl ?_ | refine WL.off rfl rfl rfl ?_ | refine WL.load rfl rfl rfl rfl rfl rfl (by assumption) ?_ | refine WC.condTrue rfl ?_ | refine WC.condFalse rfl ?_)
  refine WL.as 5 (.bool (!noTextB v)) rfl (congrArg Value.bool hE) ?_
  refine WL.mid (fun _ : Unit => [(1, .int .i64 d), (2, .pointer (some ⟨g, 0, none⟩)), (5, .bool (!noTextB v)), (6, .bool (!plainB v))]) (fun _ w' => w1 = w') rfl ?_ ?_
  · by_cases hK : v.kids.length = 0
    · have hK0 : ¬ (0 : Int) < v.kids.length := by omega
      refine WL.as 19 (.bool false) rfl (congrArg Value.bool (decide_eq_false hK0)) ?_
      by_cases hN : v.names.length = 0
      · repeat (first | ((with_reducible refine WL.topT ?_ ?_); omega) | ((with_reducible refine WL.topF ?_ ?_); omega) | ((with_reducible refine WL.top64 ?_ ?_); omega) | refine WC.seq ?_ | refine WC.block ?_ | refine WC.region ?_ | refine WL.nil ?_ | refine WC.skip ?_ | refine WC.exit ?_ | refine WC.ret ?_ | refine WQ.then rfl ?_ | refine WQ.thenExit ?_ | refine WQ.thenRet ?_ | refine WQ.blk ?_ | refine WQ.blkRet ?_ | refine WQ.blkHere rfl ?_ | refine WQ.blkOther rfl ?_ | refine WL.pure rfl rfl rfl rfl ?_ | refine WL.on rfl rfl ?_ | refine WL.off rfl rfl rfl ?_ | refine WL.load rfl rfl rfl rfl rfl rfl (by assumption) ?_ | refine WC.condTrue rfl ?_ | refine WC.condFalse rfl ?_)
        exact WQ.meet () ⟨rfl, rfl, rfl, congrArg (fun b => some (Value.bool b)) (by rw [hP]; simp [hN, hK]), trivial⟩ rfl
      · repeat (first | ((with_reducible refine WL.topT ?_ ?_); omega) | ((with_reducible refine WL.topF ?_ ?_); omega) | ((with_reducible refine WL.top64 ?_ ?_); omega) | refine WC.seq ?_ | refine WC.block ?_ | refine WC.region ?_ | refine WL.nil ?_ | refine WC.skip ?_ | refine WC.exit ?_ | refine WC.ret ?_ | refine WQ.then rfl ?_ | refine WQ.thenExit ?_ | refine WQ.thenRet ?_ | refine WQ.blk ?_ | refine WQ.blkRet ?_ | refine WQ.blkHere rfl ?_ | refine WQ.blkOther rfl ?_ | refine WL.pure rfl rfl rfl rfl ?_ | refine WL.on rfl rfl ?_ | refine WL.off rfl rfl rfl ?_ | refine WL.load rfl rfl rfl rfl rfl rfl (by assumption) ?_ | refine WC.condTrue rfl ?_ | refine WC.condFalse rfl ?_)
        exact WQ.meet () ⟨rfl, rfl, rfl, congrArg (fun b => some (Value.bool b)) (by rw [hP]; simp [hN]), trivial⟩ rfl
    · have hK0 : (0 : Int) < v.kids.length := by omega
      refine WL.as 19 (.bool true) rfl (congrArg Value.bool (decide_eq_true hK0)) ?_
      repeat (first | ((with_reducible refine WL.topT ?_ ?_); omega) | ((with_reducible refine WL.topF ?_ ?_); omega) | ((with_reducible refine WL.top64 ?_ ?_); omega) | refine WC.seq ?_ | refine WC.block ?_ | refine WC.region ?_ | refine WL.nil ?_ | refine WC.skip ?_ | refine WC.exit ?_ | refine WC.ret ?_ | refine WQ.then rfl ?_ | refine WQ.thenExit ?_ | refine WQ.thenRet ?_ | refine WQ.blk ?_ | refine WQ.blkRet ?_ | refine WQ.blkHere rfl ?_ | refine WQ.blkOther rfl ?_ | refine WL.pure rfl rfl rfl rfl ?_ | refine WL.on rfl rfl ?_ | refine WL.off rfl rfl rfl ?_ | refine WL.load rfl rfl rfl rfl rfl rfl (by assumption) ?_ | refine WC.condTrue rfl ?_ | refine WC.condFalse rfl ?_)
      exact WQ.meet () ⟨rfl, rfl, rfl, congrArg (fun b => some (Value.bool b)) (by rw [hP]; simp [hK]), trivial⟩ rfl
  rintro _ _ rfl
  have shp5 : formB v = true → (16384 < v.t.size ∨ 200 < v.kids.length) → shp v = 5 := fun h1 h2 => by unfold shp; rw [if_neg (by rw [h1]; exact Bool.noConfusion), if_pos h2]
  have shp0 : formB v = true → v.t.size ≤ 16384 → v.kids.length ≤ 200 → (v.k = 9 → fieldsB v = true) → shp v = 0 := fun h1 h2 h3 h4 => by
    unfold shp
    rw [if_neg (by rw [h1]; exact Bool.noConfusion), if_neg (by omega), if_neg (fun h => by have := h4 h.1; rw [this] at h; exact Bool.noConfusion h.2)]
  have hEt : noTextB v = true → v.t.size = 0 := fun h => of_decide_eq_true h
  have hPk : plainB v = true → v.kids.length = 0 := fun h => by rw [hP] at h; rw [Bool.and_eq_true] at h; exact of_decide_eq_true h.2
  have chk0 : shp v = 0 → v.kids.length = 0 → chk (m + 1) v = 0 := fun h1 h2 => by
    unfold chk
    rw [if_pos h1, List.eq_nil_of_length_eq_zero h2]
    rfl
  clear hE hP

  by_cases a1 : v.n = 0
  · skip
    by_cases a2 : v.s = 0
    · skip
      cases hE1 : noTextB v with
      | false =>
        rw [hE1] at hfc
        repeat (first | ((with_reducible refine WL.topT ?_ ?_); omega) | ((with_reducible refine WL.topF ?_ ?_); omega) | ((with_reducible refine WL.top64 ?_ ?_); omega) | refine WC.seq ?_ | refine WC.block ?_ | refine WC.region ?_ | refine WL.nil ?_ | refine WC.skip ?_ | refine WC.exit ?_ | refine WC.ret ?_ | refine WQ.then rfl ?_ | refine WQ.thenExit ?_ | refine WQ.thenRet ?_ | refine WQ.blk ?_ | refine WQ.blkRet ?_ | refine WQ.blkHere rfl ?_ | refine WQ.blkOther rfl ?_ | refine WL.pure rfl rfl rfl rfl ?_ | refine WL.on rfl rfl ?_ | refine WL.off rfl rfl rfl ?_ | refine WL.load rfl rfl rfl rfl rfl rfl (by assumption) ?_ | refine WC.condTrue rfl ?_ | refine WC.condFalse rfl ?_)
        exact WQ.ret1 rfl rfl (bad3 (by rw [hfc]; simp [formC, *]))
      | true =>
        rw [hE1] at hfc
        have hform : formB v = true := by rw [hfc]; simp [formC, *]
        by_cases a4 : 200 < v.kids.length
        · repeat (first | ((with_reducible refine WL.topT ?_ ?_); omega) | ((with_reducible refine WL.topF ?_ ?_); omega) | ((with_reducible refine WL.top64 ?_ ?_); omega) | refine WC.seq ?_ | refine WC.block ?_ | refine WC.region ?_ | refine WL.nil ?_ | refine WC.skip ?_ | refine WC.exit ?_ | refine WC.ret ?_ | refine WQ.then rfl ?_ | refine WQ.thenExit ?_ | refine WQ.thenRet ?_ | refine WQ.blk ?_ | refine WQ.blkRet ?_ | refine WQ.blkHere rfl ?_ | refine WQ.blkOther rfl ?_ | refine WL.pure rfl rfl rfl rfl ?_ | refine WL.on rfl rfl ?_ | refine WL.off rfl rfl rfl ?_ | refine WL.load rfl rfl rfl rfl rfl rfl (by assumption) ?_ | refine WC.condTrue rfl ?_ | refine WC.condFalse rfl ?_)
          exact WQ.ret1 rfl rfl ⟨ret_i64 (chk_bad (shp5 hform (.inr a4)) (by decide)).symm, hbel⟩
        have hfi := fields_iff v
        have shp3 : fieldsB v = false → shp v = 3 := fun h => by
          unfold shp
          rw [if_neg (by rw [hform]; exact Bool.noConfusion), if_neg (by have := hEt hE1; omega), if_pos ⟨q, h⟩]
        by_cases a5 : v.names.length = v.kids.length
        · repeat (first | ((with_reducible refine WL.topT ?_ ?_); omega) | ((with_reducible refine WL.topF ?_ ?_); omega) | ((with_reducible refine WL.top64 ?_ ?_); omega) | refine WC.seq ?_ | refine WC.block ?_ | refine WC.region ?_ | refine WL.nil ?_ | refine WC.skip ?_ | refine WC.exit ?_ | refine WC.ret ?_ | refine WQ.then rfl ?_ | refine WQ.thenExit ?_ | refine WQ.thenRet ?_ | refine WQ.blk ?_ | refine WQ.blkRet ?_ | refine WQ.blkHere rfl ?_ | refine WQ.blkOther rfl ?_ | refine WL.pure rfl rfl rfl rfl ?_ | refine WL.on rfl rfl ?_ | refine WL.off rfl rfl rfl ?_ | refine WL.load rfl rfl rfl rfl rfl rfl (by assumption) ?_ | refine WC.condTrue rfl ?_ | refine WC.condFalse rfl ?_)
          refine WC.loop (fun i : Nat => [(1, .int .i64 d), (2, .pointer (some ⟨g, 0, none⟩)), (7, .int .i64 i)]) (fun i w' => i ≤ v.names.length ∧ Below w1.heap.size w1 w' ∧ ∀ j, j < i → okN v.names j = true) (fun i => v.names.length - i) 0 ⟨rfl, rfl, rfl, trivial⟩ ⟨Nat.zero_le _, Below.refl _ _, fun j hj => absurd hj (by omega)⟩ ?_
          rintro i wz ⟨hi, hbz, hall⟩
          have hgw : g < w1.heap.size := hR.lt
          have hRz : VBlk 25 wz g (six v (.slice np v.names.length nc) (.slice sp v.kids.length cap)) := hR.below hbz hgw
          have hbelz : Below w.heap.size w wz := hbel.trans (hbz.mono hbel.size)
          have z4 : wz.cell? ⟨g, 4, none⟩ = some (.slice np v.names.length nc) := hRz.cell 4 (by simp)
          by_cases hin : i < v.names.length
          · obtain ⟨nb, no, rfl, hnb, hnr⟩ := nr (by omega)
            have hnc := hnr i hin
            have hnp := hnr (i - 1) (by omega)
            have hnz := nsz i hin
            clear hnr nr hrow nsz
            have hok : okN v.names i = (isNameB (v.names.getD i noT) && (decide (i = 0) || Op.bytesLess (v.names.getD (i - 1) noT).toList (v.names.getD i noT).toList)) := rfl
            have hleq := Vl.leq_not (v.names.getD i noT).toList (v.names.getD (i - 1) noT).toList
            have hnm : isNameB (v.names.getD i noT) = (decide (1 ≤ (v.names.getD i noT).size) && decide ((v.names.getD i noT).size ≤ 40)) := rfl
            have badn : okN v.names i = false → Ending.returned (.int .i64 3) = .returned (.int .i64 (chk (m + 1) v)) := fun h => ret_i64 (chk_bad (shp3 (by
              cases hf : fieldsB v with
              | false => rfl
              | true => have := (hfi.1 hf).1 i hin; rw [h] at this; cases this)) (by decide)).symm
            generalize v.names.getD i noT = nm at hnc hnz hok hleq hnm
            generalize v.names.getD (i - 1) noT = pm at hnp hok hleq
            repeat (first | ((with_reducible refine WL.topT ?_ ?_); omega) | ((with_reducible refine WL.topF ?_ ?_); omega) | ((with_reducible refine WL.top64 ?_ ?_); omega) | refine WC.seq ?_ | refine WC.block ?_ | refine WC.region ?_ | refine WL.nil ?_ | refine WC.skip ?_ | refine WC.exit ?_ | refine WC.ret ?_ | refine WQ.then rfl ?_ | refine WQ.thenExit ?_ | refine WQ.thenRet ?_ | refine WQ.blk ?_ | refine WQ.blkRet ?_ | refine WQ.blkHere rfl ?_ | refine WQ.blkOther rfl ?_ | refine WL.pure rfl rfl rfl rfl ?_ | refine WL.on rfl rfl ?_ | refine WL.off rfl rfl rfl ?_ | refine WL.load rfl rfl rfl rfl rfl rfl (by assumption) ?_ | refine WC.condTrue rfl ?_ | refine WC.condFalse rfl ?_)
            refine WC.drawn 33 (fun wx => Below w.heap.size w wx ∧ VBlk 25 wx g (six v (.slice (some ⟨nb, no, none⟩) v.names.length nc) (.slice sp v.kids.length cap))) fun w2 hd2 => ?_
            have hS : Below w.heap.size w w2 ∧ VBlk 25 w2 g (six v (.slice (some ⟨nb, no, none⟩) v.names.length nc) (.slice sp v.kids.length cap)) := ⟨hbelz.trans (hd2.below _), hRz.below (hd2.below _) hRz.lt⟩
            have hb2 : Below w1.heap.size w1 w2 := hbz.trans (hd2.below _)
            by_cases x1 : nm.size < 1
            · skip
              (((first | refine WD.free 0 rfl (by kernel_rfl) rfl rfl (fun _ _ _ _ _ h => h) rfl rfl (.inr hS) ?_ | refine WD.skip 0 rfl (by kernel_rfl) rfl rfl (fun _ _ _ _ _ h => h) rfl (.inr hS) ?_); try (first | ((with_reducible refine WD.topT ?_ ?_); omega) | ((with_reducible refine WD.topF ?_ ?_); omega) | ((with_reducible refine WD.top64 ?_ ?_); omega))))
              refine WD.load 1 [3, 4, 5, 6, 7, 8, 9, 10, 11, 12, 13, 14, 15, 16, 17, 18, 19, 20, 21, 22, 23, 24, 25, 26, 27, 28, 29, 30, 31, 32, 33] rfl (by kernel_rfl) rfl rfl (fun _ _ _ _ _ h => h) rfl rfl rfl rfl (fun wx hx => hx.2.cell 4 (by simp)) hS ?_
              (((first | refine WD.free 2 rfl (by kernel_rfl) rfl rfl (fun _ _ _ _ _ h => h) rfl rfl (.inr hS) ?_ | refine WD.skip 2 rfl (by kernel_rfl) rfl rfl (fun _ _ _ _ _ h => h) rfl (.inr hS) ?_); try (first | ((with_reducible refine WD.topT ?_ ?_); omega) | ((with_reducible refine WD.topF ?_ ?_); omega) | ((with_reducible refine WD.top64 ?_ ?_); omega))))
              refine WD.idx 3 i (no + i) rfl (by kernel_rfl) rfl rfl (fun _ _ _ _ _ h => h) rfl rfl rfl rfl rfl rfl (by omega) (by omega) (.inr hS) ?_
              refine WD.load 4 [5, 6, 7, 8, 9, 10, 11, 12, 13, 14, 15, 16, 17, 18, 19, 20, 21, 22, 23, 24, 25, 26, 27, 28, 29, 30, 31, 32, 33] rfl (by kernel_rfl) rfl rfl (fun _ _ _ _ _ h => h) rfl rfl rfl rfl (fun wx hx => (hx.1.cell (p := ⟨nb, no + i, none⟩) hnb).trans hnc) hS ?_
              (((first | refine WD.free 5 rfl (by kernel_rfl) rfl rfl (fun _ _ _ _ _ h => h) rfl rfl (.inr hS) ?_ | refine WD.skip 5 rfl (by kernel_rfl) rfl rfl (fun _ _ _ _ _ h => h) rfl (.inr hS) ?_); try (first | ((with_reducible refine WD.topT ?_ ?_); omega) | ((with_reducible refine WD.topF ?_ ?_); omega) | ((with_reducible refine WD.top64 ?_ ?_); omega))); ((first | refine WD.free 6 rfl (by kernel_rfl) rfl rfl (fun _ _ _ _ _ h => h) rfl rfl (.inr hS) ?_ | refine WD.skip 6 rfl (by kernel_rfl) rfl rfl (fun _ _ _ _ _ h => h) rfl (.inr hS) ?_); try (first | ((with_reducible refine WD.topT ?_ ?_); omega) | ((with_reducible refine WD.topF ?_ ?_); omega) | ((with_reducible refine WD.top64 ?_ ?_); omega))); ((first | refine WD.free 7 rfl (by kernel_rfl) rfl rfl (fun _ _ _ _ _ h => h) rfl rfl (.inr hS) ?_ | refine WD.skip 7 rfl (by kernel_rfl) rfl rfl (fun _ _ _ _ _ h => h) rfl (.inr hS) ?_); try (first | ((with_reducible refine WD.topT ?_ ?_); omega) | ((with_reducible refine WD.topF ?_ ?_); omega) | ((with_reducible refine WD.top64 ?_ ?_); omega))); ((first | refine WD.free 8 rfl (by kernel_rfl) rfl rfl (fun _ _ _ _ _ h => h) rfl rfl (.inr hS) ?_ | refine WD.skip 8 rfl (by kernel_rfl) rfl rfl (fun _ _ _ _ _ h => h) rfl (.inr hS) ?_); try (first | ((with_reducible refine WD.topT ?_ ?_); omega) | ((with_reducible refine WD.topF ?_ ?_); omega) | ((with_reducible refine WD.top64 ?_ ?_); omega))))
              (((first | refine WD.free 9 rfl (by kernel_rfl) rfl rfl (fun _ _ _ _ _ h => h) rfl rfl (.inr hS) ?_ | refine WD.skip 9 rfl (by kernel_rfl) rfl rfl (fun _ _ _ _ _ h => h) rfl (.inr hS) ?_); try (first | ((with_reducible refine WD.topT ?_ ?_); omega) | ((with_reducible refine WD.topF ?_ ?_); omega) | ((with_reducible refine WD.top64 ?_ ?_); omega))); ((first | refine WD.free 10 rfl (by kernel_rfl) rfl rfl (fun _ _ _ _ _ h => h) rfl rfl (.inr hS) ?_ | refine WD.skip 10 rfl (by kernel_rfl) rfl rfl (fun _ _ _ _ _ h => h) rfl (.inr hS) ?_); try (first | ((with_reducible refine WD.topT ?_ ?_); omega) | ((with_reducible refine WD.topF ?_ ?_); omega) | ((with_reducible refine WD.top64 ?_ ?_); omega))); ((first | refine WD.free 11 rfl (by kernel_rfl) rfl rfl (fun _ _ _ _ _ h => h) rfl rfl (.inr hS) ?_ | refine WD.skip 11 rfl (by kernel_rfl) rfl rfl (fun _ _ _ _ _ h => h) rfl (.inr hS) ?_); try (first | ((with_reducible refine WD.topT ?_ ?_); omega) | ((with_reducible refine WD.topF ?_ ?_); omega) | ((with_reducible refine WD.top64 ?_ ?_); omega))); ((first | refine WD.free 12 rfl (by kernel_rfl) rfl rfl (fun _ _ _ _ _ h => h) rfl rfl (.inr hS) ?_ | refine WD.skip 12 rfl (by kernel_rfl) rfl rfl (fun _ _ _ _ _ h => h) rfl (.inr hS) ?_); try (first | ((with_reducible refine WD.topT ?_ ?_); omega) | ((with_reducible refine WD.topF ?_ ?_); omega) | ((with_reducible refine WD.top64 ?_ ?_); omega))); ((first | refine WD.free 13 rfl (by kernel_rfl) rfl rfl (fun _ _ _ _ _ h => h) rfl rfl (.inr hS) ?_ | refine WD.skip 13 rfl (by kernel_rfl) rfl rfl (fun _ _ _ _ _ h => h) rfl (.inr hS) ?_); try (first | ((with_reducible refine WD.topT ?_ ?_); omega) | ((with_reducible refine WD.topF ?_ ?_); omega) | ((with_reducible refine WD.top64 ?_ ?_); omega))); ((first | refine WD.free 14 rfl (by kernel_rfl) rfl rfl (fun _ _ _ _ _ h => h) rfl rfl (.inr hS) ?_ | refine WD.skip 14 rfl (by kernel_rfl) rfl rfl (fun _ _ _ _ _ h => h) rfl (.inr hS) ?_); try (first | ((with_reducible refine WD.topT ?_ ?_); omega) | ((with_reducible refine WD.topF ?_ ?_); omega) | ((with_reducible refine WD.top64 ?_ ?_); omega))); ((first | refine WD.free 15 rfl (by kernel_rfl) rfl rfl (fun _ _ _ _ _ h => h) rfl rfl (.inr hS) ?_ | refine WD.skip 15 rfl (by kernel_rfl) rfl rfl (fun _ _ _ _ _ h => h) rfl (.inr hS) ?_); try (first | ((with_reducible refine WD.topT ?_ ?_); omega) | ((with_reducible refine WD.topF ?_ ?_); omega) | ((with_reducible refine WD.top64 ?_ ?_); omega))); ((first | refine WD.free 16 rfl (by kernel_rfl) rfl rfl (fun _ _ _ _ _ h => h) rfl rfl (.inr hS) ?_ | refine WD.skip 16 rfl (by kernel_rfl) rfl rfl (fun _ _ _ _ _ h => h) rfl (.inr hS) ?_); try (first | ((with_reducible refine WD.topT ?_ ?_); omega) | ((with_reducible refine WD.topF ?_ ?_); omega) | ((with_reducible refine WD.top64 ?_ ?_); omega))))
              (((first | refine WD.free 17 rfl (by kernel_rfl) rfl rfl (fun _ _ _ _ _ h => h) rfl rfl (.inr hS) ?_ | refine WD.skip 17 rfl (by kernel_rfl) rfl rfl (fun _ _ _ _ _ h => h) rfl (.inr hS) ?_); try (first | ((with_reducible refine WD.topT ?_ ?_); omega) | ((with_reducible refine WD.topF ?_ ?_); omega) | ((with_reducible refine WD.top64 ?_ ?_); omega))); ((first | refine WD.free 18 rfl (by kernel_rfl) rfl rfl (fun _ _ _ _ _ h => h) rfl rfl (.inr hS) ?_ | refine WD.skip 18 rfl (by kernel_rfl) rfl rfl (fun _ _ _ _ _ h => h) rfl (.inr hS) ?_); try (first | ((with_reducible refine WD.topT ?_ ?_); omega) | ((with_reducible refine WD.topF ?_ ?_); omega) | ((with_reducible refine WD.top64 ?_ ?_); omega))); ((first | refine WD.free 19 rfl (by kernel_rfl) rfl rfl (fun _ _ _ _ _ h => h) rfl rfl (.inr hS) ?_ | refine WD.skip 19 rfl (by kernel_rfl) rfl rfl (fun _ _ _ _ _ h => h) rfl (.inr hS) ?_); try (first | ((with_reducible refine WD.topT ?_ ?_); omega) | ((with_reducible refine WD.topF ?_ ?_); omega) | ((with_reducible refine WD.top64 ?_ ?_); omega))); ((first | refine WD.free 20 rfl (by kernel_rfl) rfl rfl (fun _ _ _ _ _ h => h) rfl rfl (.inr hS) ?_ | refine WD.skip 20 rfl (by kernel_rfl) rfl rfl (fun _ _ _ _ _ h => h) rfl (.inr hS) ?_); try (first | ((with_reducible refine WD.topT ?_ ?_); omega) | ((with_reducible refine WD.topF ?_ ?_); omega) | ((with_reducible refine WD.top64 ?_ ?_); omega))))
              (((first | refine WD.free 21 rfl (by kernel_rfl) rfl rfl (fun _ _ _ _ _ h => h) rfl rfl (.inr hS) ?_ | refine WD.skip 21 rfl (by kernel_rfl) rfl rfl (fun _ _ _ _ _ h => h) rfl (.inr hS) ?_); try (first | ((with_reducible refine WD.topT ?_ ?_); omega) | ((with_reducible refine WD.topF ?_ ?_); omega) | ((with_reducible refine WD.top64 ?_ ?_); omega))); ((first | refine WD.free 22 rfl (by kernel_rfl) rfl rfl (fun _ _ _ _ _ h => h) rfl rfl (.inr hS) ?_ | refine WD.skip 22 rfl (by kernel_rfl) rfl rfl (fun _ _ _ _ _ h => h) rfl (.inr hS) ?_); try (first | ((with_reducible refine WD.topT ?_ ?_); omega) | ((with_reducible refine WD.topF ?_ ?_); omega) | ((with_reducible refine WD.top64 ?_ ?_); omega))); ((first | refine WD.free 23 rfl (by kernel_rfl) rfl rfl (fun _ _ _ _ _ h => h) rfl rfl (.inr hS) ?_ | refine WD.skip 23 rfl (by kernel_rfl) rfl rfl (fun _ _ _ _ _ h => h) rfl (.inr hS) ?_); try (first | ((with_reducible refine WD.topT ?_ ?_); omega) | ((with_reducible refine WD.topF ?_ ?_); omega) | ((with_reducible refine WD.top64 ?_ ?_); omega))); ((first | refine WD.free 24 rfl (by kernel_rfl) rfl rfl (fun _ _ _ _ _ h => h) rfl rfl (.inr hS) ?_ | refine WD.skip 24 rfl (by kernel_rfl) rfl rfl (fun _ _ _ _ _ h => h) rfl (.inr hS) ?_); try (first | ((with_reducible refine WD.topT ?_ ?_); omega) | ((with_reducible refine WD.topF ?_ ?_); omega) | ((with_reducible refine WD.top64 ?_ ?_); omega))); ((first | refine WD.free 25 rfl (by kernel_rfl) rfl rfl (fun _ _ _ _ _ h => h) rfl rfl (.inr hS) ?_ | refine WD.skip 25 rfl (by kernel_rfl) rfl rfl (fun _ _ _ _ _ h => h) rfl (.inr hS) ?_); try (first | ((with_reducible refine WD.topT ?_ ?_); omega) | ((with_reducible refine WD.topF ?_ ?_); omega) | ((with_reducible refine WD.top64 ?_ ?_); omega))); ((first | refine WD.free 26 rfl (by kernel_rfl) rfl rfl (fun _ _ _ _ _ h => h) rfl rfl (.inr hS) ?_ | refine WD.skip 26 rfl (by kernel_rfl) rfl rfl (fun _ _ _ _ _ h => h) rfl (.inr hS) ?_); try (first | ((with_reducible refine WD.topT ?_ ?_); omega) | ((with_reducible refine WD.topF ?_ ?_); omega) | ((with_reducible refine WD.top64 ?_ ?_); omega))); ((first | refine WD.free 27 rfl (by kernel_rfl) rfl rfl (fun _ _ _ _ _ h => h) rfl rfl (.inr hS) ?_ | refine WD.skip 27 rfl (by kernel_rfl) rfl rfl (fun _ _ _ _ _ h => h) rfl (.inr hS) ?_); try (first | ((with_reducible refine WD.topT ?_ ?_); omega) | ((with_reducible refine WD.topF ?_ ?_); omega) | ((with_reducible refine WD.top64 ?_ ?_); omega))); ((first | refine WD.free 28 rfl (by kernel_rfl) rfl rfl (fun _ _ _ _ _ h => h) rfl rfl (.inr hS) ?_ | refine WD.skip 28 rfl (by kernel_rfl) rfl rfl (fun _ _ _ _ _ h => h) rfl (.inr hS) ?_); try (first | ((with_reducible refine WD.topT ?_ ?_); omega) | ((with_reducible refine WD.topF ?_ ?_); omega) | ((with_reducible refine WD.top64 ?_ ?_); omega))); ((first | refine WD.free 29 rfl (by kernel_rfl) rfl rfl (fun _ _ _ _ _ h => h) rfl rfl (.inr hS) ?_ | refine WD.skip 29 rfl (by kernel_rfl) rfl rfl (fun _ _ _ _ _ h => h) rfl (.inr hS) ?_); try (first | ((with_reducible refine WD.topT ?_ ?_); omega) | ((with_reducible refine WD.topF ?_ ?_); omega) | ((with_reducible refine WD.top64 ?_ ?_); omega))); ((first | refine WD.free 30 rfl (by kernel_rfl) rfl rfl (fun _ _ _ _ _ h => h) rfl rfl (.inr hS) ?_ | refine WD.skip 30 rfl (by kernel_rfl) rfl rfl (fun _ _ _ _ _ h => h) rfl (.inr hS) ?_); try (first | ((with_reducible refine WD.topT ?_ ?_); omega) | ((with_reducible refine WD.topF ?_ ?_); omega) | ((with_reducible refine WD.top64 ?_ ?_); omega))); ((first | refine WD.free 31 rfl (by kernel_rfl) rfl rfl (fun _ _ _ _ _ h => h) rfl rfl (.inr hS) ?_ | refine WD.skip 31 rfl (by kernel_rfl) rfl rfl (fun _ _ _ _ _ h => h) rfl (.inr hS) ?_); try (first | ((with_reducible refine WD.topT ?_ ?_); omega) | ((with_reducible refine WD.topF ?_ ?_); omega) | ((with_reducible refine WD.top64 ?_ ?_); omega))); ((first | refine WD.free 32 rfl (by kernel_rfl) rfl rfl (fun _ _ _ _ _ h => h) rfl rfl (.inr hS) ?_ | refine WD.skip 32 rfl (by kernel_rfl) rfl rfl (fun _ _ _ _ _ h => h) rfl (.inr hS) ?_); try (first | ((with_reducible refine WD.topT ?_ ?_); omega) | ((with_reducible refine WD.topF ?_ ?_); omega) | ((with_reducible refine WD.top64 ?_ ?_); omega))))
              refine WD.one 33 (by kernel_rfl) rfl ?_
              refine WL.pure rfl rfl rfl rfl ?_
              refine WL.nil (WQ.dk (.inl rfl) ?_)
              refine WD.done (by kernel_rfl) ?_
              repeat (first | ((with_reducible refine WL.topT ?_ ?_); omega) | ((with_reducible refine WL.topF ?_ ?_); omega) | ((with_reducible refine WL.top64 ?_ ?_); omega) | refine WC.seq ?_ | refine WC.block ?_ | refine WC.region ?_ | refine WL.nil ?_ | refine WC.skip ?_ | refine WC.exit ?_ | refine WC.ret ?_ | refine WQ.then rfl ?_ | refine WQ.thenExit ?_ | refine WQ.thenRet ?_ | refine WQ.blk ?_ | refine WQ.blkRet ?_ | refine WQ.blkHere rfl ?_ | refine WQ.blkOther rfl ?_ | refine WL.pure rfl rfl rfl rfl ?_ | refine WL.on rfl rfl ?_ | refine WL.off rfl rfl rfl ?_ | refine WC.condTrue rfl ?_ | refine WC.condFalse rfl ?_)
              exact WQ.ret1 rfl rfl ⟨badn (by rw [hok, hnm, decide_eq_false (by omega)]; rfl), hS.1⟩
            by_cases x2 : 40 < nm.size
            · skip
              (((first | refine WD.free 0 rfl (by kernel_rfl) rfl rfl (fun _ _ _ _ _ h => h) rfl rfl (.inr hS) ?_ | refine WD.skip 0 rfl (by kernel_rfl) rfl rfl (fun _ _ _ _ _ h => h) rfl (.inr hS) ?_); try (first | ((with_reducible refine WD.topT ?_ ?_); omega) | ((with_reducible refine WD.topF ?_ ?_); omega) | ((with_reducible refine WD.top64 ?_ ?_); omega))))
              refine WD.load 1 [3, 4, 5, 6, 7, 8, 9, 10, 11, 12, 13, 14, 15, 16, 17, 18, 19, 20, 21, 22, 23, 24, 25, 26, 27, 28, 29, 30, 31, 32, 33] rfl (by kernel_rfl) rfl rfl (fun _ _ _ _ _ h => h) rfl rfl rfl rfl (fun wx hx => hx.2.cell 4 (by simp)) hS ?_
              (((first | refine WD.free 2 rfl (by kernel_rfl) rfl rfl (fun _ _ _ _ _ h => h) rfl rfl (.inr hS) ?_ | refine WD.skip 2 rfl (by kernel_rfl) rfl rfl (fun _ _ _ _ _ h => h) rfl (.inr hS) ?_); try (first | ((with_reducible refine WD.topT ?_ ?_); omega) | ((with_reducible refine WD.topF ?_ ?_); omega) | ((with_reducible refine WD.top64 ?_ ?_); omega))))
              refine WD.idx 3 i (no + i) rfl (by kernel_rfl) rfl rfl (fun _ _ _ _ _ h => h) rfl rfl rfl rfl rfl rfl (by omega) (by omega) (.inr hS) ?_
              refine WD.load 4 [5, 6, 7, 8, 9, 10, 11, 12, 13, 14, 15, 16, 17, 18, 19, 20, 21, 22, 23, 24, 25, 26, 27, 28, 29, 30, 31, 32, 33] rfl (by kernel_rfl) rfl rfl (fun _ _ _ _ _ h => h) rfl rfl rfl rfl (fun wx hx => (hx.1.cell (p := ⟨nb, no + i, none⟩) hnb).trans hnc) hS ?_
              (((first | refine WD.free 5 rfl (by kernel_rfl) rfl rfl (fun _ _ _ _ _ h => h) rfl rfl (.inr hS) ?_ | refine WD.skip 5 rfl (by kernel_rfl) rfl rfl (fun _ _ _ _ _ h => h) rfl (.inr hS) ?_); try (first | ((with_reducible refine WD.topT ?_ ?_); omega) | ((with_reducible refine WD.topF ?_ ?_); omega) | ((with_reducible refine WD.top64 ?_ ?_); omega))); ((first | refine WD.free 6 rfl (by kernel_rfl) rfl rfl (fun _ _ _ _ _ h => h) rfl rfl (.inr hS) ?_ | refine WD.skip 6 rfl (by kernel_rfl) rfl rfl (fun _ _ _ _ _ h => h) rfl (.inr hS) ?_); try (first | ((with_reducible refine WD.topT ?_ ?_); omega) | ((with_reducible refine WD.topF ?_ ?_); omega) | ((with_reducible refine WD.top64 ?_ ?_); omega))); ((first | refine WD.free 7 rfl (by kernel_rfl) rfl rfl (fun _ _ _ _ _ h => h) rfl rfl (.inr hS) ?_ | refine WD.skip 7 rfl (by kernel_rfl) rfl rfl (fun _ _ _ _ _ h => h) rfl (.inr hS) ?_); try (first | ((with_reducible refine WD.topT ?_ ?_); omega) | ((with_reducible refine WD.topF ?_ ?_); omega) | ((with_reducible refine WD.top64 ?_ ?_); omega))); ((first | refine WD.free 8 rfl (by kernel_rfl) rfl rfl (fun _ _ _ _ _ h => h) rfl rfl (.inr hS) ?_ | refine WD.skip 8 rfl (by kernel_rfl) rfl rfl (fun _ _ _ _ _ h => h) rfl (.inr hS) ?_); try (first | ((with_reducible refine WD.topT ?_ ?_); omega) | ((with_reducible refine WD.topF ?_ ?_); omega) | ((with_reducible refine WD.top64 ?_ ?_); omega))))
              refine WD.load 9 [11, 12, 13, 14, 15, 16, 17, 18, 19, 20, 21, 22, 23, 24, 25, 26, 27, 28, 29, 30, 31, 32, 33] rfl (by kernel_rfl) rfl rfl (fun _ _ _ _ _ h => h) rfl rfl rfl rfl (fun wx hx => hx.2.cell 4 (by simp)) hS ?_
              (((first | refine WD.free 10 rfl (by kernel_rfl) rfl rfl (fun _ _ _ _ _ h => h) rfl rfl (.inr hS) ?_ | refine WD.skip 10 rfl (by kernel_rfl) rfl rfl (fun _ _ _ _ _ h => h) rfl (.inr hS) ?_); try (first | ((with_reducible refine WD.topT ?_ ?_); omega) | ((with_reducible refine WD.topF ?_ ?_); omega) | ((with_reducible refine WD.top64 ?_ ?_); omega))))
              refine WD.idx 11 i (no + i) rfl (by kernel_rfl) rfl rfl (fun _ _ _ _ _ h => h) rfl rfl rfl rfl rfl rfl (by omega) (by omega) (.inr hS) ?_
              refine WD.load 12 [13, 14, 15, 16, 17, 18, 19, 20, 21, 22, 23, 24, 25, 26, 27, 28, 29, 30, 31, 32, 33] rfl (by kernel_rfl) rfl rfl (fun _ _ _ _ _ h => h) rfl rfl rfl rfl (fun wx hx => (hx.1.cell (p := ⟨nb, no + i, none⟩) hnb).trans hnc) hS ?_
              (((first | refine WD.free 13 rfl (by kernel_rfl) rfl rfl (fun _ _ _ _ _ h => h) rfl rfl (.inr hS) ?_ | refine WD.skip 13 rfl (by kernel_rfl) rfl rfl (fun _ _ _ _ _ h => h) rfl (.inr hS) ?_); try (first | ((with_reducible refine WD.topT ?_ ?_); omega) | ((with_reducible refine WD.topF ?_ ?_); omega) | ((with_reducible refine WD.top64 ?_ ?_); omega))); ((first | refine WD.free 14 rfl (by kernel_rfl) rfl rfl (fun _ _ _ _ _ h => h) rfl rfl (.inr hS) ?_ | refine WD.skip 14 rfl (by kernel_rfl) rfl rfl (fun _ _ _ _ _ h => h) rfl (.inr hS) ?_); try (first | ((with_reducible refine WD.topT ?_ ?_); omega) | ((with_reducible refine WD.topF ?_ ?_); omega) | ((with_reducible refine WD.top64 ?_ ?_); omega))); ((first | refine WD.free 15 rfl (by kernel_rfl) rfl rfl (fun _ _ _ _ _ h => h) rfl rfl (.inr hS) ?_ | refine WD.skip 15 rfl (by kernel_rfl) rfl rfl (fun _ _ _ _ _ h => h) rfl (.inr hS) ?_); try (first | ((with_reducible refine WD.topT ?_ ?_); omega) | ((with_reducible refine WD.topF ?_ ?_); omega) | ((with_reducible refine WD.top64 ?_ ?_); omega))); ((first | refine WD.free 16 rfl (by kernel_rfl) rfl rfl (fun _ _ _ _ _ h => h) rfl rfl (.inr hS) ?_ | refine WD.skip 16 rfl (by kernel_rfl) rfl rfl (fun _ _ _ _ _ h => h) rfl (.inr hS) ?_); try (first | ((with_reducible refine WD.topT ?_ ?_); omega) | ((with_reducible refine WD.topF ?_ ?_); omega) | ((with_reducible refine WD.top64 ?_ ?_); omega))))
              (((first | refine WD.free 17 rfl (by kernel_rfl) rfl rfl (fun _ _ _ _ _ h => h) rfl rfl (.inr hS) ?_ | refine WD.skip 17 rfl (by kernel_rfl) rfl rfl (fun _ _ _ _ _ h => h) rfl (.inr hS) ?_); try (first | ((with_reducible refine WD.topT ?_ ?_); omega) | ((with_reducible refine WD.topF ?_ ?_); omega) | ((with_reducible refine WD.top64 ?_ ?_); omega))); ((first | refine WD.free 18 rfl (by kernel_rfl) rfl rfl (fun _ _ _ _ _ h => h) rfl rfl (.inr hS) ?_ | refine WD.skip 18 rfl (by kernel_rfl) rfl rfl (fun _ _ _ _ _ h => h) rfl (.inr hS) ?_); try (first | ((with_reducible refine WD.topT ?_ ?_); omega) | ((with_reducible refine WD.topF ?_ ?_); omega) | ((with_reducible refine WD.top64 ?_ ?_); omega))); ((first | refine WD.free 19 rfl (by kernel_rfl) rfl rfl (fun _ _ _ _ _ h => h) rfl rfl (.inr hS) ?_ | refine WD.skip 19 rfl (by kernel_rfl) rfl rfl (fun _ _ _ _ _ h => h) rfl (.inr hS) ?_); try (first | ((with_reducible refine WD.topT ?_ ?_); omega) | ((with_reducible refine WD.topF ?_ ?_); omega) | ((with_reducible refine WD.top64 ?_ ?_); omega))); ((first | refine WD.free 20 rfl (by kernel_rfl) rfl rfl (fun _ _ _ _ _ h => h) rfl rfl (.inr hS) ?_ | refine WD.skip 20 rfl (by kernel_rfl) rfl rfl (fun _ _ _ _ _ h => h) rfl (.inr hS) ?_); try (first | ((with_reducible refine WD.topT ?_ ?_); omega) | ((with_reducible refine WD.topF ?_ ?_); omega) | ((with_reducible refine WD.top64 ?_ ?_); omega))))
              (((first | refine WD.free 21 rfl (by kernel_rfl) rfl rfl (fun _ _ _ _ _ h => h) rfl rfl (.inr hS) ?_ | refine WD.skip 21 rfl (by kernel_rfl) rfl rfl (fun _ _ _ _ _ h => h) rfl (.inr hS) ?_); try (first | ((with_reducible refine WD.topT ?_ ?_); omega) | ((with_reducible refine WD.topF ?_ ?_); omega) | ((with_reducible refine WD.top64 ?_ ?_); omega))); ((first | refine WD.free 22 rfl (by kernel_rfl) rfl rfl (fun _ _ _ _ _ h => h) rfl rfl (.inr hS) ?_ | refine WD.skip 22 rfl (by kernel_rfl) rfl rfl (fun _ _ _ _ _ h => h) rfl (.inr hS) ?_); try (first | ((with_reducible refine WD.topT ?_ ?_); omega) | ((with_reducible refine WD.topF ?_ ?_); omega) | ((with_reducible refine WD.top64 ?_ ?_); omega))); ((first | refine WD.free 23 rfl (by kernel_rfl) rfl rfl (fun _ _ _ _ _ h => h) rfl rfl (.inr hS) ?_ | refine WD.skip 23 rfl (by kernel_rfl) rfl rfl (fun _ _ _ _ _ h => h) rfl (.inr hS) ?_); try (first | ((with_reducible refine WD.topT ?_ ?_); omega) | ((with_reducible refine WD.topF ?_ ?_); omega) | ((with_reducible refine WD.top64 ?_ ?_); omega))); ((first | refine WD.free 24 rfl (by kernel_rfl) rfl rfl (fun _ _ _ _ _ h => h) rfl rfl (.inr hS) ?_ | refine WD.skip 24 rfl (by kernel_rfl) rfl rfl (fun _ _ _ _ _ h => h) rfl (.inr hS) ?_); try (first | ((with_reducible refine WD.topT ?_ ?_); omega) | ((with_reducible refine WD.topF ?_ ?_); omega) | ((with_reducible refine WD.top64 ?_ ?_); omega))); ((first | refine WD.free 25 rfl (by kernel_rfl) rfl rfl (fun _ _ _ _ _ h => h) rfl rfl (.inr hS) ?_ | refine WD.skip 25 rfl (by kernel_rfl) rfl rfl (fun _ _ _ _ _ h => h) rfl (.inr hS) ?_); try (first | ((with_reducible refine WD.topT ?_ ?_); omega) | ((with_reducible refine WD.topF ?_ ?_); omega) | ((with_reducible refine WD.top64 ?_ ?_); omega))); ((first | refine WD.free 26 rfl (by kernel_rfl) rfl rfl (fun _ _ _ _ _ h => h) rfl rfl (.inr hS) ?_ | refine WD.skip 26 rfl (by kernel_rfl) rfl rfl (fun _ _ _ _ _ h => h) rfl (.inr hS) ?_); try (first | ((with_reducible refine WD.topT ?_ ?_); omega) | ((with_reducible refine WD.topF ?_ ?_); omega) | ((with_reducible refine WD.top64 ?_ ?_); omega))); ((first | refine WD.free 27 rfl (by kernel_rfl) rfl rfl (fun _ _ _ _ _ h => h) rfl rfl (.inr hS) ?_ | refine WD.skip 27 rfl (by kernel_rfl) rfl rfl (fun _ _ _ _ _ h => h) rfl (.inr hS) ?_); try (first | ((with_reducible refine WD.topT ?_ ?_); omega) | ((with_reducible refine WD.topF ?_ ?_); omega) | ((with_reducible refine WD.top64 ?_ ?_); omega))); ((first | refine WD.free 28 rfl (by kernel_rfl) rfl rfl (fun _ _ _ _ _ h => h) rfl rfl (.inr hS) ?_ | refine WD.skip 28 rfl (by kernel_rfl) rfl rfl (fun _ _ _ _ _ h => h) rfl (.inr hS) ?_); try (first | ((with_reducible refine WD.topT ?_ ?_); omega) | ((with_reducible refine WD.topF ?_ ?_); omega) | ((with_reducible refine WD.top64 ?_ ?_); omega))); ((first | refine WD.free 29 rfl (by kernel_rfl) rfl rfl (fun _ _ _ _ _ h => h) rfl rfl (.inr hS) ?_ | refine WD.skip 29 rfl (by kernel_rfl) rfl rfl (fun _ _ _ _ _ h => h) rfl (.inr hS) ?_); try (first | ((with_reducible refine WD.topT ?_ ?_); omega) | ((with_reducible refine WD.topF ?_ ?_); omega) | ((with_reducible refine WD.top64 ?_ ?_); omega))); ((first | refine WD.free 30 rfl (by kernel_rfl) rfl rfl (fun _ _ _ _ _ h => h) rfl rfl (.inr hS) ?_ | refine WD.skip 30 rfl (by kernel_rfl) rfl rfl (fun _ _ _ _ _ h => h) rfl (.inr hS) ?_); try (first | ((with_reducible refine WD.topT ?_ ?_); omega) | ((with_reducible refine WD.topF ?_ ?_); omega) | ((with_reducible refine WD.top64 ?_ ?_); omega))); ((first | refine WD.free 31 rfl (by kernel_rfl) rfl rfl (fun _ _ _ _ _ h => h) rfl rfl (.inr hS) ?_ | refine WD.skip 31 rfl (by kernel_rfl) rfl rfl (fun _ _ _ _ _ h => h) rfl (.inr hS) ?_); try (first | ((with_reducible refine WD.topT ?_ ?_); omega) | ((with_reducible refine WD.topF ?_ ?_); omega) | ((with_reducible refine WD.top64 ?_ ?_); omega))); ((first | refine WD.free 32 rfl (by kernel_rfl) rfl rfl (fun _ _ _ _ _ h => h) rfl rfl (.inr hS) ?_ | refine WD.skip 32 rfl (by kernel_rfl) rfl rfl (fun _ _ _ _ _ h => h) rfl (.inr hS) ?_); try (first | ((with_reducible refine WD.topT ?_ ?_); omega) | ((with_reducible refine WD.topF ?_ ?_); omega) | ((with_reducible refine WD.top64 ?_ ?_); omega))))
              refine WD.one 33 (by kernel_rfl) rfl ?_
              refine WL.pure rfl rfl rfl rfl ?_
              refine WL.nil (WQ.dk (.inl rfl) ?_)
              refine WD.done (by kernel_rfl) ?_
              repeat (first | ((with_reducible refine WL.topT ?_ ?_); omega) | ((with_reducible refine WL.topF ?_ ?_); omega) | ((with_reducible refine WL.top64 ?_ ?_); omega) | refine WC.seq ?_ | refine WC.block ?_ | refine WC.region ?_ | refine WL.nil ?_ | refine WC.skip ?_ | refine WC.exit ?_ | refine WC.ret ?_ | refine WQ.then rfl ?_ | refine WQ.thenExit ?_ | refine WQ.thenRet ?_ | refine WQ.blk ?_ | refine WQ.blkRet ?_ | refine WQ.blkHere rfl ?_ | refine WQ.blkOther rfl ?_ | refine WL.pure rfl rfl rfl rfl ?_ | refine WL.on rfl rfl ?_ | refine WL.off rfl rfl rfl ?_ | refine WC.condTrue rfl ?_ | refine WC.condFalse rfl ?_)
              exact WQ.ret1 rfl rfl ⟨badn (by rw [hok, hnm, decide_eq_false (show ¬ nm.size ≤ 40 by omega), Bool.and_false]; rfl), hS.1⟩
            have hnm1 : isNameB nm = true := by rw [hnm, decide_eq_true (by omega), decide_eq_true (by omega)]; rfl
            by_cases x3 : i = 0
            · skip
              (((first | refine WD.free 0 rfl (by kernel_rfl) rfl rfl (fun _ _ _ _ _ h => h) rfl rfl (.inr hS) ?_ | refine WD.skip 0 rfl (by kernel_rfl) rfl rfl (fun _ _ _ _ _ h => h) rfl (.inr hS) ?_); try (first | ((with_reducible refine WD.topT ?_ ?_); omega) | ((with_reducible refine WD.topF ?_ ?_); omega) | ((with_reducible refine WD.top64 ?_ ?_); omega))))
              refine WD.load 1 [3, 4, 5, 6, 7, 8, 9, 10, 11, 12, 13, 14, 15, 16, 17, 18, 19, 20, 21, 22, 23, 24, 25, 26, 27, 28, 29, 30, 31, 32, 33] rfl (by kernel_rfl) rfl rfl (fun _ _ _ _ _ h => h) rfl rfl rfl rfl (fun wx hx => hx.2.cell 4 (by simp)) hS ?_
              (((first | refine WD.free 2 rfl (by kernel_rfl) rfl rfl (fun _ _ _ _ _ h => h) rfl rfl (.inr hS) ?_ | refine WD.skip 2 rfl (by kernel_rfl) rfl rfl (fun _ _ _ _ _ h => h) rfl (.inr hS) ?_); try (first | ((with_reducible refine WD.topT ?_ ?_); omega) | ((with_reducible refine WD.topF ?_ ?_); omega) | ((with_reducible refine WD.top64 ?_ ?_); omega))))
              refine WD.idx 3 i (no + i) rfl (by kernel_rfl) rfl rfl (fun _ _ _ _ _ h => h) rfl rfl rfl rfl rfl rfl (by omega) (by omega) (.inr hS) ?_
              refine WD.load 4 [5, 6, 7, 8, 9, 10, 11, 12, 13, 14, 15, 16, 17, 18, 19, 20, 21, 22, 23, 24, 25, 26, 27, 28, 29, 30, 31, 32, 33] rfl (by kernel_rfl) rfl rfl (fun _ _ _ _ _ h => h) rfl rfl rfl rfl (fun wx hx => (hx.1.cell (p := ⟨nb, no + i, none⟩) hnb).trans hnc) hS ?_
              (((first | refine WD.free 5 rfl (by kernel_rfl) rfl rfl (fun _ _ _ _ _ h => h) rfl rfl (.inr hS) ?_ | refine WD.skip 5 rfl (by kernel_rfl) rfl rfl (fun _ _ _ _ _ h => h) rfl (.inr hS) ?_); try (first | ((with_reducible refine WD.topT ?_ ?_); omega) | ((with_reducible refine WD.topF ?_ ?_); omega) | ((with_reducible refine WD.top64 ?_ ?_); omega))); ((first | refine WD.free 6 rfl (by kernel_rfl) rfl rfl (fun _ _ _ _ _ h => h) rfl rfl (.inr hS) ?_ | refine WD.skip 6 rfl (by kernel_rfl) rfl rfl (fun _ _ _ _ _ h => h) rfl (.inr hS) ?_); try (first | ((with_reducible refine WD.topT ?_ ?_); omega) | ((with_reducible refine WD.topF ?_ ?_); omega) | ((with_reducible refine WD.top64 ?_ ?_); omega))); ((first | refine WD.free 7 rfl (by kernel_rfl) rfl rfl (fun _ _ _ _ _ h => h) rfl rfl (.inr hS) ?_ | refine WD.skip 7 rfl (by kernel_rfl) rfl rfl (fun _ _ _ _ _ h => h) rfl (.inr hS) ?_); try (first | ((with_reducible refine WD.topT ?_ ?_); omega) | ((with_reducible refine WD.topF ?_ ?_); omega) | ((with_reducible refine WD.top64 ?_ ?_); omega))); ((first | refine WD.free 8 rfl (by kernel_rfl) rfl rfl (fun _ _ _ _ _ h => h) rfl rfl (.inr hS) ?_ | refine WD.skip 8 rfl (by kernel_rfl) rfl rfl (fun _ _ _ _ _ h => h) rfl (.inr hS) ?_); try (first | ((with_reducible refine WD.topT ?_ ?_); omega) | ((with_reducible refine WD.topF ?_ ?_); omega) | ((with_reducible refine WD.top64 ?_ ?_); omega))))
              refine WD.load 9 [11, 12, 13, 14, 15, 16, 17, 18, 19, 20, 21, 22, 23, 24, 25, 26, 27, 28, 29, 30, 31, 32, 33] rfl (by kernel_rfl) rfl rfl (fun _ _ _ _ _ h => h) rfl rfl rfl rfl (fun wx hx => hx.2.cell 4 (by simp)) hS ?_
              (((first | refine WD.free 10 rfl (by kernel_rfl) rfl rfl (fun _ _ _ _ _ h => h) rfl rfl (.inr hS) ?_ | refine WD.skip 10 rfl (by kernel_rfl) rfl rfl (fun _ _ _ _ _ h => h) rfl (.inr hS) ?_); try (first | ((with_reducible refine WD.topT ?_ ?_); omega) | ((with_reducible refine WD.topF ?_ ?_); omega) | ((with_reducible refine WD.top64 ?_ ?_); omega))))
              refine WD.idx 11 i (no + i) rfl (by kernel_rfl) rfl rfl (fun _ _ _ _ _ h => h) rfl rfl rfl rfl rfl rfl (by omega) (by omega) (.inr hS) ?_
              refine WD.load 12 [13, 14, 15, 16, 17, 18, 19, 20, 21, 22, 23, 24, 25, 26, 27, 28, 29, 30, 31, 32, 33] rfl (by kernel_rfl) rfl rfl (fun _ _ _ _ _ h => h) rfl rfl rfl rfl (fun wx hx => (hx.1.cell (p := ⟨nb, no + i, none⟩) hnb).trans hnc) hS ?_
              (((first | refine WD.free 13 rfl (by kernel_rfl) rfl rfl (fun _ _ _ _ _ h => h) rfl rfl (.inr hS) ?_ | refine WD.skip 13 rfl (by kernel_rfl) rfl rfl (fun _ _ _ _ _ h => h) rfl (.inr hS) ?_); try (first | ((with_reducible refine WD.topT ?_ ?_); omega) | ((with_reducible refine WD.topF ?_ ?_); omega) | ((with_reducible refine WD.top64 ?_ ?_); omega))); ((first | refine WD.free 14 rfl (by kernel_rfl) rfl rfl (fun _ _ _ _ _ h => h) rfl rfl (.inr hS) ?_ | refine WD.skip 14 rfl (by kernel_rfl) rfl rfl (fun _ _ _ _ _ h => h) rfl (.inr hS) ?_); try (first | ((with_reducible refine WD.topT ?_ ?_); omega) | ((with_reducible refine WD.topF ?_ ?_); omega) | ((with_reducible refine WD.top64 ?_ ?_); omega))); ((first | refine WD.free 15 rfl (by kernel_rfl) rfl rfl (fun _ _ _ _ _ h => h) rfl rfl (.inr hS) ?_ | refine WD.skip 15 rfl (by kernel_rfl) rfl rfl (fun _ _ _ _ _ h => h) rfl (.inr hS) ?_); try (first | ((with_reducible refine WD.topT ?_ ?_); omega) | ((with_reducible refine WD.topF ?_ ?_); omega) | ((with_reducible refine WD.top64 ?_ ?_); omega))); ((first | refine WD.free 16 rfl (by kernel_rfl) rfl rfl (fun _ _ _ _ _ h => h) rfl rfl (.inr hS) ?_ | refine WD.skip 16 rfl (by kernel_rfl) rfl rfl (fun _ _ _ _ _ h => h) rfl (.inr hS) ?_); try (first | ((with_reducible refine WD.topT ?_ ?_); omega) | ((with_reducible refine WD.topF ?_ ?_); omega) | ((with_reducible refine WD.top64 ?_ ?_); omega))))
              (((first | refine WD.free 17 rfl (by kernel_rfl) rfl rfl (fun _ _ _ _ _ h => h) rfl rfl (.inr hS) ?_ | refine WD.skip 17 rfl (by kernel_rfl) rfl rfl (fun _ _ _ _ _ h => h) rfl (.inr hS) ?_); try (first | ((with_reducible refine WD.topT ?_ ?_); omega) | ((with_reducible refine WD.topF ?_ ?_); omega) | ((with_reducible refine WD.top64 ?_ ?_); omega))); ((first | refine WD.free 18 rfl (by kernel_rfl) rfl rfl (fun _ _ _ _ _ h => h) rfl rfl (.inr hS) ?_ | refine WD.skip 18 rfl (by kernel_rfl) rfl rfl (fun _ _ _ _ _ h => h) rfl (.inr hS) ?_); try (first | ((with_reducible refine WD.topT ?_ ?_); omega) | ((with_reducible refine WD.topF ?_ ?_); omega) | ((with_reducible refine WD.top64 ?_ ?_); omega))); ((first | refine WD.free 19 rfl (by kernel_rfl) rfl rfl (fun _ _ _ _ _ h => h) rfl rfl (.inr hS) ?_ | refine WD.skip 19 rfl (by kernel_rfl) rfl rfl (fun _ _ _ _ _ h => h) rfl (.inr hS) ?_); try (first | ((with_reducible refine WD.topT ?_ ?_); omega) | ((with_reducible refine WD.topF ?_ ?_); omega) | ((with_reducible refine WD.top64 ?_ ?_); omega))); ((first | refine WD.free 20 rfl (by kernel_rfl) rfl rfl (fun _ _ _ _ _ h => h) rfl rfl (.inr hS) ?_ | refine WD.skip 20 rfl (by kernel_rfl) rfl rfl (fun _ _ _ _ _ h => h) rfl (.inr hS) ?_); try (first | ((with_reducible refine WD.topT ?_ ?_); omega) | ((with_reducible refine WD.topF ?_ ?_); omega) | ((with_reducible refine WD.top64 ?_ ?_); omega))))
              (((first | refine WD.free 21 rfl (by kernel_rfl) rfl rfl (fun _ _ _ _ _ h => h) rfl rfl (.inr hS) ?_ | refine WD.skip 21 rfl (by kernel_rfl) rfl rfl (fun _ _ _ _ _ h => h) rfl (.inr hS) ?_); try (first | ((with_reducible refine WD.topT ?_ ?_); omega) | ((with_reducible refine WD.topF ?_ ?_); omega) | ((with_reducible refine WD.top64 ?_ ?_); omega))); ((first | refine WD.free 22 rfl (by kernel_rfl) rfl rfl (fun _ _ _ _ _ h => h) rfl rfl (.inr hS) ?_ | refine WD.skip 22 rfl (by kernel_rfl) rfl rfl (fun _ _ _ _ _ h => h) rfl (.inr hS) ?_); try (first | ((with_reducible refine WD.topT ?_ ?_); omega) | ((with_reducible refine WD.topF ?_ ?_); omega) | ((with_reducible refine WD.top64 ?_ ?_); omega))); ((first | refine WD.free 23 rfl (by kernel_rfl) rfl rfl (fun _ _ _ _ _ h => h) rfl rfl (.inr hS) ?_ | refine WD.skip 23 rfl (by kernel_rfl) rfl rfl (fun _ _ _ _ _ h => h) rfl (.inr hS) ?_); try (first | ((with_reducible refine WD.topT ?_ ?_); omega) | ((with_reducible refine WD.topF ?_ ?_); omega) | ((with_reducible refine WD.top64 ?_ ?_); omega))); ((first | refine WD.free 24 rfl (by kernel_rfl) rfl rfl (fun _ _ _ _ _ h => h) rfl rfl (.inr hS) ?_ | refine WD.skip 24 rfl (by kernel_rfl) rfl rfl (fun _ _ _ _ _ h => h) rfl (.inr hS) ?_); try (first | ((with_reducible refine WD.topT ?_ ?_); omega) | ((with_reducible refine WD.topF ?_ ?_); omega) | ((with_reducible refine WD.top64 ?_ ?_); omega))); ((first | refine WD.free 25 rfl (by kernel_rfl) rfl rfl (fun _ _ _ _ _ h => h) rfl rfl (.inr hS) ?_ | refine WD.skip 25 rfl (by kernel_rfl) rfl rfl (fun _ _ _ _ _ h => h) rfl (.inr hS) ?_); try (first | ((with_reducible refine WD.topT ?_ ?_); omega) | ((with_reducible refine WD.topF ?_ ?_); omega) | ((with_reducible refine WD.top64 ?_ ?_); omega))); ((first | refine WD.free 26 rfl (by kernel_rfl) rfl rfl (fun _ _ _ _ _ h => h) rfl rfl (.inr hS) ?_ | refine WD.skip 26 rfl (by kernel_rfl) rfl rfl (fun _ _ _ _ _ h => h) rfl (.inr hS) ?_); try (first | ((with_reducible refine WD.topT ?_ ?_); omega) | ((with_reducible refine WD.topF ?_ ?_); omega) | ((with_reducible refine WD.top64 ?_ ?_); omega))); ((first | refine WD.free 27 rfl (by kernel_rfl) rfl rfl (fun _ _ _ _ _ h => h) rfl rfl (.inr hS) ?_ | refine WD.skip 27 rfl (by kernel_rfl) rfl rfl (fun _ _ _ _ _ h => h) rfl (.inr hS) ?_); try (first | ((with_reducible refine WD.topT ?_ ?_); omega) | ((with_reducible refine WD.topF ?_ ?_); omega) | ((with_reducible refine WD.top64 ?_ ?_); omega))); ((first | refine WD.free 28 rfl (by kernel_rfl) rfl rfl (fun _ _ _ _ _ h => h) rfl rfl (.inr hS) ?_ | refine WD.skip 28 rfl (by kernel_rfl) rfl rfl (fun _ _ _ _ _ h => h) rfl (.inr hS) ?_); try (first | ((with_reducible refine WD.topT ?_ ?_); omega) | ((with_reducible refine WD.topF ?_ ?_); omega) | ((with_reducible refine WD.top64 ?_ ?_); omega))); ((first | refine WD.free 29 rfl (by kernel_rfl) rfl rfl (fun _ _ _ _ _ h => h) rfl rfl (.inr hS) ?_ | refine WD.skip 29 rfl (by kernel_rfl) rfl rfl (fun _ _ _ _ _ h => h) rfl (.inr hS) ?_); try (first | ((with_reducible refine WD.topT ?_ ?_); omega) | ((with_reducible refine WD.topF ?_ ?_); omega) | ((with_reducible refine WD.top64 ?_ ?_); omega))); ((first | refine WD.free 30 rfl (by kernel_rfl) rfl rfl (fun _ _ _ _ _ h => h) rfl rfl (.inr hS) ?_ | refine WD.skip 30 rfl (by kernel_rfl) rfl rfl (fun _ _ _ _ _ h => h) rfl (.inr hS) ?_); try (first | ((with_reducible refine WD.topT ?_ ?_); omega) | ((with_reducible refine WD.topF ?_ ?_); omega) | ((with_reducible refine WD.top64 ?_ ?_); omega))); ((first | refine WD.free 31 rfl (by kernel_rfl) rfl rfl (fun _ _ _ _ _ h => h) rfl rfl (.inr hS) ?_ | refine WD.skip 31 rfl (by kernel_rfl) rfl rfl (fun _ _ _ _ _ h => h) rfl (.inr hS) ?_); try (first | ((with_reducible refine WD.topT ?_ ?_); omega) | ((with_reducible refine WD.topF ?_ ?_); omega) | ((with_reducible refine WD.top64 ?_ ?_); omega))); ((first | refine WD.free 32 rfl (by kernel_rfl) rfl rfl (fun _ _ _ _ _ h => h) rfl rfl (.inr hS) ?_ | refine WD.skip 32 rfl (by kernel_rfl) rfl rfl (fun _ _ _ _ _ h => h) rfl (.inr hS) ?_); try (first | ((with_reducible refine WD.topT ?_ ?_); omega) | ((with_reducible refine WD.topF ?_ ?_); omega) | ((with_reducible refine WD.top64 ?_ ?_); omega))))
              refine WD.one 33 (by kernel_rfl) rfl ?_
              refine WL.pure rfl rfl rfl rfl ?_
              refine WL.nil (WQ.dk (.inl rfl) ?_)
              refine WD.done (by kernel_rfl) ?_
              repeat (first | ((with_reducible refine WL.topT ?_ ?_); omega) | ((with_reducible refine WL.topF ?_ ?_); omega) | ((with_reducible refine WL.top64 ?_ ?_); omega) | refine WC.seq ?_ | refine WC.block ?_ | refine WC.region ?_ | refine WL.nil ?_ | refine WC.skip ?_ | refine WC.exit ?_ | refine WC.ret ?_ | refine WQ.then rfl ?_ | refine WQ.thenExit ?_ | refine WQ.thenRet ?_ | refine WQ.blk ?_ | refine WQ.blkRet ?_ | refine WQ.blkHere rfl ?_ | refine WQ.blkOther rfl ?_ | refine WL.pure rfl rfl rfl rfl ?_ | refine WL.on rfl rfl ?_ | refine WL.off rfl rfl rfl ?_ | refine WC.condTrue rfl ?_ | refine WC.condFalse rfl ?_)
              refine WQ.again (i + 1) ⟨rfl, rfl, rfl, trivial⟩ ⟨hin, hb2, fun j hj => (Nat.lt_succ_iff_lt_or_eq.1 hj).elim (hall j) (fun e => by rw [e]; rw [hok, hnm1, x3]; rfl)⟩ (by show v.names.length - (i + 1) < v.names.length - i; omega)
            have hw : IntKind.i64.wrap ((i : Int) - 1) = ((i - 1 : Nat) : Int) := by rw [IntWalk.i64_in _ (by omega)]; omega
            cases hlt : Op.bytesLess pm.toList nm.toList with
            | true =>
              rw [hlt] at hleq hok
              (((first | refine WD.free 0 rfl (by kernel_rfl) rfl rfl (fun _ _ _ _ _ h => h) rfl rfl (.inr hS) ?_ | refine WD.skip 0 rfl (by kernel_rfl) rfl rfl (fun _ _ _ _ _ h => h) rfl (.inr hS) ?_); try (first | ((with_reducible refine WD.topT ?_ ?_); omega) | ((with_reducible refine WD.topF ?_ ?_); omega) | ((with_reducible refine WD.top64 ?_ ?_); omega))))
              refine WD.load 1 [3, 4, 5, 6, 7, 8, 9, 10, 11, 12, 13, 14, 15, 16, 17, 18, 19, 20, 21, 22, 23, 24, 25, 26, 27, 28, 29, 30, 31, 32, 33] rfl (by kernel_rfl) rfl rfl (fun _ _ _ _ _ h => h) rfl rfl rfl rfl (fun wx hx => hx.2.cell 4 (by simp)) hS ?_
              (((first | refine WD.free 2 rfl (by kernel_rfl) rfl rfl (fun _ _ _ _ _ h => h) rfl rfl (.inr hS) ?_ | refine WD.skip 2 rfl (by kernel_rfl) rfl rfl (fun _ _ _ _ _ h => h) rfl (.inr hS) ?_); try (first | ((with_reducible refine WD.topT ?_ ?_); omega) | ((with_reducible refine WD.topF ?_ ?_); omega) | ((with_reducible refine WD.top64 ?_ ?_); omega))))
              refine WD.idx 3 i (no + i) rfl (by kernel_rfl) rfl rfl (fun _ _ _ _ _ h => h) rfl rfl rfl rfl rfl rfl (by omega) (by omega) (.inr hS) ?_
              refine WD.load 4 [5, 6, 7, 8, 9, 10, 11, 12, 13, 14, 15, 16, 17, 18, 19, 20, 21, 22, 23, 24, 25, 26, 27, 28, 29, 30, 31, 32, 33] rfl (by kernel_rfl) rfl rfl (fun _ _ _ _ _ h => h) rfl rfl rfl rfl (fun wx hx => (hx.1.cell (p := ⟨nb, no + i, none⟩) hnb).trans hnc) hS ?_
              (((first | refine WD.free 5 rfl (by kernel_rfl) rfl rfl (fun _ _ _ _ _ h => h) rfl rfl (.inr hS) ?_ | refine WD.skip 5 rfl (by kernel_rfl) rfl rfl (fun _ _ _ _ _ h => h) rfl (.inr hS) ?_); try (first | ((with_reducible refine WD.topT ?_ ?_); omega) | ((with_reducible refine WD.topF ?_ ?_); omega) | ((with_reducible refine WD.top64 ?_ ?_); omega))); ((first | refine WD.free 6 rfl (by kernel_rfl) rfl rfl (fun _ _ _ _ _ h => h) rfl rfl (.inr hS) ?_ | refine WD.skip 6 rfl (by kernel_rfl) rfl rfl (fun _ _ _ _ _ h => h) rfl (.inr hS) ?_); try (first | ((with_reducible refine WD.topT ?_ ?_); omega) | ((with_reducible refine WD.topF ?_ ?_); omega) | ((with_reducible refine WD.top64 ?_ ?_); omega))); ((first | refine WD.free 7 rfl (by kernel_rfl) rfl rfl (fun _ _ _ _ _ h => h) rfl rfl (.inr hS) ?_ | refine WD.skip 7 rfl (by kernel_rfl) rfl rfl (fun _ _ _ _ _ h => h) rfl (.inr hS) ?_); try (first | ((with_reducible refine WD.topT ?_ ?_); omega) | ((with_reducible refine WD.topF ?_ ?_); omega) | ((with_reducible refine WD.top64 ?_ ?_); omega))); ((first | refine WD.free 8 rfl (by kernel_rfl) rfl rfl (fun _ _ _ _ _ h => h) rfl rfl (.inr hS) ?_ | refine WD.skip 8 rfl (by kernel_rfl) rfl rfl (fun _ _ _ _ _ h => h) rfl (.inr hS) ?_); try (first | ((with_reducible refine WD.topT ?_ ?_); omega) | ((with_reducible refine WD.topF ?_ ?_); omega) | ((with_reducible refine WD.top64 ?_ ?_); omega))))
              refine WD.load 9 [11, 12, 13, 14, 15, 16, 17, 18, 19, 20, 21, 22, 23, 24, 25, 26, 27, 28, 29, 30, 31, 32, 33] rfl (by kernel_rfl) rfl rfl (fun _ _ _ _ _ h => h) rfl rfl rfl rfl (fun wx hx => hx.2.cell 4 (by simp)) hS ?_
              (((first | refine WD.free 10 rfl (by kernel_rfl) rfl rfl (fun _ _ _ _ _ h => h) rfl rfl (.inr hS) ?_ | refine WD.skip 10 rfl (by kernel_rfl) rfl rfl (fun _ _ _ _ _ h => h) rfl (.inr hS) ?_); try (first | ((with_reducible refine WD.topT ?_ ?_); omega) | ((with_reducible refine WD.topF ?_ ?_); omega) | ((with_reducible refine WD.top64 ?_ ?_); omega))))
              refine WD.idx 11 i (no + i) rfl (by kernel_rfl) rfl rfl (fun _ _ _ _ _ h => h) rfl rfl rfl rfl rfl rfl (by omega) (by omega) (.inr hS) ?_
              refine WD.load 12 [13, 14, 15, 16, 17, 18, 19, 20, 21, 22, 23, 24, 25, 26, 27, 28, 29, 30, 31, 32, 33] rfl (by kernel_rfl) rfl rfl (fun _ _ _ _ _ h => h) rfl rfl rfl rfl (fun wx hx => (hx.1.cell (p := ⟨nb, no + i, none⟩) hnb).trans hnc) hS ?_
              (((first | refine WD.free 13 rfl (by kernel_rfl) rfl rfl (fun _ _ _ _ _ h => h) rfl rfl (.inr hS) ?_ | refine WD.skip 13 rfl (by kernel_rfl) rfl rfl (fun _ _ _ _ _ h => h) rfl (.inr hS) ?_); try (first | ((with_reducible refine WD.topT ?_ ?_); omega) | ((with_reducible refine WD.topF ?_ ?_); omega) | ((with_reducible refine WD.top64 ?_ ?_); omega))); ((first | refine WD.free 14 rfl (by kernel_rfl) rfl rfl (fun _ _ _ _ _ h => h) rfl rfl (.inr hS) ?_ | refine WD.skip 14 rfl (by kernel_rfl) rfl rfl (fun _ _ _ _ _ h => h) rfl (.inr hS) ?_); try (first | ((with_reducible refine WD.topT ?_ ?_); omega) | ((with_reducible refine WD.topF ?_ ?_); omega) | ((with_reducible refine WD.top64 ?_ ?_); omega))); ((first | refine WD.free 15 rfl (by kernel_rfl) rfl rfl (fun _ _ _ _ _ h => h) rfl rfl (.inr hS) ?_ | refine WD.skip 15 rfl (by kernel_rfl) rfl rfl (fun _ _ _ _ _ h => h) rfl (.inr hS) ?_); try (first | ((with_reducible refine WD.topT ?_ ?_); omega) | ((with_reducible refine WD.topF ?_ ?_); omega) | ((with_reducible refine WD.top64 ?_ ?_); omega))); ((first | refine WD.free 16 rfl (by kernel_rfl) rfl rfl (fun _ _ _ _ _ h => h) rfl rfl (.inr hS) ?_ | refine WD.skip 16 rfl (by kernel_rfl) rfl rfl (fun _ _ _ _ _ h => h) rfl (.inr hS) ?_); try (first | ((with_reducible refine WD.topT ?_ ?_); omega) | ((with_reducible refine WD.topF ?_ ?_); omega) | ((with_reducible refine WD.top64 ?_ ?_); omega))))
              (((first | refine WD.free 17 rfl (by kernel_rfl) rfl rfl (fun _ _ _ _ _ h => h) rfl rfl (.inr hS) ?_ | refine WD.skip 17 rfl (by kernel_rfl) rfl rfl (fun _ _ _ _ _ h => h) rfl (.inr hS) ?_); try (first | ((with_reducible refine WD.topT ?_ ?_); omega) | ((with_reducible refine WD.topF ?_ ?_); omega) | ((with_reducible refine WD.top64 ?_ ?_); omega))); ((first | refine WD.free 18 rfl (by kernel_rfl) rfl rfl (fun _ _ _ _ _ h => h) rfl rfl (.inr hS) ?_ | refine WD.skip 18 rfl (by kernel_rfl) rfl rfl (fun _ _ _ _ _ h => h) rfl (.inr hS) ?_); try (first | ((with_reducible refine WD.topT ?_ ?_); omega) | ((with_reducible refine WD.topF ?_ ?_); omega) | ((with_reducible refine WD.top64 ?_ ?_); omega))); ((first | refine WD.free 19 rfl (by kernel_rfl) rfl rfl (fun _ _ _ _ _ h => h) rfl rfl (.inr hS) ?_ | refine WD.skip 19 rfl (by kernel_rfl) rfl rfl (fun _ _ _ _ _ h => h) rfl (.inr hS) ?_); try (first | ((with_reducible refine WD.topT ?_ ?_); omega) | ((with_reducible refine WD.topF ?_ ?_); omega) | ((with_reducible refine WD.top64 ?_ ?_); omega))); ((first | refine WD.free 20 rfl (by kernel_rfl) rfl rfl (fun _ _ _ _ _ h => h) rfl rfl (.inr hS) ?_ | refine WD.skip 20 rfl (by kernel_rfl) rfl rfl (fun _ _ _ _ _ h => h) rfl (.inr hS) ?_); try (first | ((with_reducible refine WD.topT ?_ ?_); omega) | ((with_reducible refine WD.topF ?_ ?_); omega) | ((with_reducible refine WD.top64 ?_ ?_); omega))))
              refine WD.load 21 [23, 24, 31, 32, 33] rfl (by kernel_rfl) rfl rfl (fun _ _ _ _ _ h => h) rfl rfl rfl rfl (fun wx hx => hx.2.cell 4 (by simp)) hS ?_
              (((first | refine WD.free 22 rfl (by kernel_rfl) rfl rfl (fun _ _ _ _ _ h => h) rfl rfl (.inr hS) ?_ | refine WD.skip 22 rfl (by kernel_rfl) rfl rfl (fun _ _ _ _ _ h => h) rfl (.inr hS) ?_); try (first | ((with_reducible refine WD.topT ?_ ?_); omega) | ((with_reducible refine WD.topF ?_ ?_); omega) | ((with_reducible refine WD.top64 ?_ ?_); omega))))
              refine WD.idx 23 i (no + i) rfl (by kernel_rfl) rfl rfl (fun _ _ _ _ _ h => h) rfl rfl rfl rfl rfl rfl (by omega) (by omega) (.inr hS) ?_
              refine WD.load 24 [31, 32, 33] rfl (by kernel_rfl) rfl rfl (fun _ _ _ _ _ h => h) rfl rfl rfl rfl (fun wx hx => (hx.1.cell (p := ⟨nb, no + i, none⟩) hnb).trans hnc) hS ?_
              (((first | refine WD.free 25 rfl (by kernel_rfl) rfl rfl (fun _ _ _ _ _ h => h) rfl rfl (.inr hS) ?_ | refine WD.skip 25 rfl (by kernel_rfl) rfl rfl (fun _ _ _ _ _ h => h) rfl (.inr hS) ?_); try (first | ((with_reducible refine WD.topT ?_ ?_); omega) | ((with_reducible refine WD.topF ?_ ?_); omega) | ((with_reducible refine WD.top64 ?_ ?_); omega))))
              refine WD.load 26 [29, 30, 31, 32, 33] rfl (by kernel_rfl) rfl rfl (fun _ _ _ _ _ h => h) rfl rfl rfl rfl (fun wx hx => hx.2.cell 4 (by simp)) hS ?_
              (((first | refine WD.free 27 rfl (by kernel_rfl) rfl rfl (fun _ _ _ _ _ h => h) rfl rfl (.inr hS) ?_ | refine WD.skip 27 rfl (by kernel_rfl) rfl rfl (fun _ _ _ _ _ h => h) rfl (.inr hS) ?_); try (first | ((with_reducible refine WD.topT ?_ ?_); omega) | ((with_reducible refine WD.topF ?_ ?_); omega) | ((with_reducible refine WD.top64 ?_ ?_); omega))); ((first | refine WD.free 28 rfl (by kernel_rfl) rfl rfl (fun _ _ _ _ _ h => h) rfl rfl (.inr hS) ?_ | refine WD.skip 28 rfl (by kernel_rfl) rfl rfl (fun _ _ _ _ _ h => h) rfl (.inr hS) ?_); try (first | ((with_reducible refine WD.topT ?_ ?_); omega) | ((with_reducible refine WD.topF ?_ ?_); omega) | ((with_reducible refine WD.top64 ?_ ?_); omega))))
              refine WD.idx 29 (i - 1) (no + (i - 1)) rfl (by kernel_rfl) rfl rfl (fun _ _ _ _ _ h => h) rfl rfl rfl rfl rfl (by omega) (by omega) (by omega) (.inr hS) ?_
              refine WD.load 30 [31, 32, 33] rfl (by kernel_rfl) rfl rfl (fun _ _ _ _ _ h => h) rfl rfl rfl rfl (fun wx hx => (hx.1.cell (p := ⟨nb, no + (i - 1), none⟩) hnb).trans hnp) hS ?_
              (((first | refine WD.free 31 rfl (by kernel_rfl) rfl rfl (fun _ _ _ _ _ h => h) rfl rfl (.inr hS) ?_ | refine WD.skip 31 rfl (by kernel_rfl) rfl rfl (fun _ _ _ _ _ h => h) rfl (.inr hS) ?_); try (first | ((with_reducible refine WD.topT ?_ ?_); omega) | ((with_reducible refine WD.topF ?_ ?_); omega) | ((with_reducible refine WD.top64 ?_ ?_); omega))); ((first | refine WD.free 32 rfl (by kernel_rfl) rfl rfl (fun _ _ _ _ _ h => h) rfl rfl (.inr hS) ?_ | refine WD.skip 32 rfl (by kernel_rfl) rfl rfl (fun _ _ _ _ _ h => h) rfl (.inr hS) ?_); try (first | ((with_reducible refine WD.topT ?_ ?_); omega) | ((with_reducible refine WD.topF ?_ ?_); omega) | ((with_reducible refine WD.top64 ?_ ?_); omega))))
              refine WD.one 33 (by kernel_rfl) rfl ?_
              refine WL.pure rfl rfl rfl rfl ?_
              refine WL.nil (WQ.dk (.inl rfl) ?_)
              refine WD.done (by kernel_rfl) ?_
              repeat (first | refine WC.seq ?_ | refine WC.block ?_ | refine WC.region ?_ | refine WL.nil ?_ | refine WC.skip ?_ | refine WC.exit ?_ | refine WC.ret ?_ | refine WQ.then rfl ?_ | refine WQ.thenExit ?_ | refine WQ.thenRet ?_ | refine WQ.blk ?_ | refine WQ.blkRet ?_ | refine WQ.blkHere rfl ?_ | refine WQ.blkOther rfl ?_)
              refine WC.as 215 (.bool false) rfl (congrArg Value.bool hleq) ?_
              repeat (first | ((with_reducible refine WL.topT ?_ ?_); omega) | ((with_reducible refine WL.topF ?_ ?_); omega) | ((with_reducible refine WL.top64 ?_ ?_); omega) | refine WC.seq ?_ | refine WC.block ?_ | refine WC.region ?_ | refine WL.nil ?_ | refine WC.skip ?_ | refine WC.exit ?_ | refine WC.ret ?_ | refine WQ.then rfl ?_ | refine WQ.thenExit ?_ | refine WQ.thenRet ?_ | refine WQ.blk ?_ | refine WQ.blkRet ?_ | refine WQ.blkHere rfl ?_ | refine WQ.blkOther rfl ?_ | refine WL.pure rfl rfl rfl rfl ?_ | refine WL.on rfl rfl ?_ | refine WL.off rfl rfl rfl ?_ | refine WC.condTrue rfl ?_ | refine WC.condFalse rfl ?_)
              refine WQ.again (i + 1) ⟨rfl, rfl, rfl, trivial⟩ ⟨hin, hb2, fun j hj => (Nat.lt_succ_iff_lt_or_eq.1 hj).elim (hall j) (fun e => by rw [e]; rw [hok, hnm1]; simp)⟩ (by show v.names.length - (i + 1) < v.names.length - i; omega)
            | false =>
              rw [hlt] at hleq hok
              (((first | refine WD.free 0 rfl (by kernel_rfl) rfl rfl (fun _ _ _ _ _ h => h) rfl rfl (.inr hS) ?_ | refine WD.skip 0 rfl (by kernel_rfl) rfl rfl (fun _ _ _ _ _ h => h) rfl (.inr hS) ?_); try (first | ((with_reducible refine WD.topT ?_ ?_); omega) | ((with_reducible refine WD.topF ?_ ?_); omega) | ((with_reducible refine WD.top64 ?_ ?_); omega))))
              refine WD.load 1 [3, 4, 5, 6, 7, 8, 9, 10, 11, 12, 13, 14, 15, 16, 17, 18, 19, 20, 21, 22, 23, 24, 25, 26, 27, 28, 29, 30, 31, 32, 33] rfl (by kernel_rfl) rfl rfl (fun _ _ _ _ _ h => h) rfl rfl rfl rfl (fun wx hx => hx.2.cell 4 (by simp)) hS ?_
              (((first | refine WD.free 2 rfl (by kernel_rfl) rfl rfl (fun _ _ _ _ _ h => h) rfl rfl (.inr hS) ?_ | refine WD.skip 2 rfl (by kernel_rfl) rfl rfl (fun _ _ _ _ _ h => h) rfl (.inr hS) ?_); try (first | ((with_reducible refine WD.topT ?_ ?_); omega) | ((with_reducible refine WD.topF ?_ ?_); omega) | ((with_reducible refine WD.top64 ?_ ?_); omega))))
              refine WD.idx 3 i (no + i) rfl (by kernel_rfl) rfl rfl (fun _ _ _ _ _ h => h) rfl rfl rfl rfl rfl rfl (by omega) (by omega) (.inr hS) ?_
              refine WD.load 4 [5, 6, 7, 8, 9, 10, 11, 12, 13, 14, 15, 16, 17, 18, 19, 20, 21, 22, 23, 24, 25, 26, 27, 28, 29, 30, 31, 32, 33] rfl (by kernel_rfl) rfl rfl (fun _ _ _ _ _ h => h) rfl rfl rfl rfl (fun wx hx => (hx.1.cell (p := ⟨nb, no + i, none⟩) hnb).trans hnc) hS ?_
              (((first | refine WD.free 5 rfl (by kernel_rfl) rfl rfl (fun _ _ _ _ _ h => h) rfl rfl (.inr hS) ?_ | refine WD.skip 5 rfl (by kernel_rfl) rfl rfl (fun _ _ _ _ _ h => h) rfl (.inr hS) ?_); try (first | ((with_reducible refine WD.topT ?_ ?_); omega) | ((with_reducible refine WD.topF ?_ ?_); omega) | ((with_reducible refine WD.top64 ?_ ?_); omega))); ((first | refine WD.free 6 rfl (by kernel_rfl) rfl rfl (fun _ _ _ _ _ h => h) rfl rfl (.inr hS) ?_ | refine WD.skip 6 rfl (by kernel_rfl) rfl rfl (fun _ _ _ _ _ h => h) rfl (.inr hS) ?_); try (first | ((with_reducible refine WD.topT ?_ ?_); omega) | ((with_reducible refine WD.topF ?_ ?_); omega) | ((with_reducible refine WD.top64 ?_ ?_); omega))); ((first | refine WD.free 7 rfl (by kernel_rfl) rfl rfl (fun _ _ _ _ _ h => h) rfl rfl (.inr hS) ?_ | refine WD.skip 7 rfl (by kernel_rfl) rfl rfl (fun _ _ _ _ _ h => h) rfl (.inr hS) ?_); try (first | ((with_reducible refine WD.topT ?_ ?_); omega) | ((with_reducible refine WD.topF ?_ ?_); omega) | ((with_reducible refine WD.top64 ?_ ?_); omega))); ((first | refine WD.free 8 rfl (by kernel_rfl) rfl rfl (fun _ _ _ _ _ h => h) rfl rfl (.inr hS) ?_ | refine WD.skip 8 rfl (by kernel_rfl) rfl rfl (fun _ _ _ _ _ h => h) rfl (.inr hS) ?_); try (first | ((with_reducible refine WD.topT ?_ ?_); omega) | ((with_reducible refine WD.topF ?_ ?_); omega) | ((with_reducible refine WD.top64 ?_ ?_); omega))))
              refine WD.load 9 [11, 12, 13, 14, 15, 16, 17, 18, 19, 20, 21, 22, 23, 24, 25, 26, 27, 28, 29, 30, 31, 32, 33] rfl (by kernel_rfl) rfl rfl (fun _ _ _ _ _ h => h) rfl rfl rfl rfl (fun wx hx => hx.2.cell 4 (by simp)) hS ?_
              (((first | refine WD.free 10 rfl (by kernel_rfl) rfl rfl (fun _ _ _ _ _ h => h) rfl rfl (.inr hS) ?_ | refine WD.skip 10 rfl (by kernel_rfl) rfl rfl (fun _ _ _ _ _ h => h) rfl (.inr hS) ?_); try (first | ((with_reducible refine WD.topT ?_ ?_); omega) | ((with_reducible refine WD.topF ?_ ?_); omega) | ((with_reducible refine WD.top64 ?_ ?_); omega))))
              refine WD.idx 11 i (no + i) rfl (by kernel_rfl) rfl rfl (fun _ _ _ _ _ h => h) rfl rfl rfl rfl rfl rfl (by omega) (by omega) (.inr hS) ?_
              refine WD.load 12 [13, 14, 15, 16, 17, 18, 19, 20, 21, 22, 23, 24, 25, 26, 27, 28, 29, 30, 31, 32, 33] rfl (by kernel_rfl) rfl rfl (fun _ _ _ _ _ h => h) rfl rfl rfl rfl (fun wx hx => (hx.1.cell (p := ⟨nb, no + i, none⟩) hnb).trans hnc) hS ?_
              (((first | refine WD.free 13 rfl (by kernel_rfl) rfl rfl (fun _ _ _ _ _ h => h) rfl rfl (.inr hS) ?_ | refine WD.skip 13 rfl (by kernel_rfl) rfl rfl (fun _ _ _ _ _ h => h) rfl (.inr hS) ?_); try (first | ((with_reducible refine WD.topT ?_ ?_); omega) | ((with_reducible refine WD.topF ?_ ?_); omega) | ((with_reducible refine WD.top64 ?_ ?_); omega))); ((first | refine WD.free 14 rfl (by kernel_rfl) rfl rfl (fun _ _ _ _ _ h => h) rfl rfl (.inr hS) ?_ | refine WD.skip 14 rfl (by kernel_rfl) rfl rfl (fun _ _ _ _ _ h => h) rfl (.inr hS) ?_); try (first | ((with_reducible refine WD.topT ?_ ?_); omega) | ((with_reducible refine WD.topF ?_ ?_); omega) | ((with_reducible refine WD.top64 ?_ ?_); omega))); ((first | refine WD.free 15 rfl (by kernel_rfl) rfl rfl (fun _ _ _ _ _ h => h) rfl rfl (.inr hS) ?_ | refine WD.skip 15 rfl (by kernel_rfl) rfl rfl (fun _ _ _ _ _ h => h) rfl (.inr hS) ?_); try (first | ((with_reducible refine WD.topT ?_ ?_); omega) | ((with_reducible refine WD.topF ?_ ?_); omega) | ((with_reducible refine WD.top64 ?_ ?_); omega))); ((first | refine WD.free 16 rfl (by kernel_rfl) rfl rfl (fun _ _ _ _ _ h => h) rfl rfl (.inr hS) ?_ | refine WD.skip 16 rfl (by kernel_rfl) rfl rfl (fun _ _ _ _ _ h => h) rfl (.inr hS) ?_); try (first | ((with_reducible refine WD.topT ?_ ?_); omega) | ((with_reducible refine WD.topF ?_ ?_); omega) | ((with_reducible refine WD.top64 ?_ ?_); omega))))
              (((first | refine WD.free 17 rfl (by kernel_rfl) rfl rfl (fun _ _ _ _ _ h => h) rfl rfl (.inr hS) ?_ | refine WD.skip 17 rfl (by kernel_rfl) rfl rfl (fun _ _ _ _ _ h => h) rfl (.inr hS) ?_); try (first | ((with_reducible refine WD.topT ?_ ?_); omega) | ((with_reducible refine WD.topF ?_ ?_); omega) | ((with_reducible refine WD.top64 ?_ ?_); omega))); ((first | refine WD.free 18 rfl (by kernel_rfl) rfl rfl (fun _ _ _ _ _ h => h) rfl rfl (.inr hS) ?_ | refine WD.skip 18 rfl (by kernel_rfl) rfl rfl (fun _ _ _ _ _ h => h) rfl (.inr hS) ?_); try (first | ((with_reducible refine WD.topT ?_ ?_); omega) | ((with_reducible refine WD.topF ?_ ?_); omega) | ((with_reducible refine WD.top64 ?_ ?_); omega))); ((first | refine WD.free 19 rfl (by kernel_rfl) rfl rfl (fun _ _ _ _ _ h => h) rfl rfl (.inr hS) ?_ | refine WD.skip 19 rfl (by kernel_rfl) rfl rfl (fun _ _ _ _ _ h => h) rfl (.inr hS) ?_); try (first | ((with_reducible refine WD.topT ?_ ?_); omega) | ((with_reducible refine WD.topF ?_ ?_); omega) | ((with_reducible refine WD.top64 ?_ ?_); omega))); ((first | refine WD.free 20 rfl (by kernel_rfl) rfl rfl (fun _ _ _ _ _ h => h) rfl rfl (.inr hS) ?_ | refine WD.skip 20 rfl (by kernel_rfl) rfl rfl (fun _ _ _ _ _ h => h) rfl (.inr hS) ?_); try (first | ((with_reducible refine WD.topT ?_ ?_); omega) | ((with_reducible refine WD.topF ?_ ?_); omega) | ((with_reducible refine WD.top64 ?_ ?_); omega))))
              refine WD.load 21 [23, 24, 31, 32, 33] rfl (by kernel_rfl) rfl rfl (fun _ _ _ _ _ h => h) rfl rfl rfl rfl (fun wx hx => hx.2.cell 4 (by simp)) hS ?_
              (((first | refine WD.free 22 rfl (by kernel_rfl) rfl rfl (fun _ _ _ _ _ h => h) rfl rfl (.inr hS) ?_ | refine WD.skip 22 rfl (by kernel_rfl) rfl rfl (fun _ _ _ _ _ h => h) rfl (.inr hS) ?_); try (first | ((with_reducible refine WD.topT ?_ ?_); omega) | ((with_reducible refine WD.topF ?_ ?_); omega) | ((with_reducible refine WD.top64 ?_ ?_); omega))))
              refine WD.idx 23 i (no + i) rfl (by kernel_rfl) rfl rfl (fun _ _ _ _ _ h => h) rfl rfl rfl rfl rfl rfl (by omega) (by omega) (.inr hS) ?_
              refine WD.load 24 [31, 32, 33] rfl (by kernel_rfl) rfl rfl (fun _ _ _ _ _ h => h) rfl rfl rfl rfl (fun wx hx => (hx.1.cell (p := ⟨nb, no + i, none⟩) hnb).trans hnc) hS ?_
              (((first | refine WD.free 25 rfl (by kernel_rfl) rfl rfl (fun _ _ _ _ _ h => h) rfl rfl (.inr hS) ?_ | refine WD.skip 25 rfl (by kernel_rfl) rfl rfl (fun _ _ _ _ _ h => h) rfl (.inr hS) ?_); try (first | ((with_reducible refine WD.topT ?_ ?_); omega) | ((with_reducible refine WD.topF ?_ ?_); omega) | ((with_reducible refine WD.top64 ?_ ?_); omega))))
              refine WD.load 26 [29, 30, 31, 32, 33] rfl (by kernel_rfl) rfl rfl (fun _ _ _ _ _ h => h) rfl rfl rfl rfl (fun wx hx => hx.2.cell 4 (by simp)) hS ?_
              (((first | refine WD.free 27 rfl (by kernel_rfl) rfl rfl (fun _ _ _ _ _ h => h) rfl rfl (.inr hS) ?_ | refine WD.skip 27 rfl (by kernel_rfl) rfl rfl (fun _ _ _ _ _ h => h) rfl (.inr hS) ?_); try (first | ((with_reducible refine WD.topT ?_ ?_); omega) | ((with_reducible refine WD.topF ?_ ?_); omega) | ((with_reducible refine WD.top64 ?_ ?_); omega))); ((first | refine WD.free 28 rfl (by kernel_rfl) rfl rfl (fun _ _ _ _ _ h => h) rfl rfl (.inr hS) ?_ | refine WD.skip 28 rfl (by kernel_rfl) rfl rfl (fun _ _ _ _ _ h => h) rfl (.inr hS) ?_); try (first | ((with_reducible refine WD.topT ?_ ?_); omega) | ((with_reducible refine WD.topF ?_ ?_); omega) | ((with_reducible refine WD.top64 ?_ ?_); omega))))
              refine WD.idx 29 (i - 1) (no + (i - 1)) rfl (by kernel_rfl) rfl rfl (fun _ _ _ _ _ h => h) rfl rfl rfl rfl rfl (by omega) (by omega) (by omega) (.inr hS) ?_
              refine WD.load 30 [31, 32, 33] rfl (by kernel_rfl) rfl rfl (fun _ _ _ _ _ h => h) rfl rfl rfl rfl (fun wx hx => (hx.1.cell (p := ⟨nb, no + (i - 1), none⟩) hnb).trans hnp) hS ?_
              (((first | refine WD.free 31 rfl (by kernel_rfl) rfl rfl (fun _ _ _ _ _ h => h) rfl rfl (.inr hS) ?_ | refine WD.skip 31 rfl (by kernel_rfl) rfl rfl (fun _ _ _ _ _ h => h) rfl (.inr hS) ?_); try (first | ((with_reducible refine WD.topT ?_ ?_); omega) | ((with_reducible refine WD.topF ?_ ?_); omega) | ((with_reducible refine WD.top64 ?_ ?_); omega))); ((first | refine WD.free 32 rfl (by kernel_rfl) rfl rfl (fun _ _ _ _ _ h => h) rfl rfl (.inr hS) ?_ | refine WD.skip 32 rfl (by kernel_rfl) rfl rfl (fun _ _ _ _ _ h => h) rfl (.inr hS) ?_); try (first | ((with_reducible refine WD.topT ?_ ?_); omega) | ((with_reducible refine WD.topF ?_ ?_); omega) | ((with_reducible refine WD.top64 ?_ ?_); omega))))
              refine WD.one 33 (by kernel_rfl) rfl ?_
              refine WL.pure rfl rfl rfl rfl ?_
              refine WL.nil (WQ.dk (.inl rfl) ?_)
              refine WD.done (by kernel_rfl) ?_
              repeat (first | refine WC.seq ?_ | refine WC.block ?_ | refine WC.region ?_ | refine WL.nil ?_ | refine WC.skip ?_ | refine WC.exit ?_ | refine WC.ret ?_ | refine WQ.then rfl ?_ | refine WQ.thenExit ?_ | refine WQ.thenRet ?_ | refine WQ.blk ?_ | refine WQ.blkRet ?_ | refine WQ.blkHere rfl ?_ | refine WQ.blkOther rfl ?_)
              refine WC.as 215 (.bool true) rfl (congrArg Value.bool hleq) ?_
              repeat (first | ((with_reducible refine WL.topT ?_ ?_); omega) | ((with_reducible refine WL.topF ?_ ?_); omega) | ((with_reducible refine WL.top64 ?_ ?_); omega) | refine WC.seq ?_ | refine WC.block ?_ | refine WC.region ?_ | refine WL.nil ?_ | refine WC.skip ?_ | refine WC.exit ?_ | refine WC.ret ?_ | refine WQ.then rfl ?_ | refine WQ.thenExit ?_ | refine WQ.thenRet ?_ | refine WQ.blk ?_ | refine WQ.blkRet ?_ | refine WQ.blkHere rfl ?_ | refine WQ.blkOther rfl ?_ | refine WL.pure rfl rfl rfl rfl ?_ | refine WL.on rfl rfl ?_ | refine WL.off rfl rfl rfl ?_ | refine WC.condTrue rfl ?_ | refine WC.condFalse rfl ?_)
              exact WQ.ret1 rfl rfl ⟨badn (by rw [hok, hnm1, decide_eq_false x3]; rfl), hS.1⟩
          · obtain rfl : i = v.names.length := by omega
            have hff : fieldsB v = true := hfi.2 ⟨hall, a5⟩
            have h0 : shp v = 0 := shp0 hform (by have := hEt hE1; omega) (by omega) (fun _ => hff)
            have hchk : chk (m + 1) v = firstBad (v.kids.map (chk m)) := by
              conv => lhs; unfold chk
              rw [if_pos h0]
            clear hfi hall nr nsz
            repeat (first | ((with_reducible refine WL.topT ?_ ?_); omega) | ((with_reducible refine WL.topF ?_ ?_); omega) | ((with_reducible refine WL.top64 ?_ ?_); omega) | refine WC.seq ?_ | refine WC.block ?_ | refine WC.region ?_ | refine WL.nil ?_ | refine WC.skip ?_ | refine WC.exit ?_ | refine WC.ret ?_ | refine WQ.then rfl ?_ | refine WQ.thenExit ?_ | refine WQ.thenRet ?_ | refine WQ.blk ?_ | refine WQ.blkRet ?_ | refine WQ.blkHere rfl ?_ | refine WQ.blkOther rfl ?_ | refine WL.pure rfl rfl rfl rfl ?_ | refine WL.on rfl rfl ?_ | refine WL.off rfl rfl rfl ?_ | refine WL.load rfl rfl rfl rfl rfl rfl (by assumption) ?_ | refine WC.condTrue rfl ?_ | refine WC.condFalse rfl ?_)
            have hb1 := hbz
            refine WC.loop (fun i : Nat => [(1, .int .i64 d), (2, .pointer (some ⟨g, 0, none⟩)), (8, .int .i64 i)]) (fun i w' => i ≤ v.kids.length ∧ Below w1.heap.size w1 w' ∧ ∀ j, j < i → chk m (v.kids.getD j noV) = 0) (fun i => v.kids.length - i) 0 ⟨rfl, rfl, rfl, trivial⟩ ⟨Nat.zero_le _, hb1, fun j hj => absurd hj (by omega)⟩ ?_
            clear hb1 c0 c1 c2 c3 c4 c5
            rintro i wr ⟨hi, hbr, hall⟩
            have hgw : g < w1.heap.size := hR.lt
            have c5 : wr.cell? ⟨g, 5, none⟩ = some (.slice sp v.kids.length cap) := (hR.below hbr hgw).cell 5 (by simp)
            have hbelr : Below w.heap.size w wr := hbel.trans (hbr.mono hbel.size)
            by_cases hik : i < v.kids.length
            · obtain ⟨kb, ko, rfl, hkb, hcells⟩ := hrow (by omega)
              obtain ⟨c, hc6, hci, hcr⟩ := hcells i hik
              clear hrow hcells
              have hcr' : wr.rangeAt kb (ko + i * 6) c := fun j u hu => by rw [hbelr.cell (p := ⟨kb, ko + i * 6 + j, none⟩) hkb]; exact hcr j u hu
              repeat (first | ((with_reducible refine WL.topT ?_ ?_); omega) | ((with_reducible refine WL.topF ?_ ?_); omega) | ((with_reducible refine WL.top64 ?_ ?_); omega) | refine WC.seq ?_ | refine WC.block ?_ | refine WC.region ?_ | refine WL.nil ?_ | refine WC.skip ?_ | refine WC.exit ?_ | refine WC.ret ?_ | refine WQ.then rfl ?_ | refine WQ.thenExit ?_ | refine WQ.thenRet ?_ | refine WQ.blk ?_ | refine WQ.blkRet ?_ | refine WQ.blkHere rfl ?_ | refine WQ.blkOther rfl ?_ | refine WL.pure rfl rfl rfl rfl ?_ | refine WL.on rfl rfl ?_ | refine WL.off rfl rfl rfl ?_ | refine WL.load rfl rfl rfl rfl rfl rfl (by assumption) ?_ | refine WC.condTrue rfl ?_ | refine WC.condFalse rfl ?_)
              refine WL.idx i (ko + i * 6) rfl rfl rfl rfl rfl rfl rfl rfl hik rfl ?_
              refine WL.loadMid rfl rfl rfl rfl rfl rfl hcr' hc6 ?_
              repeat (first | ((with_reducible refine WL.topT ?_ ?_); omega) | ((with_reducible refine WL.topF ?_ ?_); omega) | ((with_reducible refine WL.top64 ?_ ?_); omega) | refine WC.seq ?_ | refine WC.block ?_ | refine WC.region ?_ | refine WL.nil ?_ | refine WC.skip ?_ | refine WC.exit ?_ | refine WC.ret ?_ | refine WQ.then rfl ?_ | refine WQ.thenExit ?_ | refine WQ.thenRet ?_ | refine WQ.blk ?_ | refine WQ.blkRet ?_ | refine WQ.blkHere rfl ?_ | refine WQ.blkOther rfl ?_ | refine WL.pure rfl rfl rfl rfl ?_ | refine WL.on rfl rfl ?_ | refine WL.off rfl rfl rfl ?_ | refine WC.condTrue rfl ?_ | refine WC.condFalse rfl ?_)
              refine WL.call rfl rfl rfl rfl rfl Try.func32 rfl (by kernel_rfl) (ih (d + 1) (hci.below hbelr) hd) ?_
              rintro e w4 ⟨rfl, hb4⟩
              refine ⟨_, rfl, ?_⟩
              have hb4' : Below w1.heap.size w1 w4 := hbr.trans (hb4.mono hbr.size)
              by_cases h0 : chk m (v.kids.getD i noV) = 0
              · repeat (first | ((with_reducible refine WL.topT ?_ ?_); omega) | ((with_reducible refine WL.topF ?_ ?_); omega) | ((with_reducible refine WL.top64 ?_ ?_); omega) | refine WC.seq ?_ | refine WC.block ?_ | refine WC.region ?_ | refine WL.nil ?_ | refine WC.skip ?_ | refine WC.exit ?_ | refine WC.ret ?_ | refine WQ.then rfl ?_ | refine WQ.thenExit ?_ | refine WQ.thenRet ?_ | refine WQ.blk ?_ | refine WQ.blkRet ?_ | refine WQ.blkHere rfl ?_ | refine WQ.blkOther rfl ?_ | refine WL.pure rfl rfl rfl rfl ?_ | refine WL.on rfl rfl ?_ | refine WL.off rfl rfl rfl ?_ | refine WC.condTrue rfl ?_ | refine WC.condFalse rfl ?_)
                refine WQ.again (i + 1) ⟨rfl, rfl, rfl, trivial⟩ ⟨hik, hb4', fun j hj => (Nat.lt_succ_iff_lt_or_eq.1 hj).elim (hall j) (fun e => by rw [e]; exact h0)⟩ (by show v.kids.length - (i + 1) < v.kids.length - i; omega)
              · have hfb : chk (m + 1) v = chk m (v.kids.getD i noV) := by
                  rw [hchk, firstBad_take (i := i) (by rw [List.length_map]; exact hik) (fun j hj => by rw [chk_map m v.kids j (by omega)]; exact hall j hj) (by rw [chk_map m v.kids i hik]; exact h0), chk_map m v.kids i hik]
                repeat (first | ((with_reducible refine WL.topT ?_ ?_); omega) | ((with_reducible refine WL.topF ?_ ?_); omega) | ((with_reducible refine WL.top64 ?_ ?_); omega) | refine WC.seq ?_ | refine WC.block ?_ | refine WC.region ?_ | refine WL.nil ?_ | refine WC.skip ?_ | refine WC.exit ?_ | refine WC.ret ?_ | refine WQ.then rfl ?_ | refine WQ.thenExit ?_ | refine WQ.thenRet ?_ | refine WQ.blk ?_ | refine WQ.blkRet ?_ | refine WQ.blkHere rfl ?_ | refine WQ.blkOther rfl ?_ | refine WL.pure rfl rfl rfl rfl ?_ | refine WL.on rfl rfl ?_ | refine WL.off rfl rfl rfl ?_ | refine WC.condTrue rfl ?_ | refine WC.condFalse rfl ?_)
                exact WQ.ret1 rfl rfl ⟨ret_i64 hfb.symm, hbel.trans (hb4'.mono hbel.size)⟩
            · obtain rfl : i = v.kids.length := by omega
              repeat (first | ((with_reducible refine WL.topT ?_ ?_); omega) | ((with_reducible refine WL.topF ?_ ?_); omega) | ((with_reducible refine WL.top64 ?_ ?_); omega) | refine WC.seq ?_ | refine WC.block ?_ | refine WC.region ?_ | refine WL.nil ?_ | refine WC.skip ?_ | refine WC.exit ?_ | refine WC.ret ?_ | refine WQ.then rfl ?_ | refine WQ.thenExit ?_ | refine WQ.thenRet ?_ | refine WQ.blk ?_ | refine WQ.blkRet ?_ | refine WQ.blkHere rfl ?_ | refine WQ.blkOther rfl ?_ | refine WL.pure rfl rfl rfl rfl ?_ | refine WL.on rfl rfl ?_ | refine WL.off rfl rfl rfl ?_ | refine WL.load rfl rfl rfl rfl rfl rfl (by assumption) ?_ | refine WC.condTrue rfl ?_ | refine WC.condFalse rfl ?_)
              refine WQ.ret1 rfl rfl ⟨ret_i64 ?_, hbelr⟩
              rw [hchk]
              exact (firstBad_all fun j hj => by rw [List.length_map] at hj; rw [chk_map m v.kids j hj]; exact hall j hj).symm
        · have hff : fieldsB v = false := by cases h : fieldsB v with | false => rfl | true => exact (a5 (hfi.1 h).2).elim
          repeat (first | ((with_reducible refine WL.topT ?_ ?_); omega) | ((with_reducible refine WL.topF ?_ ?_); omega) | ((with_reducible refine WL.top64 ?_ ?_); omega) | refine WC.seq ?_ | refine WC.block ?_ | refine WC.region ?_ | refine WL.nil ?_ | refine WC.skip ?_ | refine WC.exit ?_ | refine WC.ret ?_ | refine WQ.then rfl ?_ | refine WQ.thenExit ?_ | refine WQ.thenRet ?_ | refine WQ.blk ?_ | refine WQ.blkRet ?_ | refine WQ.blkHere rfl ?_ | refine WQ.blkOther rfl ?_ | refine WL.pure rfl rfl rfl rfl ?_ | refine WL.on rfl rfl ?_ | refine WL.off rfl rfl rfl ?_ | refine WL.load rfl rfl rfl rfl rfl rfl (by assumption) ?_ | refine WC.condTrue rfl ?_ | refine WC.condFalse rfl ?_)
          exact WQ.ret1 rfl rfl ⟨ret_i64 (chk_bad (shp3 hff) (by decide)).symm, hbel⟩
    · skip
      repeat (first | ((with_reducible refine WL.topT ?_ ?_); omega) | ((with_reducible refine WL.topF ?_ ?_); omega) | ((with_reducible refine WL.top64 ?_ ?_); omega) | refine WC.seq ?_ | refine WC.block ?_ | refine WC.region ?_ | refine WL.nil ?_ | refine WC.skip ?_ | refine WC.exit ?_ | refine WC.ret ?_ | refine WQ.then rfl ?_ | refine WQ.thenExit ?_ | refine WQ.thenRet ?_ | refine WQ.blk ?_ | refine WQ.blkRet ?_ | refine WQ.blkHere rfl ?_ | refine WQ.blkOther rfl ?_ | refine WL.pure rfl rfl rfl rfl ?_ | refine WL.on rfl rfl ?_ | refine WL.off rfl rfl rfl ?_ | refine WL.load rfl rfl rfl rfl rfl rfl (by assumption) ?_ | refine WC.condTrue rfl ?_ | refine WC.condFalse rfl ?_)
      exact WQ.ret1 rfl rfl (bad3 (by rw [hfc]; simp [formC, *]))
  · skip
    repeat (first | ((with_reducible refine WL.topT ?_ ?_); omega) | ((with_reducible refine WL.topF ?_ ?_); omega) | ((with_reducible refine WL.top64 ?_ ?_); omega) | refine WC.seq ?_ | refine WC.block ?_ | refine WC.region ?_ | refine WL.nil ?_ | refine WC.skip ?_ | refine WC.exit ?_ | refine WC.ret ?_ | refine WQ.then rfl ?_ | refine WQ.thenExit ?_ | refine WQ.thenRet ?_ | refine WQ.blk ?_ | refine WQ.blkRet ?_ | refine WQ.blkHere rfl ?_ | refine WQ.blkOther rfl ?_ | refine WL.pure rfl rfl rfl rfl ?_ | refine WL.on rfl rfl ?_ | refine WL.off rfl rfl rfl ?_ | refine WL.load rfl rfl rfl rfl rfl rfl (by assumption) ?_ | refine WC.condTrue rfl ?_ | refine WC.condFalse rfl ?_)
    exact WQ.ret1 rfl rfl (bad3 (by rw [hfc]; simp [formC, *]))

theorem rcheck_any : ∀ {f : Nat} {w : World} {v : V} {cs : List Value} (m : Nat) (d : Int), IsV f w v cs → m ≤ 16 → d = 17 - (m : Int) →
    Calls Try.prog 32 #[.agg cs.toArray, .int .i64 d] w fun e w' => e = .returned (.int .i64 (chk m v)) ∧ Below w.heap.size w w'
  | 0, _, _, _, _, _, h, _, _ => h.elim
  | f + 1, w, v, cs, 0, d, hv, _, hd => by
    refine enter (args := [.agg cs.toArray, .int .i64 d]) Try.func32 rfl Try.ntmps32 rfl ?_
    have hd1 : 16 < d := by omega
    repeat (first | ((with_reducible refine WL.topT ?_ ?_); omega) | ((with_reducible refine WL.topF ?_ ?_); omega) | ((with_reducible refine WL.top64 ?_ ?_); omega) | refine WC.seq ?_ | refine WC.block ?_ | refine WC.region ?_ | refine WL.nil ?_ | refine WC.skip ?_ | refine WC.exit ?_ | refine WC.ret ?_ | refine WQ.then rfl ?_ | refine WQ.thenExit ?_ | refine WQ.thenRet ?_ | refine WQ.blk ?_ | refine WQ.blkRet ?_ | refine WQ.blkHere rfl ?_ | refine WQ.blkOther rfl ?_ | refine WL.pure rfl rfl rfl rfl ?_ | refine WL.on rfl rfl ?_ | refine WL.off rfl rfl rfl ?_ | refine WC.condTrue rfl ?_ | refine WC.condFalse rfl ?_)
    refine WL.box rfl rfl rfl rfl rfl fun g w1 hf => ?_
    repeat (first | ((with_reducible refine WL.topT ?_ ?_); omega) | ((with_reducible refine WL.topF ?_ ?_); omega) | ((with_reducible refine WL.top64 ?_ ?_); omega) | refine WC.seq ?_ | refine WC.block ?_ | refine WC.region ?_ | refine WL.nil ?_ | refine WC.skip ?_ | refine WC.exit ?_ | refine WC.ret ?_ | refine WQ.then rfl ?_ | refine WQ.thenExit ?_ | refine WQ.thenRet ?_ | refine WQ.blk ?_ | refine WQ.blkRet ?_ | refine WQ.blkHere rfl ?_ | refine WQ.blkOther rfl ?_ | refine WL.pure rfl rfl rfl rfl ?_ | refine WL.on rfl rfl ?_ | refine WL.off rfl rfl rfl ?_ | refine WC.condTrue rfl ?_ | refine WC.condFalse rfl ?_)
    exact WQ.ret1 rfl rfl ⟨rfl, hf.below⟩
  | f + 1, w, v, cs, m + 1, d, hv, hm, hd => by
    have ih := fun {w : World} {v : V} {cs : List Value} (d : Int) (h1 : IsV f w v cs) (h2 : d = 17 - (m : Int)) => @rcheck_any f w v cs m d h1 (by omega) h2
    have hd1 : d ≤ 16 := by omega
    have hd0 : 0 ≤ d := by omega
    by_cases q1 : v.k = 1
    · exact rchk_k1 hv q1 hd1 hd0
    by_cases q2 : v.k = 2
    · exact rchk_k2 hv q2 hd1 hd0
    by_cases q3 : v.k = 3
    · exact rchk_k3 hv q3 hd1 hd0
    by_cases q4 : v.k = 4
    · exact rchk_k4 hv q4 hd1 hd0
    by_cases q5 : v.k = 5
    · exact rchk_k5 hv q5 hd1 hd0
    by_cases q67 : v.k = 6 ∨ v.k = 7
    · exact rchk_k67 hv q67 hd1 hd0
    by_cases q8 : v.k = 8
    · exact rchk_k8 ih (by omega) hv q8 hd1 hd0
    by_cases q9 : v.k = 9
    · exact rchk_k9 ih (by omega) hv q9 hd1 hd0
    exact rchk_kx hv (by omega) hd1 hd0
theorem rCheck_any {f : Nat} {w : World} {v : V} {cs : List Value} (h : IsV f w v cs) :
    Calls Try.prog 21 #[.agg cs.toArray] w fun e w' => e = .returned (.int .i64 (chk 16 v)) ∧ Below w.heap.size w w' := by
  refine enter (args := [.agg cs.toArray]) Try.func21 rfl Try.ntmps21 rfl ?_
  repeat (first | ((with_reducible refine WL.topT ?_ ?_); omega) | ((with_reducible refine WL.topF ?_ ?_); omega) | ((with_reducible refine WL.top64 ?_ ?_); omega) | refine WC.seq ?_ | refine WC.block ?_ | refine WC.region ?_ | refine WL.nil ?_ | refine WC.skip ?_ | refine WC.exit ?_ | refine WC.ret ?_ | refine WQ.then rfl ?_ | refine WQ.thenExit ?_ | refine WQ.thenRet ?_ | refine WQ.blk ?_ | refine WQ.blkRet ?_ | refine WQ.blkHere rfl ?_ | refine WQ.blkOther rfl ?_ | refine WL.pure rfl rfl rfl rfl ?_ | refine WL.on rfl rfl ?_ | refine WL.off rfl rfl rfl ?_ | refine WC.condTrue rfl ?_ | refine WC.condFalse rfl ?_)
  refine WL.box rfl rfl rfl rfl rfl fun g w1 hf => ?_
  have hf' : Fresh w g w1 25 cs := hf
  repeat (first | ((with_reducible refine WL.topT ?_ ?_); omega) | ((with_reducible refine WL.topF ?_ ?_); omega) | ((with_reducible refine WL.top64 ?_ ?_); omega) | refine WC.seq ?_ | refine WC.block ?_ | refine WC.region ?_ | refine WL.nil ?_ | refine WC.skip ?_ | refine WC.exit ?_ | refine WC.ret ?_ | refine WQ.then rfl ?_ | refine WQ.thenExit ?_ | refine WQ.thenRet ?_ | refine WQ.blk ?_ | refine WQ.blkRet ?_ | refine WQ.blkHere rfl ?_ | refine WQ.blkOther rfl ?_ | refine WL.pure rfl rfl rfl rfl ?_ | refine WL.on rfl rfl ?_ | refine WL.off rfl rfl rfl ?_ | refine WC.condTrue rfl ?_ | refine WC.condFalse rfl ?_)
  refine WL.loadMid rfl rfl rfl rfl rfl rfl (VBlk.rangeAt hf'.blk) h.len ?_
  refine WL.call rfl rfl rfl rfl rfl Try.func32 rfl (by kernel_rfl) (rcheck_any 16 1 (h.below hf'.below) (by omega) (by omega)) ?_
  rintro e w2 ⟨rfl, hb2⟩
  refine ⟨_, rfl, ?_⟩
  repeat (first | ((with_reducible refine WL.topT ?_ ?_); omega) | ((with_reducible refine WL.topF ?_ ?_); omega) | ((with_reducible refine WL.top64 ?_ ?_); omega) | refine WC.seq ?_ | refine WC.block ?_ | refine WC.region ?_ | refine WL.nil ?_ | refine WC.skip ?_ | refine WC.exit ?_ | refine WC.ret ?_ | refine WQ.then rfl ?_ | refine WQ.thenExit ?_ | refine WQ.thenRet ?_ | refine WQ.blk ?_ | refine WQ.blkRet ?_ | refine WQ.blkHere rfl ?_ | refine WQ.blkOther rfl ?_ | refine WL.pure rfl rfl rfl rfl ?_ | refine WL.on rfl rfl ?_ | refine WL.off rfl rfl rfl ?_ | refine WC.condTrue rfl ?_ | refine WC.condFalse rfl ?_)
  exact WQ.ret1 rfl rfl ⟨rfl, hf'.below.trans (hb2.mono hf'.below.size)⟩
end K
end Go.Proofs.Ytnboloilljlfiaa

/- The document's parts and Encode (chapter 7). -/
namespace Go.Proofs.Ytnboloilljlfiaa
open Go.RowKit
namespace K

/-- How many parts a value has, at least if they are more than bytes may be. -/
def prtK (g : V → Nat → Nat) : List V → Nat → Nat
  | [], n => n
  | k :: r, n => if n ≤ 65536 then prtK g r (g k n) else n
def prt : Nat → V → Nat → Nat
  | 0, _, n => n
  | f + 1, v, n => prtK (prt f) v.kids (n + 1 + v.t.size)
theorem prtK_enc {f m : Nat} (ih : ∀ (v : V) (n : Nat), chk m v = 0 → prt f v n ≤ n + (encV m v).length) : ∀ (l : List V) (n : Nat), (∀ x ∈ l, chk m x = 0) → prtK (prt f) l n ≤ n + (l.flatMap (encV m)).length
  | [], n, _ => by simp [prtK]
  | k :: r, n, h => by
    unfold prtK
    rw [List.flatMap_cons, List.length_append]
    split
    · have h1 := ih k n (h k (by simp))
      have h2 := prtK_enc ih r (prt f k n) fun x hx => h x (List.mem_cons_of_mem _ hx)
      omega
    · omega
theorem pieces_ge (ky : V → List Int) (st : Bool) (names : List ByteArray) (kids : List V) : (kids.flatMap ky).length ≤ ((List.range kids.length).flatMap (pieceE ky st names kids)).length := by
  have key : ∀ i, i ≤ kids.length → ((kids.take i).flatMap ky).length ≤ ((List.range i).flatMap (pieceE ky st names kids)).length := by
    intro i
    induction i with
    | zero => intro _; simp
    | succ i ih =>
      intro hi
      have h1 := ih (by omega)
      have ht : kids.take (i + 1) = kids.take i ++ [kids.getD i noV] := by
        rw [List.take_add_one]
        simp [show i < kids.length by omega]
      rw [range_piece, List.length_append, ht, List.flatMap_append, List.length_append]
      have h2 : ([kids.getD i noV].flatMap ky).length ≤ (pieceE ky st names kids i).length := by
        unfold pieceE
        rw [List.length_append]
        generalize kids.getD i noV = kd
        simp
      omega
  have := key kids.length (Nat.le_refl _)
  rwa [List.take_length] at this
theorem prt_enc : ∀ (f m : Nat) (v : V) (n : Nat), chk m v = 0 → prt f v n ≤ n + (encV m v).length
  | 0, _, _, n, _ => by unfold prt; omega
  | _ + 1, 0, _, _, h => by cases h
  | f + 1, m + 1, v, n, hc => by
    unfold prt
    have h1 := prtK_enc (prt_enc f m) v.kids (n + 1 + v.t.size) fun x hx => chk_mem hc hx
    have hbody : 1 + v.t.size + (v.kids.flatMap (encV m)).length ≤ (encV (m + 1) v).length := by
      rcases shp_full (chk_shp hc) with ⟨h, e⟩ | ⟨h, e, _⟩ | ⟨h, e⟩ | ⟨h, e, _⟩ | ⟨h, e, _⟩ | ⟨h, e, _⟩ | ⟨h, e, _⟩ | ⟨h, e, _⟩
      all_goals rw [encV_two, List.length_cons]
      · rw [e]; simp [V.t, V.kids, noT]
      · rw [e]; simp [V.t, V.kids, noT]
      · rw [e]; simp [V.t, V.kids, noT]
      · rw [e]; simp [V.t, V.kids, noT]
      · rw [e]; simp [V.t, V.kids, noT]
      · rw [if_neg (by omega), if_neg (by omega), if_neg (by omega), if_neg (by omega), if_pos h, List.length_append, byI_len]
        have : v.kids = [] := by rw [e]; rfl
        rw [this]; simp; omega
      · rw [if_neg (by omega), if_neg (by omega), if_neg (by omega), if_neg (by omega), if_neg (by omega), if_pos (.inl h), List.length_append]
        have ht : v.t.size = 0 := by rw [e]; rfl
        have := pieces_ge (encV m) (decide (v.k = 9)) v.names v.kids
        omega
      · rw [if_neg (by omega), if_neg (by omega), if_neg (by omega), if_neg (by omega), if_neg (by omega), if_pos (.inr h), List.length_append]
        have ht : v.t.size = 0 := by rw [e]; rfl
        have := pieces_ge (encV m) (decide (v.k = 9)) v.names v.kids
        omega
    omega

set_option maxHeartbeats 4000000 in
theorem parts_any : ∀ (f : Nat) {w0 w : World} {v : V} {cs : List Value} {pb n : Nat}, IsV f w0 v cs → Below w0.heap.size w0 w → w0.heap.size ≤ pb → VBlk 3 w pb [.int .i64 n] → n ≤ 140737488355328 →
    Calls Try.prog 22 #[.agg cs.toArray, .pointer (some ⟨pb, 0, none⟩)] w fun e w' => e = .returned (.bool (decide (65536 < prt f v n))) ∧ VBlk 3 w' pb [.int .i64 (prt f v n)] ∧ Keep (fun b => b < w.heap.size ∧ b ≠ pb) w w'
  | 0, _, _, _, _, _, _, h, _, _, _, _ => h.elim
  | f + 1, w0, w, v, cs, pb, n, hv, hbel, hpb, hblk, hn => by
    have ih := @parts_any f
    obtain ⟨sn, sk, rfl, -, -, -, htz, -, ⟨sp, cap, rfl, hcap1, hcap2, hrow⟩⟩ := hv
    have hgr : prt (f + 1) v n = prtK (prt f) v.kids (n + 1 + v.t.size) := rfl
    rw [hgr]
    refine enter (args := [.agg (six v sn (.slice sp v.kids.length cap)).toArray, .pointer (some ⟨pb, 0, none⟩)]) Try.func22 rfl Try.ntmps22 rfl ?_
    repeat (first | ((with_reducible refine WL.topT ?_ ?_); omega) | ((with_reducible refine WL.topF ?_ ?_); omega) | ((with_reducible refine WL.top64 ?_ ?_); omega) | refine WC.seq ?_ | refine WC.block ?_ | refine WC.region ?_ | refine WL.nil ?_ | refine WC.skip ?_ | refine WC.exit ?_ | refine WC.ret ?_ | refine WQ.then rfl ?_ | refine WQ.thenExit ?_ | refine WQ.thenRet ?_ | refine WQ.blk ?_ | refine WQ.blkRet ?_ | refine WQ.blkHere rfl ?_ | refine WQ.blkOther rfl ?_ | refine WL.pure rfl rfl rfl rfl ?_ | refine WL.on rfl rfl ?_ | refine WL.off rfl rfl rfl ?_ | refine WC.condTrue rfl ?_ | refine WC.condFalse rfl ?_)
    refine WL.box rfl rfl rfl rfl rfl fun g w1 hf => ?_
    have hf' : Fresh w g w1 25 (six v sn (.slice sp v.kids.length cap)) := hf
    clear hf
    have hpw := hblk.lt
    have hne : g ≠ pb := by rw [hf'.eq]; omega
    have hblk1 : VBlk 3 w1 pb [.int .i64 n] := hblk.below hf'.below hpw
    have hkeep1 : Keep (fun b => b < w.heap.size ∧ b ≠ pb) w w1 := (Keep.of_below hf'.below).mono fun _ h => h.1
    repeat (first | ((with_reducible refine WL.topT ?_ ?_); omega) | ((with_reducible refine WL.topF ?_ ?_); omega) | ((with_reducible refine WL.top64 ?_ ?_); omega) | refine WC.seq ?_ | refine WC.block ?_ | refine WC.region ?_ | refine WL.nil ?_ | refine WC.skip ?_ | refine WC.exit ?_ | refine WC.ret ?_ | refine WQ.then rfl ?_ | refine WQ.thenExit ?_ | refine WQ.thenRet ?_ | refine WQ.blk ?_ | refine WQ.blkRet ?_ | refine WQ.blkHere rfl ?_ | refine WQ.blkOther rfl ?_ | refine WL.pure rfl rfl rfl rfl ?_ | refine WL.on rfl rfl ?_ | refine WL.off rfl rfl rfl ?_ | refine WC.condTrue rfl ?_ | refine WC.condFalse rfl ?_)
    refine WC.drawn 10 (fun wx => VBlk 3 wx pb [.int .i64 n] ∧ VBlk 25 wx g (six v sn (.slice sp v.kids.length cap))) fun w2 hd2 => ?_
    have hS : VBlk 3 w2 pb [.int .i64 n] ∧ VBlk 25 w2 g (six v sn (.slice sp v.kids.length cap)) := ⟨hblk1.below (hd2.below _) hblk1.lt, hf'.blk.below (hd2.below _) hf'.blk.lt⟩
    (((first | refine WD.free 0 rfl (by kernel_rfl) rfl rfl (fun _ _ _ _ _ h => h) rfl rfl (.inr hS) ?_ | refine WD.skip 0 rfl (by kernel_rfl) rfl rfl (fun _ _ _ _ _ h => h) rfl (.inr hS) ?_); try (first | ((with_reducible refine WD.topT ?_ ?_); omega) | ((with_reducible refine WD.topF ?_ ?_); omega) | ((with_reducible refine WD.top64 ?_ ?_); omega))); ((first | refine WD.free 1 rfl (by kernel_rfl) rfl rfl (fun _ _ _ _ _ h => h) rfl rfl (.inr hS) ?_ | refine WD.skip 1 rfl (by kernel_rfl) rfl rfl (fun _ _ _ _ _ h => h) rfl (.inr hS) ?_); try (first | ((with_reducible refine WD.topT ?_ ?_); omega) | ((with_reducible refine WD.topF ?_ ?_); omega) | ((with_reducible refine WD.top64 ?_ ?_); omega))); ((first | refine WD.free 2 rfl (by kernel_rfl) rfl rfl (fun _ _ _ _ _ h => h) rfl rfl (.inr hS) ?_ | refine WD.skip 2 rfl (by kernel_rfl) rfl rfl (fun _ _ _ _ _ h => h) rfl (.inr hS) ?_); try (first | ((with_reducible refine WD.topT ?_ ?_); omega) | ((with_reducible refine WD.topF ?_ ?_); omega) | ((with_reducible refine WD.top64 ?_ ?_); omega))))
    refine WD.load 3 [4, 8, 9, 10] rfl (by kernel_rfl) rfl rfl (fun _ _ _ _ _ h => h) rfl rfl rfl rfl (fun wx hx => hx.1.cell 0 (by simp)) hS ?_
    (((first | refine WD.free 4 rfl (by kernel_rfl) rfl rfl (fun _ _ _ _ _ h => h) rfl rfl (.inr hS) ?_ | refine WD.skip 4 rfl (by kernel_rfl) rfl rfl (fun _ _ _ _ _ h => h) rfl (.inr hS) ?_); try (first | ((with_reducible refine WD.topT ?_ ?_); omega) | ((with_reducible refine WD.topF ?_ ?_); omega) | ((with_reducible refine WD.top64 ?_ ?_); omega))); ((first | refine WD.free 5 rfl (by kernel_rfl) rfl rfl (fun _ _ _ _ _ h => h) rfl rfl (.inr hS) ?_ | refine WD.skip 5 rfl (by kernel_rfl) rfl rfl (fun _ _ _ _ _ h => h) rfl (.inr hS) ?_); try (first | ((with_reducible refine WD.topT ?_ ?_); omega) | ((with_reducible refine WD.topF ?_ ?_); omega) | ((with_reducible refine WD.top64 ?_ ?_); omega))))
    refine WD.load 6 [7, 8, 9, 10] rfl (by kernel_rfl) rfl rfl (fun _ _ _ _ _ h => h) rfl rfl rfl rfl (fun wx hx => hx.2.cell 3 (by simp)) hS ?_
    (((first | refine WD.free 7 rfl (by kernel_rfl) rfl rfl (fun _ _ _ _ _ h => h) rfl rfl (.inr hS) ?_ | refine WD.skip 7 rfl (by kernel_rfl) rfl rfl (fun _ _ _ _ _ h => h) rfl (.inr hS) ?_); try (first | ((with_reducible refine WD.topT ?_ ?_); omega) | ((with_reducible refine WD.topF ?_ ?_); omega) | ((with_reducible refine WD.top64 ?_ ?_); omega))); ((first | refine WD.free 8 rfl (by kernel_rfl) rfl rfl (fun _ _ _ _ _ h => h) rfl rfl (.inr hS) ?_ | refine WD.skip 8 rfl (by kernel_rfl) rfl rfl (fun _ _ _ _ _ h => h) rfl (.inr hS) ?_); try (first | ((with_reducible refine WD.topT ?_ ?_); omega) | ((with_reducible refine WD.topF ?_ ?_); omega) | ((with_reducible refine WD.top64 ?_ ?_); omega))); ((first | refine WD.free 9 rfl (by kernel_rfl) rfl rfl (fun _ _ _ _ _ h => h) rfl rfl (.inr hS) ?_ | refine WD.skip 9 rfl (by kernel_rfl) rfl rfl (fun _ _ _ _ _ h => h) rfl (.inr hS) ?_); try (first | ((with_reducible refine WD.topT ?_ ?_); omega) | ((with_reducible refine WD.topF ?_ ?_); omega) | ((with_reducible refine WD.top64 ?_ ?_); omega))))
    refine WD.one 10 (by kernel_rfl) rfl ?_
    have e2 : (n : Int) + 1 + (v.t.size : Int) = ((n + 1 + v.t.size : Nat) : Int) := by omega
    generalize n + 1 + v.t.size = n1 at e2 ⊢
    refine WL.store (v := .int .i64 n1) rfl rfl rfl rfl (congrArg (fun z => some (Value.int .i64 z)) e2) rfl (by kernel_rfl) (hS.1.cell 0 (by simp)) (hS.1.free 0) ?_
    have hb2 : VBlk 3 (w2.setCell ⟨pb, 0, none⟩ (.int .i64 n1)) pb [.int .i64 n1] := hS.1.set 0 (.int .i64 n1)
    have hg2 : VBlk 25 (w2.setCell ⟨pb, 0, none⟩ (.int .i64 n1)) g (six v sn (.slice sp v.kids.length cap)) := hS.2.other _ _ hne
    have hk2 : Keep (fun b => b < w.heap.size ∧ b ≠ pb) w (w2.setCell ⟨pb, 0, none⟩ (.int .i64 n1)) := (hkeep1.trans ((Keep.of_below (hd2.below w1.heap.size)).mono fun b hb => Nat.lt_of_lt_of_le hb.1 hf'.below.size)).setCell (fun h => h.2 rfl) _
    generalize w2.setCell ⟨pb, 0, none⟩ (.int .i64 n1) = w3 at hb2 hg2 hk2
    refine WL.nil (WQ.dk (.inl rfl) ?_)
    refine WD.done (by kernel_rfl) ?_
    repeat (first | ((with_reducible refine WL.topT ?_ ?_); omega) | ((with_reducible refine WL.topF ?_ ?_); omega) | ((with_reducible refine WL.top64 ?_ ?_); omega) | refine WC.seq ?_ | refine WC.block ?_ | refine WC.region ?_ | refine WL.nil ?_ | refine WC.skip ?_ | refine WC.exit ?_ | refine WC.ret ?_ | refine WQ.then rfl ?_ | refine WQ.thenExit ?_ | refine WQ.thenRet ?_ | refine WQ.blk ?_ | refine WQ.blkRet ?_ | refine WQ.blkHere rfl ?_ | refine WQ.blkOther rfl ?_ | refine WL.pure rfl rfl rfl rfl ?_ | refine WL.on rfl rfl ?_ | refine WL.off rfl rfl rfl ?_ | refine WC.condTrue rfl ?_ | refine WC.condFalse rfl ?_)
    generalize hRR : prtK (prt f) v.kids n1 = RR
    have hgw : g < w3.heap.size := hg2.lt
    refine WC.loop (fun i : Nat => [(1, .pointer (some ⟨pb, 0, none⟩)), (2, .pointer (some ⟨g, 0, none⟩)), (5, .int .i64 i)])
      (fun i w' => i ≤ v.kids.length ∧ Keep (fun b => b < w3.heap.size ∧ b ≠ pb) w3 w' ∧ ∃ x : Nat, VBlk 3 w' pb [.int .i64 x] ∧ prtK (prt f) (v.kids.drop i) x = RR) (fun i => v.kids.length - i) 0
      ⟨rfl, rfl, rfl, trivial⟩ ⟨Nat.zero_le _, Keep.refl _ _, n1, hb2, hRR⟩ ?_
    rintro i wr ⟨hi, hkr, x, hbx, hx⟩
    have hgr2 : VBlk 25 wr g (six v sn (.slice sp v.kids.length cap)) := hg2.keep hkr ⟨hgw, hne⟩
    have hkw : Keep (fun b => b < w.heap.size ∧ b ≠ pb) w wr := hk2.trans (hkr.mono fun b hb => ⟨Nat.lt_of_lt_of_le hb.1 hk2.size, hb.2⟩)
    have hlast : ∀ {wz : World} {xz : Nat}, VBlk 3 wz pb [.int .i64 xz] → Keep (fun b => b < w.heap.size ∧ b ≠ pb) w wz → xz = RR → (Ending.returned (.bool (decide ((65536 : Int) < (xz : Int)))) = .returned (.bool (decide (65536 < RR))) ∧ VBlk 3 wz pb [.int .i64 (RR)] ∧ Keep (fun b => b < w.heap.size ∧ b ≠ pb) w wz) :=
      fun h1 h2 h3 => ⟨by rw [← h3]; congr 2; simp only [decide_eq_decide]; omega, by rw [← h3]; exact h1, h2⟩
    repeat (first | ((with_reducible refine WL.topT ?_ ?_); omega) | ((with_reducible refine WL.topF ?_ ?_); omega) | ((with_reducible refine WL.top64 ?_ ?_); omega) | refine WC.seq ?_ | refine WC.block ?_ | refine WC.region ?_ | refine WL.nil ?_ | refine WC.skip ?_ | refine WC.exit ?_ | refine WC.ret ?_ | refine WQ.then rfl ?_ | refine WQ.thenExit ?_ | refine WQ.thenRet ?_ | refine WQ.blk ?_ | refine WQ.blkRet ?_ | refine WQ.blkHere rfl ?_ | refine WQ.blkOther rfl ?_ | refine WL.pure rfl rfl rfl rfl ?_ | refine WL.on rfl rfl ?_ | refine WL.off rfl rfl rfl ?_ | refine WC.condTrue rfl ?_ | refine WC.condFalse rfl ?_)
    refine WL.load rfl rfl rfl rfl rfl rfl (hgr2.cell 5 (by simp)) ?_
    by_cases hik : i < v.kids.length
    · have hdr : v.kids.drop i = v.kids.getD i noV :: v.kids.drop (i + 1) := by
        rw [List.drop_eq_getElem_cons hik]
        simp [hik]
      rw [hdr] at hx
      repeat (first | ((with_reducible refine WL.topT ?_ ?_); omega) | ((with_reducible refine WL.topF ?_ ?_); omega) | ((with_reducible refine WL.top64 ?_ ?_); omega) | refine WC.seq ?_ | refine WC.block ?_ | refine WC.region ?_ | refine WL.nil ?_ | refine WC.skip ?_ | refine WC.exit ?_ | refine WC.ret ?_ | refine WQ.then rfl ?_ | refine WQ.thenExit ?_ | refine WQ.thenRet ?_ | refine WQ.blk ?_ | refine WQ.blkRet ?_ | refine WQ.blkHere rfl ?_ | refine WQ.blkOther rfl ?_ | refine WL.pure rfl rfl rfl rfl ?_ | refine WL.on rfl rfl ?_ | refine WL.off rfl rfl rfl ?_ | refine WC.condTrue rfl ?_ | refine WC.condFalse rfl ?_)
      refine WL.load rfl rfl rfl rfl rfl rfl (hbx.cell 0 (by simp)) ?_
      by_cases hx2 : x ≤ 65536
      · obtain ⟨kb, ko, rfl, hkb, hcells⟩ := hrow (by omega)
        obtain ⟨c, hc6, hci, hcr⟩ := hcells i hik
        have hbelr : Below w0.heap.size w0 wr := (hbel.trans ((hkw.mono fun b hb => ⟨Nat.lt_of_lt_of_le hb hbel.size, Nat.ne_of_lt (Nat.lt_of_lt_of_le hb hpb)⟩ : Keep (fun b => b < w0.heap.size) w wr).below))
        have hcr' : wr.rangeAt kb (ko + i * 6) c := fun j u hu => by rw [hbelr.cell (p := ⟨kb, ko + i * 6 + j, none⟩) hkb]; exact hcr j u hu
        unfold prtK at hx
        rw [if_pos hx2] at hx
        repeat (first | ((with_reducible refine WL.topT ?_ ?_); omega) | ((with_reducible refine WL.topF ?_ ?_); omega) | ((with_reducible refine WL.top64 ?_ ?_); omega) | refine WC.seq ?_ | refine WC.block ?_ | refine WC.region ?_ | refine WL.nil ?_ | refine WC.skip ?_ | refine WC.exit ?_ | refine WC.ret ?_ | refine WQ.then rfl ?_ | refine WQ.thenExit ?_ | refine WQ.thenRet ?_ | refine WQ.blk ?_ | refine WQ.blkRet ?_ | refine WQ.blkHere rfl ?_ | refine WQ.blkOther rfl ?_ | refine WL.pure rfl rfl rfl rfl ?_ | refine WL.on rfl rfl ?_ | refine WL.off rfl rfl rfl ?_ | refine WC.condTrue rfl ?_ | refine WC.condFalse rfl ?_)
        refine WL.load rfl rfl rfl rfl rfl rfl (hgr2.cell 5 (by simp)) ?_
        repeat (first | ((with_reducible refine WL.topT ?_ ?_); omega) | ((with_reducible refine WL.topF ?_ ?_); omega) | ((with_reducible refine WL.top64 ?_ ?_); omega) | refine WC.seq ?_ | refine WC.block ?_ | refine WC.region ?_ | refine WL.nil ?_ | refine WC.skip ?_ | refine WC.exit ?_ | refine WC.ret ?_ | refine WQ.then rfl ?_ | refine WQ.thenExit ?_ | refine WQ.thenRet ?_ | refine WQ.blk ?_ | refine WQ.blkRet ?_ | refine WQ.blkHere rfl ?_ | refine WQ.blkOther rfl ?_ | refine WL.pure rfl rfl rfl rfl ?_ | refine WL.on rfl rfl ?_ | refine WL.off rfl rfl rfl ?_ | refine WC.condTrue rfl ?_ | refine WC.condFalse rfl ?_)
        refine WL.idx i (ko + i * 6) rfl rfl rfl rfl rfl rfl rfl rfl hik rfl ?_
        refine WL.loadMid rfl rfl rfl rfl rfl rfl hcr' hc6 ?_
        repeat (first | ((with_reducible refine WL.topT ?_ ?_); omega) | ((with_reducible refine WL.topF ?_ ?_); omega) | ((with_reducible refine WL.top64 ?_ ?_); omega) | refine WC.seq ?_ | refine WC.block ?_ | refine WC.region ?_ | refine WL.nil ?_ | refine WC.skip ?_ | refine WC.exit ?_ | refine WC.ret ?_ | refine WQ.then rfl ?_ | refine WQ.thenExit ?_ | refine WQ.thenRet ?_ | refine WQ.blk ?_ | refine WQ.blkRet ?_ | refine WQ.blkHere rfl ?_ | refine WQ.blkOther rfl ?_ | refine WL.pure rfl rfl rfl rfl ?_ | refine WL.on rfl rfl ?_ | refine WL.off rfl rfl rfl ?_ | refine WC.condTrue rfl ?_ | refine WC.condFalse rfl ?_)
        refine WL.call rfl rfl rfl rfl rfl Try.func22 rfl (by kernel_rfl) (ih (n := x) hci hbelr hpb hbx (by omega)) ?_
        rintro e w4 ⟨rfl, hb4, hk4⟩
        refine ⟨_, rfl, ?_⟩
        repeat (first | ((with_reducible refine WL.topT ?_ ?_); omega) | ((with_reducible refine WL.topF ?_ ?_); omega) | ((with_reducible refine WL.top64 ?_ ?_); omega) | refine WC.seq ?_ | refine WC.block ?_ | refine WC.region ?_ | refine WL.nil ?_ | refine WC.skip ?_ | refine WC.exit ?_ | refine WC.ret ?_ | refine WQ.then rfl ?_ | refine WQ.thenExit ?_ | refine WQ.thenRet ?_ | refine WQ.blk ?_ | refine WQ.blkRet ?_ | refine WQ.blkHere rfl ?_ | refine WQ.blkOther rfl ?_ | refine WL.pure rfl rfl rfl rfl ?_ | refine WL.on rfl rfl ?_ | refine WL.off rfl rfl rfl ?_ | refine WC.condTrue rfl ?_ | refine WC.condFalse rfl ?_)
        exact WQ.again (i + 1) ⟨rfl, rfl, rfl, trivial⟩ ⟨hik, hkr.trans (hk4.mono fun b hb => ⟨Nat.lt_of_lt_of_le hb.1 hkr.size, hb.2⟩), _, hb4, hx⟩ (by show v.kids.length - (i + 1) < v.kids.length - i; omega)
      · unfold prtK at hx
        rw [if_neg hx2] at hx
        repeat (first | ((with_reducible refine WL.topT ?_ ?_); omega) | ((with_reducible refine WL.topF ?_ ?_); omega) | ((with_reducible refine WL.top64 ?_ ?_); omega) | refine WC.seq ?_ | refine WC.block ?_ | refine WC.region ?_ | refine WL.nil ?_ | refine WC.skip ?_ | refine WC.exit ?_ | refine WC.ret ?_ | refine WQ.then rfl ?_ | refine WQ.thenExit ?_ | refine WQ.thenRet ?_ | refine WQ.blk ?_ | refine WQ.blkRet ?_ | refine WQ.blkHere rfl ?_ | refine WQ.blkOther rfl ?_ | refine WL.pure rfl rfl rfl rfl ?_ | refine WL.on rfl rfl ?_ | refine WL.off rfl rfl rfl ?_ | refine WC.condTrue rfl ?_ | refine WC.condFalse rfl ?_)
        refine WL.load rfl rfl rfl rfl rfl rfl (hbx.cell 0 (by simp)) ?_
        refine WL.pure rfl rfl rfl rfl ?_
        refine WL.pure rfl rfl rfl rfl ?_
        repeat (first | ((with_reducible refine WL.topT ?_ ?_); omega) | ((with_reducible refine WL.topF ?_ ?_); omega) | ((with_reducible refine WL.top64 ?_ ?_); omega) | refine WC.seq ?_ | refine WC.block ?_ | refine WC.region ?_ | refine WL.nil ?_ | refine WC.skip ?_ | refine WC.exit ?_ | refine WC.ret ?_ | refine WQ.then rfl ?_ | refine WQ.thenExit ?_ | refine WQ.thenRet ?_ | refine WQ.blk ?_ | refine WQ.blkRet ?_ | refine WQ.blkHere rfl ?_ | refine WQ.blkOther rfl ?_ | refine WL.pure rfl rfl rfl rfl ?_ | refine WL.on rfl rfl ?_ | refine WL.off rfl rfl rfl ?_ | refine WC.condTrue rfl ?_ | refine WC.condFalse rfl ?_)
        exact WQ.ret1 rfl rfl ⟨congrArg (fun b => Ending.returned (Value.bool b)) (decide_eq_true (by omega)).symm, (hlast hbx hkw hx).2⟩
    · obtain rfl : i = v.kids.length := by omega
      rw [List.drop_length] at hx
      unfold prtK at hx
      repeat (first | ((with_reducible refine WL.topT ?_ ?_); omega) | ((with_reducible refine WL.topF ?_ ?_); omega) | ((with_reducible refine WL.top64 ?_ ?_); omega) | refine WC.seq ?_ | refine WC.block ?_ | refine WC.region ?_ | refine WL.nil ?_ | refine WC.skip ?_ | refine WC.exit ?_ | refine WC.ret ?_ | refine WQ.then rfl ?_ | refine WQ.thenExit ?_ | refine WQ.thenRet ?_ | refine WQ.blk ?_ | refine WQ.blkRet ?_ | refine WQ.blkHere rfl ?_ | refine WQ.blkOther rfl ?_ | refine WL.pure rfl rfl rfl rfl ?_ | refine WL.on rfl rfl ?_ | refine WL.off rfl rfl rfl ?_ | refine WC.condTrue rfl ?_ | refine WC.condFalse rfl ?_)
      refine WL.load rfl rfl rfl rfl rfl rfl (hbx.cell 0 (by simp)) ?_
      refine WL.pure rfl rfl rfl rfl ?_
      refine WL.pure rfl rfl rfl rfl ?_
      repeat (first | ((with_reducible refine WL.topT ?_ ?_); omega) | ((with_reducible refine WL.topF ?_ ?_); omega) | ((with_reducible refine WL.top64 ?_ ?_); omega) | refine WC.seq ?_ | refine WC.block ?_ | refine WC.region ?_ | refine WL.nil ?_ | refine WC.skip ?_ | refine WC.exit ?_ | refine WC.ret ?_ | refine WQ.then rfl ?_ | refine WQ.thenExit ?_ | refine WQ.thenRet ?_ | refine WQ.blk ?_ | refine WQ.blkRet ?_ | refine WQ.blkHere rfl ?_ | refine WQ.blkOther rfl ?_ | refine WL.pure rfl rfl rfl rfl ?_ | refine WL.on rfl rfl ?_ | refine WL.off rfl rfl rfl ?_ | refine WC.condTrue rfl ?_ | refine WC.condFalse rfl ?_)
      exact WQ.ret1 rfl rfl (hlast hbx hkw hx)

theorem rencode_any {f : Nat} {w : World} {v : V} {cs : List Value} (h : IsV f w v cs) (hlen : chk 16 v = 0 → (encV 16 v).length ≤ 70368744177664) :
    Calls Try.prog 15 #[.agg cs.toArray] w (EncPost w v) := by
  have hcs := h.len
  refine enter (args := [.agg cs.toArray]) Try.func15 rfl Try.ntmps15 rfl ?_
  repeat (first | ((with_reducible refine WL.topT ?_ ?_); omega) | ((with_reducible refine WL.topF ?_ ?_); omega) | ((with_reducible refine WL.top64 ?_ ?_); omega) | refine WC.seq ?_ | refine WC.block ?_ | refine WC.region ?_ | refine WL.nil ?_ | refine WC.skip ?_ | refine WC.exit ?_ | refine WC.ret ?_ | refine WQ.then rfl ?_ | refine WQ.thenExit ?_ | refine WQ.thenRet ?_ | refine WQ.blk ?_ | refine WQ.blkRet ?_ | refine WQ.blkHere rfl ?_ | refine WQ.blkOther rfl ?_ | refine WL.pure rfl rfl rfl rfl ?_ | refine WL.on rfl rfl ?_ | refine WL.off rfl rfl rfl ?_ | refine WC.condTrue rfl ?_ | refine WC.condFalse rfl ?_)
  refine WL.box rfl rfl rfl rfl rfl fun g w1 hf => ?_
  have hf' : Fresh w g w1 25 cs := hf
  clear hf
  have hz1 := hf'.size
  have h1 := h.below hf'.below
  repeat (first | ((with_reducible refine WL.topT ?_ ?_); omega) | ((with_reducible refine WL.topF ?_ ?_); omega) | ((with_reducible refine WL.top64 ?_ ?_); omega) | refine WC.seq ?_ | refine WC.block ?_ | refine WC.region ?_ | refine WL.nil ?_ | refine WC.skip ?_ | refine WC.exit ?_ | refine WC.ret ?_ | refine WQ.then rfl ?_ | refine WQ.thenExit ?_ | refine WQ.thenRet ?_ | refine WQ.blk ?_ | refine WQ.blkRet ?_ | refine WQ.blkHere rfl ?_ | refine WQ.blkOther rfl ?_ | refine WL.pure rfl rfl rfl rfl ?_ | refine WL.on rfl rfl ?_ | refine WL.off rfl rfl rfl ?_ | refine WC.condTrue rfl ?_ | refine WC.condFalse rfl ?_)
  refine WL.loadMid rfl rfl rfl rfl rfl rfl (VBlk.rangeAt hf'.blk) hcs ?_
  refine WL.call rfl rfl rfl rfl rfl Try.func21 rfl (by kernel_rfl) (rCheck_any h1) ?_
  rintro _ w2 ⟨rfl, hb2⟩
  refine ⟨_, rfl, ?_⟩
  have hw2 : Below w.heap.size w w2 := hf'.below.trans (hb2.mono (by omega))
  have hblk2 := hf'.blk.below hb2 hf'.blk.lt
  by_cases hc : chk 16 v = 0
  · repeat (first | ((with_reducible refine WL.topT ?_ ?_); omega) | ((with_reducible refine WL.topF ?_ ?_); omega) | ((with_reducible refine WL.top64 ?_ ?_); omega) | refine WC.seq ?_ | refine WC.block ?_ | refine WC.region ?_ | refine WL.nil ?_ | refine WC.skip ?_ | refine WC.exit ?_ | refine WC.ret ?_ | refine WQ.then rfl ?_ | refine WQ.thenExit ?_ | refine WQ.thenRet ?_ | refine WQ.blk ?_ | refine WQ.blkRet ?_ | refine WQ.blkHere rfl ?_ | refine WQ.blkOther rfl ?_ | refine WL.pure rfl rfl rfl rfl ?_ | refine WL.on rfl rfl ?_ | refine WL.off rfl rfl rfl ?_ | refine WC.condTrue rfl ?_ | refine WC.condFalse rfl ?_)
    refine WL.alloc (z := .int .i64 0) rfl rfl rfl rfl (fun _ => by kernel_rfl) fun pb w3 hf3 => ?_
    have hf3' : Fresh w2 pb w3 3 [.int .i64 0] := hf3
    clear hf3
    have hb3 := hf3'.blk
    have hpb := hf3'.eq
    have hblk3 := hblk2.below hf3'.below hblk2.lt
    have hgp : g ≠ pb := by have := hblk2.lt; omega
    repeat (first | ((with_reducible refine WL.topT ?_ ?_); omega) | ((with_reducible refine WL.topF ?_ ?_); omega) | ((with_reducible refine WL.top64 ?_ ?_); omega) | refine WC.seq ?_ | refine WC.block ?_ | refine WC.region ?_ | refine WL.nil ?_ | refine WC.skip ?_ | refine WC.exit ?_ | refine WC.ret ?_ | refine WQ.then rfl ?_ | refine WQ.thenExit ?_ | refine WQ.thenRet ?_ | refine WQ.blk ?_ | refine WQ.blkRet ?_ | refine WQ.blkHere rfl ?_ | refine WQ.blkOther rfl ?_ | refine WL.pure rfl rfl rfl rfl ?_ | refine WL.on rfl rfl ?_ | refine WL.off rfl rfl rfl ?_ | refine WC.condTrue rfl ?_ | refine WC.condFalse rfl ?_)
    refine WL.store (v := .int .i64 0) rfl rfl rfl rfl rfl rfl (by kernel_rfl) (hb3.cell 0 (by simp)) (hb3.free 0) ?_
    have hb4 := hb3.set 0 (.int .i64 0)
    have hblk4 : VBlk 25 (w3.setCell ⟨pb, 0, none⟩ (.int .i64 0)) g cs := hblk3.other _ _ hgp
    have hk4 : Below w2.heap.size w2 (w3.setCell ⟨pb, 0, none⟩ (.int .i64 0)) := Keep.below ((Keep.of_below hf3'.below).setCell (fun hk => by simp only at hk; omega) _)
    generalize w3.setCell ⟨pb, 0, none⟩ (.int .i64 0) = w4 at hb4 hblk4 hk4
    simp only [List.set_cons_zero] at hb4
    have hw4 : Below w.heap.size w w4 := hw2.trans (hk4.mono hw2.size)
    have hpw : w.heap.size ≤ pb := by have := hw2.size; omega
    clear hf3'
    repeat (first | ((with_reducible refine WL.topT ?_ ?_); omega) | ((with_reducible refine WL.topF ?_ ?_); omega) | ((with_reducible refine WL.top64 ?_ ?_); omega) | refine WC.seq ?_ | refine WC.block ?_ | refine WC.region ?_ | refine WL.nil ?_ | refine WC.skip ?_ | refine WC.exit ?_ | refine WC.ret ?_ | refine WQ.then rfl ?_ | refine WQ.thenExit ?_ | refine WQ.thenRet ?_ | refine WQ.blk ?_ | refine WQ.blkRet ?_ | refine WQ.blkHere rfl ?_ | refine WQ.blkOther rfl ?_ | refine WL.pure rfl rfl rfl rfl ?_ | refine WL.on rfl rfl ?_ | refine WL.off rfl rfl rfl ?_ | refine WC.condTrue rfl ?_ | refine WC.condFalse rfl ?_)
    refine WL.loadMid rfl rfl rfl rfl rfl rfl (VBlk.rangeAt hblk4) hcs ?_
    refine WL.call rfl rfl rfl rfl rfl Try.func22 rfl (by kernel_rfl) (parts_any (n := 0) f h hw4 hpw hb4 (by omega)) ?_
    rintro _ w5 ⟨rfl, hb5, hk5⟩
    refine ⟨_, rfl, ?_⟩
    have hw5 : Below w.heap.size w w5 := hw4.trans (Keep.below (Keep.mono hk5 fun b (hb : b < w.heap.size) => ⟨Nat.lt_of_lt_of_le hb hw4.size, by omega⟩))
    have hblk5 := hblk4.keep hk5 ⟨hblk4.lt, hgp⟩
    have hpe := prt_enc f 16 v 0 hc
    by_cases hp : 65536 < prt f v 0
    · have hr : encR v = ([], 5) := by unfold encR; rw [if_neg (by simpa using hc), if_pos (by omega)]
      repeat (first | ((with_reducible refine WL.topT ?_ ?_); omega) | ((with_reducible refine WL.topF ?_ ?_); omega) | ((with_reducible refine WL.top64 ?_ ?_); omega) | refine WC.seq ?_ | refine WC.block ?_ | refine WC.region ?_ | refine WL.nil ?_ | refine WC.skip ?_ | refine WC.exit ?_ | refine WC.ret ?_ | refine WQ.then rfl ?_ | refine WQ.thenExit ?_ | refine WQ.thenRet ?_ | refine WQ.blk ?_ | refine WQ.blkRet ?_ | refine WQ.blkHere rfl ?_ | refine WQ.blkOther rfl ?_ | refine WL.pure rfl rfl rfl rfl ?_ | refine WL.on rfl rfl ?_ | refine WL.off rfl rfl rfl ?_ | refine WC.condTrue rfl ?_ | refine WC.condFalse rfl ?_)
      exact WQ.ret2 rfl rfl rfl ⟨_, by rw [hr], by rw [hr]; exact Bu.nil _, hw5, fun g hg => by cases hg⟩
    repeat (first | ((with_reducible refine WL.topT ?_ ?_); omega) | ((with_reducible refine WL.topF ?_ ?_); omega) | ((with_reducible refine WL.top64 ?_ ?_); omega) | refine WC.seq ?_ | refine WC.block ?_ | refine WC.region ?_ | refine WL.nil ?_ | refine WC.skip ?_ | refine WC.exit ?_ | refine WC.ret ?_ | refine WQ.then rfl ?_ | refine WQ.thenExit ?_ | refine WQ.thenRet ?_ | refine WQ.blk ?_ | refine WQ.blkRet ?_ | refine WQ.blkHere rfl ?_ | refine WQ.blkOther rfl ?_ | refine WL.pure rfl rfl rfl rfl ?_ | refine WL.on rfl rfl ?_ | refine WL.off rfl rfl rfl ?_ | refine WC.condTrue rfl ?_ | refine WC.condFalse rfl ?_)
    refine WL.loadMid rfl rfl rfl rfl rfl rfl (VBlk.rangeAt hblk5) hcs ?_
    refine WL.call rfl rfl rfl rfl rfl Try.func23 rfl (by kernel_rfl) (rbytes_all 16 (h.below hw5) hc (Bu.nil w5) ⟨Below.refl _ _, fun g hg => by cases hg⟩ (by have := hlen hc; simp only [List.length_nil]; omega)) ?_
    rintro _ w6 ⟨b, rfl, hb, hg⟩
    refine ⟨_, rfl, ?_⟩
    rw [List.nil_append] at hb
    obtain ⟨sp, cap, rfl, hl1, hl2⟩ := hb.form
    have hw6 : Below w.heap.size w w6 := hw5.trans (hg.old (B := w.heap.size) (hw5.size) fun g h => by cases h)
    by_cases hbig : 65536 < (encV 16 v).length
    · have hr : encR v = ([], 5) := by unfold encR; rw [if_neg (by simpa using hc), if_pos hbig]
      repeat (first | ((with_reducible refine WL.topT ?_ ?_); omega) | ((with_reducible refine WL.topF ?_ ?_); omega) | ((with_reducible refine WL.top64 ?_ ?_); omega) | refine WC.seq ?_ | refine WC.block ?_ | refine WC.region ?_ | refine WL.nil ?_ | refine WC.skip ?_ | refine WC.exit ?_ | refine WC.ret ?_ | refine WQ.then rfl ?_ | refine WQ.thenExit ?_ | refine WQ.thenRet ?_ | refine WQ.blk ?_ | refine WQ.blkRet ?_ | refine WQ.blkHere rfl ?_ | refine WQ.blkOther rfl ?_ | refine WL.pure rfl rfl rfl rfl ?_ | refine WL.on rfl rfl ?_ | refine WL.off rfl rfl rfl ?_ | refine WC.condTrue rfl ?_ | refine WC.condFalse rfl ?_)
      exact WQ.ret2 rfl rfl rfl ⟨_, by rw [hr], by rw [hr]; exact Bu.nil _, hw6, fun g hg => by cases hg⟩
    · have hr : encR v = (encV 16 v, 0) := by unfold encR; rw [if_neg (by simpa using hc), if_neg hbig]
      repeat (first | ((with_reducible refine WL.topT ?_ ?_); omega) | ((with_reducible refine WL.topF ?_ ?_); omega) | ((with_reducible refine WL.top64 ?_ ?_); omega) | refine WC.seq ?_ | refine WC.block ?_ | refine WC.region ?_ | refine WL.nil ?_ | refine WC.skip ?_ | refine WC.exit ?_ | refine WC.ret ?_ | refine WQ.then rfl ?_ | refine WQ.thenExit ?_ | refine WQ.thenRet ?_ | refine WQ.blk ?_ | refine WQ.blkRet ?_ | refine WQ.blkHere rfl ?_ | refine WQ.blkOther rfl ?_ | refine WL.pure rfl rfl rfl rfl ?_ | refine WL.on rfl rfl ?_ | refine WL.off rfl rfl rfl ?_ | refine WC.condTrue rfl ?_ | refine WC.condFalse rfl ?_)
      exact WQ.ret2 rfl rfl rfl ⟨_, by rw [hr], by rw [hr]; exact hb, hw6, fun g h => (hg.2 g h).elim (fun h2 => by cases h2) fun h2 => by have := hw5.size; omega⟩
  · have hr : encR v = ([], chk 16 v) := by unfold encR; rw [if_pos hc]
    repeat (first | ((with_reducible refine WL.topT ?_ ?_); omega) | ((with_reducible refine WL.topF ?_ ?_); omega) | ((with_reducible refine WL.top64 ?_ ?_); omega) | refine WC.seq ?_ | refine WC.block ?_ | refine WC.region ?_ | refine WL.nil ?_ | refine WC.skip ?_ | refine WC.exit ?_ | refine WC.ret ?_ | refine WQ.then rfl ?_ | refine WQ.thenExit ?_ | refine WQ.thenRet ?_ | refine WQ.blk ?_ | refine WQ.blkRet ?_ | refine WQ.blkHere rfl ?_ | refine WQ.blkOther rfl ?_ | refine WL.pure rfl rfl rfl rfl ?_ | refine WL.on rfl rfl ?_ | refine WL.off rfl rfl rfl ?_ | refine WC.condTrue rfl ?_ | refine WC.condFalse rfl ?_)
    exact WQ.ret2 rfl rfl rfl ⟨_, by rw [hr], by rw [hr]; exact Bu.nil _, hw2, fun g hg => by cases hg⟩
end K
end Go.Proofs.Ytnboloilljlfiaa

/- The words of the digest: a word turned, a word out of four bytes; in the program and in the reference. -/
namespace Go.Proofs.Ytnboloilljlfiaa
open Go.RowKit
namespace Dig

/-- x turned n digits to the right, as the model reckons it. -/
def rotr (x n : Int) : Int := bits .or .u32 (x / 2 ^ n.toNat) (x * 2 ^ (32 - n).toNat % 4294967296)
/-- The word of four bytes. -/
def word (a b c d : Int) : Int :=
  bits .or .u32 (bits .or .u32 (bits .or .u32 (a % 4294967296 * 16777216 % 4294967296) (b % 4294967296 * 65536 % 4294967296)) (c % 4294967296 * 256 % 4294967296)) (d % 4294967296)

set_option maxHeartbeats 400000 in
theorem turn_any (x n : Int) (w : World) (hn : 0 ≤ n) (hn2 : n ≤ 32) :
    Calls Try.prog 51 #[.int .u32 x, .int .u64 n] w fun e w' => e = .returned (.int .u32 (rotr x n)) ∧ w = w' := by
  go_enter Try.func51, Try.ntmps51
  go_wp2
  go_ret
  exact ⟨rfl, rfl⟩

set_option maxHeartbeats 400000 in
theorem word_any (b o len cap : Nat) (x0 x1 x2 x3 : Int) (w : World) (hl : 4 ≤ len)
   (h0 : w.cell? ⟨b, o, none⟩ = some (.int .u8 x0)) (h1 : w.cell? ⟨b, o + 1, none⟩ = some (.int .u8 x1))
   (h2 : w.cell? ⟨b, o + 2, none⟩ = some (.int .u8 x2)) (h3 : w.cell? ⟨b, o + 3, none⟩ = some (.int .u8 x3)) :
    Calls Try.prog 50 #[.slice (some ⟨b, o, none⟩) len cap] w fun e w' => e = .returned (.int .u32 (word x0 x1 x2 x3)) ∧ Drawn w w' := by
  have a0 : (0 : Int) < len := by omega
  have a1 : (1 : Int) < len := by omega
  have a2 : (2 : Int) < len := by omega
  have a3 : (3 : Int) < len := by omega
  go_enter Try.func50, Try.ntmps50
  go_wp2
  go_quiet (fail)
  go_wp2
  go_ret
  exact ⟨rfl, Drawn.mk _ _⟩

end Dig
end Go.Proofs.Ytnboloilljlfiaa

/- digest: the program's function that takes a block in. -/
namespace Go.Proofs.Ytnboloilljlfiaa
open Go.RowKit
namespace Dig

/-- The word at byte j. -/
def wordAt (by_ : List Int) (j : Nat) : Int := word (nth by_ j) (nth by_ (j + 1)) (nth by_ (j + 2)) (nth by_ (j + 3))
/-- The first n words of a block laid into sixty-four cells. -/
def load (by_ : List Int) : Nat → List Int
  | 0 => List.replicate 64 0
  | n + 1 => (load by_ n).set n (wordAt by_ (4 * n))
theorem load_length (by_ : List Int) (n : Nat) : (load by_ n).length = 64 := by
  induction n with
  | zero => rfl
  | succ n ih => rw [load, List.length_set, ih]

def sig0 (x : Int) : Int := bits .xor .u32 (bits .xor .u32 (rotr x 7) (rotr x 18)) (x / 8)
def sig1 (x : Int) : Int := bits .xor .u32 (bits .xor .u32 (rotr x 17) (rotr x 19)) (x / 1024)
/-- The further words: n of them behind the sixteen. -/
def sched (l : List Int) : Nat → List Int
  | 0 => l
  | n + 1 => (sched l n).set (16 + n) ((nth (sched l n) n + sig0 (nth (sched l n) (n + 1)) + nth (sched l n) (n + 9) + sig1 (nth (sched l n) (n + 14))) % 4294967296)
theorem sched_length (l : List Int) (n : Nat) : (sched l n).length = l.length := by
  induction n with
  | zero => rfl
  | succ n ih => rw [sched, List.length_set, ih]

theorem eight (l : List Int) (h : l.length = 8) : l = [nth l 0, nth l 1, nth l 2, nth l 3, nth l 4, nth l 5, nth l 6, nth l 7] := by
  match l, h with
  | [a, b, c, d, e, f, g, i], _ => rfl
theorem mk8 (w : World) (l : List Int) (h : l.length = 8) :
    IBlk .u32 76 (w.alloc (.cells #[.int .u32 (nth l 0), .int .u32 (nth l 1), .int .u32 (nth l 2), .int .u32 (nth l 3), .int .u32 (nth l 4), .int .u32 (nth l 5), .int .u32 (nth l 6), .int .u32 (nth l 7)] 76)) w.heap.size l := by
  have := VBlk.mk w (l.map (Value.int .u32)) 76
  match l, h with
  | [a, b, c, d, e, f, g, i], _ => exact this
/-- The round's two sums, and the eight words behind it. -/
def rt (kk W v : List Int) (i : Nat) : Int :=
  nth v 7 + bits .xor .u32 (bits .xor .u32 (rotr (nth v 4) 6) (rotr (nth v 4) 11)) (rotr (nth v 4) 25) +
    bits .xor .u32 (bits .and .u32 (nth v 4) (nth v 5)) (bits .and .u32 (bits .xor .u32 IntKind.u32.max (nth v 4)) (nth v 6)) + nth kk i + nth W i
def ru (v : List Int) : Int :=
  bits .xor .u32 (bits .xor .u32 (rotr (nth v 0) 2) (rotr (nth v 0) 13)) (rotr (nth v 0) 22) +
    bits .xor .u32 (bits .xor .u32 (bits .and .u32 (nth v 0) (nth v 1)) (bits .and .u32 (nth v 0) (nth v 2))) (bits .and .u32 (nth v 1) (nth v 2))
def rnd (kk W v : List Int) (i : Nat) : List Int :=
  [(rt kk W v i + ru v) % 4294967296, nth v 0, nth v 1, nth v 2, (nth v 3 + rt kk W v i) % 4294967296, nth v 4, nth v 5, nth v 6]
def rounds (kk W v : List Int) : Nat → List Int
  | 0 => v
  | n + 1 => rnd kk W (rounds kk W v n) n
theorem rounds_length (kk W v : List Int) (n : Nat) (h : v.length = 8) : (rounds kk W v n).length = 8 := by
  cases n with
  | zero => exact h
  | succ n => rfl
theorem set8 {k : IntKind} {T : TypeId} {w : World} {b : Nat} {l : List Int} (h : IBlk k T w b l) (hl : l.length = 8) (x0 x1 x2 x3 x4 x5 x6 x7 : Int) :
    IBlk k T ((((((((w.setCell ⟨b, 0, none⟩ (.int k x0)).setCell ⟨b, 1, none⟩ (.int k x1)).setCell ⟨b, 2, none⟩ (.int k x2)).setCell ⟨b, 3, none⟩ (.int k x3)).setCell ⟨b, 4, none⟩ (.int k x4)).setCell ⟨b, 5, none⟩ (.int k x5)).setCell ⟨b, 6, none⟩ (.int k x6)).setCell ⟨b, 7, none⟩ (.int k x7)) b [x0, x1, x2, x3, x4, x5, x6, x7] := by
  have := (((((((h.set 0 x0).set 1 x1).set 2 x2).set 3 x3).set 4 x4).set 5 x5).set 6 x6).set 7 x7
  match l, hl with
  | [a, b, c, d, e, f, g, i], _ => exact this
theorem oth8 {K : Nat → Prop} {w w' : World} {b : Nat} (h : Keep K w w') (hK : ¬ K b) (x0 x1 x2 x3 x4 x5 x6 x7 : Value) :
    Keep K w ((((((((w'.setCell ⟨b, 0, none⟩ x0).setCell ⟨b, 1, none⟩ x1).setCell ⟨b, 2, none⟩ x2).setCell ⟨b, 3, none⟩ x3).setCell ⟨b, 4, none⟩ x4).setCell ⟨b, 5, none⟩ x5).setCell ⟨b, 6, none⟩ x6).setCell ⟨b, 7, none⟩ x7) :=
  (((((((h.setCell hK x0).setCell hK x1).setCell hK x2).setCell hK x3).setCell hK x4).setCell hK x5).setCell hK x6).setCell hK x7
/-- The words of the state, each with one added. -/
def addInto (st v : List Int) : Nat → List Int
  | 0 => st
  | n + 1 => (addInto st v n).set n ((nth (addInto st v n) n + nth v n) % 4294967296)
theorem addInto_length (st v : List Int) (n : Nat) : (addInto st v n).length = st.length := by
  induction n with
  | zero => rfl
  | succ n ih => rw [addInto, List.length_set, ih]
/-- What taking a block in makes of the eight words. -/
def compress (kk by_ st : List Int) : List Int := addInto st (rounds kk (sched (load by_ 16) 48) st 64) 8

set_option maxRecDepth 100000 in
set_option maxHeartbeats 1000000 in
theorem take_any (bs bb ob n cap bk : Nat) (st by_ kk : List Int) (T T' : TypeId) (w : World) (hn : 64 ≤ n) (hn2 : n ≤ 9223372036854775807) (hcap : n ≤ cap)
    (hbb : bb < w.heap.size) 
    (hst : IBlk .u32 T w bs st) (hby : Row .u8 w bb ob by_) (hkk : IBlk .u32 T' w bk kk) (hl1 : st.length = 8) (hl2 : 64 ≤ by_.length) (hl3 : kk.length = 64) :
    Calls Try.prog 45 #[.pointer (some ⟨bs, 0, none⟩), .slice (some ⟨bb, ob, none⟩) n cap, .pointer (some ⟨bk, 0, none⟩)] w
      fun e w' => e = .returned (.tuple #[]) ∧ IBlk .u32 T w' bs (compress kk by_ st) ∧ Keep (fun k => k < w.heap.size ∧ k ≠ bs) w w' := by
  have hbs := hst.lt
  have hbk := hkk.lt
  go_enter Try.func45, Try.ntmps45
  go_wp2
  have hW : IBlk .u32 77 (w.alloc (.cells ((List.replicate 64 (0:Int)).map (Value.int .u32)).toArray 77)) w.heap.size (load by_ 0) := VBlk.mk w _ _
  have hB : Below w.heap.size w (w.alloc (.cells ((List.replicate 64 (0:Int)).map (Value.int .u32)).toArray 77)) := (Below.refl _ _).alloc (Nat.le_refl _) _
  simp only [List.replicate, List.map] at hW hB
  generalize w.alloc _ = w1 at hW hB ⊢
  go_loopw [20] (fun c wr => ∃ i : Nat, i ≤ 16 ∧ c = .int .i64 i ∧ IBlk .u32 77 wr w.heap.size (load by_ i) ∧ Below w.heap.size w wr)
    (fun c _ => 16 - (intOf c).toNat)
  case atStart => exact ⟨0, by omega, rfl, hW, hB⟩
  case round =>
    obtain ⟨i, hi, rfl, hWr, hBr⟩ := hrel
    have hlw := load_length by_ i
    by_cases h16 : i < 16
    · have hbyr := hby.below hBr hbb
      have c0 := hWr.cell i (by omega)
      have f0 := hWr.free i
      go_wp2_with (go_at_call 50; refine (word_any bb (ob + 4 * i) _ _ _ _ _ _ _ (by omega) (hbyr.at (4 * i) (by omega)) (hbyr.at' (4 * i + 1) _ (by omega) (by omega)) (hbyr.at' (4 * i + 2) _ (by omega) (by omega)) (hbyr.at' (4 * i + 3) _ (by omega) (by omega))).mono ?_; rintro e w' ⟨rfl, nq, rfl⟩)
      go_roundw
      case rel => exact ⟨i + 1, by omega, by go_num, (hWr.drewN nq).set _ _, (hBr.trans (Keep.below ((Keep.refl _ _).drewN nq))).setCell (Nat.le_refl _) _⟩
      case measure => simp [intOf]; omega
    · have e16 : i = 16 := by omega
      have hWf : IBlk .u32 77 wr w.heap.size (load by_ 16) := by rw [← e16]; exact hWr
      clear e16 hWr
      go_wp2
      go_loopw [8] (fun c wr => ∃ i : Nat, i ≤ 48 ∧ c = .int .i64 (16 + (i : Int)) ∧ IBlk .u32 77 wr w.heap.size (sched (load by_ 16) i) ∧ Below w.heap.size w wr)
        (fun c _ => 64 - (intOf c).toNat)
      case atStart => exact ⟨0, by omega, rfl, hWf, hBr⟩
      case round =>
        clear hWf hBr hlw
        obtain ⟨i, hi2, rfl, hWr, hBr⟩ := hrel
        have hlw := (sched_length (load by_ 16) i).trans (load_length by_ 16)
        by_cases h48 : i < 48
        · have c0 := hWr.cell (16 + i) (by omega)
          have c1 := hWr.cell' (16 + i - 15) (i + 1) (by omega) (by omega)
          have c2 := hWr.cell' (16 + i - 2) (i + 14) (by omega) (by omega)
          have c3 := hWr.cell i (by omega)
          have c4 := hWr.cell' (16 + i - 7) (i + 9) (by omega) (by omega)
          have f0 := hWr.free (16 + i)
          go_wp2_with fail
          go_quiet (fail)
          go_wp2_with (go_at_call 51; refine (turn_any _ _ _ (by omega) (by omega)).mono ?_; rintro e w' ⟨rfl, rfl⟩)
          go_region
          go_wp2
          go_roundw
          case rel =>
            exact ⟨i + 1, by omega, by go_num, (hWr.drewN _).set _ _, ((Keep.of_below hBr).drewN _).below.setCell (Nat.le_refl _) _⟩
          case measure => simp [intOf]; omega
        · have e48 : i = 48 := by omega
          have hWf : IBlk .u32 77 wr w.heap.size (sched (load by_ 16) 48) := by rw [← e48]; exact hWr
          clear e48 hWr hlw
          have hstr : IBlk .u32 T wr bs st := hst.below hBr hbs
          have hkkr : IBlk .u32 T' wr bk kk := hkk.below hBr hbk
          have d0 := hstr.cell 0 (by omega)
          have d1 := hstr.cell 1 (by omega)
          have d2 := hstr.cell 2 (by omega)
          have d3 := hstr.cell 3 (by omega)
          have d4 := hstr.cell 4 (by omega)
          have d5 := hstr.cell 5 (by omega)
          have d6 := hstr.cell 6 (by omega)
          have d7 := hstr.cell 7 (by omega)
          go_wp2
          have hV := mk8 wr st hl1
          have hBz : w.heap.size < wr.heap.size := hWf.lt
          have hB2 : Below w.heap.size w _ := hBr.alloc (Nat.le_of_lt hBz) (.cells #[.int .u32 (nth st 0), .int .u32 (nth st 1), .int .u32 (nth st 2), .int .u32 (nth st 3), .int .u32 (nth st 4), .int .u32 (nth st 5), .int .u32 (nth st 6), .int .u32 (nth st 7)] 76)
          have hW2 := hWf.alloc (.cells #[.int .u32 (nth st 0), .int .u32 (nth st 1), .int .u32 (nth st 2), .int .u32 (nth st 3), .int .u32 (nth st 4), .int .u32 (nth st 5), .int .u32 (nth st 6), .int .u32 (nth st 7)] 76)
          generalize wr.alloc _ = w2 at hV hB2 hW2 ⊢
          clear d0 d1 d2 d3 d4 d5 d6 d7 hWf hBr hstr hkkr
          generalize wr.heap.size = Bv at hV hBz ⊢
          have hlW : (sched (load by_ 16) 48).length = 64 := (sched_length (load by_ 16) 48).trans (load_length by_ 16)
          obtain ⟨W, hWW⟩ : ∃ W, W = sched (load by_ 16) 48 := ⟨_, rfl⟩
          rw [← hWW] at hW2 hlW
          have HW := Lib.hid hWW
          clear hWW
          go_loopw [77] (fun c wr => ∃ i : Nat, i ≤ 64 ∧ c = .int .i64 i ∧ IBlk .u32 77 wr w.heap.size W ∧ IBlk .u32 76 wr Bv (rounds kk W st i) ∧ Below w.heap.size w wr)
            (fun c _ => 64 - (intOf c).toNat)
          case atStart => exact ⟨0, by omega, rfl, hW2, hV, hB2⟩
          case round =>
            clear hW2 hV hB2
            obtain ⟨r, hr, rfl, hWr, hVr, hBr⟩ := hrel
            have hlv := rounds_length kk W st r hl1
            obtain ⟨v, hvv⟩ : ∃ v, v = rounds kk W st r := ⟨_, rfl⟩
            rw [← hvv] at hVr hlv
            have Hv := Lib.hid hvv
            clear hvv
            by_cases hr64 : r < 64
            · have hkkr : IBlk .u32 T' wr bk kk := hkk.below hBr hbk
              have d0 := hVr.cell 0 (by omega)
              have d1 := hVr.cell 1 (by omega)
              have d2 := hVr.cell 2 (by omega)
              have d3 := hVr.cell 3 (by omega)
              have d4 := hVr.cell 4 (by omega)
              have d5 := hVr.cell 5 (by omega)
              have d6 := hVr.cell 6 (by omega)
              have d7 := hVr.cell 7 (by omega)
              have f0 := hVr.free
              have k0 := hkkr.cell r (by omega)
              have w0 := hWr.cell r (by omega)
              go_wp2_with fail
              go_quiet (fail)
              go_wp2_with fail
              go_quiet ((go_at_call 51; exact quiet_add_left (turn_any _ _ _ (by omega) (by omega))))
              go_wp2_with fail
              go_quiet ((go_at_call 51; exact quiet_add_left (turn_any _ _ _ (by omega) (by omega))))
              go_wp2
              go_roundw
              case rel =>
                refine ⟨r + 1, by omega, by go_num, hWr.keep (oth8 ((Keep.refl (fun k => k < Bv) wr).drewN _) (Nat.lt_irrefl _) _ _ _ _ _ _ _ _) hBz, ?_, ?_⟩
                · rw [rounds, ← Hv.out]
                  exact set8 (hVr.drewN _) hlv _ _ _ _ _ _ _ _
                · exact (oth8 ((Keep.of_below hBr).drewN _) (Nat.not_lt.2 (Nat.le_of_lt hBz)) _ _ _ _ _ _ _ _).below
              case measure => simp [intOf]; omega
            · have e64 : r = 64 := by omega
              have hVf : IBlk .u32 76 wr Bv (rounds kk W st 64) := by rw [← e64, ← Hv.out]; exact hVr
              have hstr : IBlk .u32 T wr bs st := hst.below hBr hbs
              have hl8 := rounds_length kk W st 64 hl1
              have hres : compress kk by_ st = addInto st (rounds kk W st 64) 8 := by rw [HW.out]; rfl
              have Hres := Lib.hid hres
              clear hres e64 hVr hWr hlv Hv HW hlW
              obtain ⟨z, hz⟩ : ∃ z, z = rounds kk W st 64 := ⟨_, rfl⟩
              rw [← hz] at hVf hl8
              have Hz := Lib.hid hz
              clear hz
              have hBz2 : Keep (fun k => k < w.heap.size ∧ k ≠ bs) w wr := (Keep.of_below hBr).mono fun _ h => h.1
              go_wp2
              go_loopw [161] (fun c wr => ∃ i : Nat, i ≤ 8 ∧ c = .int .i64 i ∧ IBlk .u32 76 wr Bv z ∧ IBlk .u32 T wr bs (addInto st z i) ∧ Keep (fun k => k < w.heap.size ∧ k ≠ bs) w wr)
                (fun c _ => 8 - (intOf c).toNat)
              case atStart => exact ⟨0, by omega, rfl, hVf, hstr, hBz2⟩
              case round =>
                clear hVf hstr hBz2 hBr
                obtain ⟨q, hq, rfl, hVr, hSr, hKr⟩ := hrel
                have hls := (addInto_length st z q).trans hl1
                by_cases h8 : q < 8
                · have s0 := hSr.cell q (by omega)
                  have v0 := hVr.cell q (by omega)
                  have f0 := hSr.free q
                  go_wp2_with fail
                  go_region
                  go_wp2
                  go_roundw
                  case rel =>
                    refine ⟨q + 1, by omega, by go_num, ?_, ?_, ?_⟩
                    · exact hVr.other _ _ (by show Bv ≠ bs; omega)
                    · exact hSr.set _ _
                    · exact (hKr.setCell (fun h => h.2 rfl) _).drewN 1
                  case measure => simp [intOf]; omega
                · have e8 : q = 8 := by omega
                  have hSf : IBlk .u32 T wr bs (compress kk by_ st) := by rw [Hres.out, ← Hz.out, ← e8]; exact hSr
                  clear e8 hSr hVr Hres Hz hls
                  go_wp2
                  go_end0
                  exact ⟨rfl, hSf, hKr⟩

end Dig
end Go.Proofs.Ytnboloilljlfiaa

/- digest: the rounds' numbers. -/
namespace Go.Proofs.Ytnboloilljlfiaa
open Go.RowKit
namespace Dig

/-- The rounds' numbers. -/
def K : List Int := [
  0x428a2f98, 0x71374491, 0xb5c0fbcf, 0xe9b5dba5, 0x3956c25b, 0x59f111f1, 0x923f82a4, 0xab1c5ed5,
  0xd807aa98, 0x12835b01, 0x243185be, 0x550c7dc3, 0x72be5d74, 0x80deb1fe, 0x9bdc06a7, 0xc19bf174,
  0xe49b69c1, 0xefbe4786, 0x0fc19dc6, 0x240ca1cc, 0x2de92c6f, 0x4a7484aa, 0x5cb0a9dc, 0x76f988da,
  0x983e5152, 0xa831c66d, 0xb00327c8, 0xbf597fc7, 0xc6e00bf3, 0xd5a79147, 0x06ca6351, 0x14292967,
  0x27b70a85, 0x2e1b2138, 0x4d2c6dfc, 0x53380d13, 0x650a7354, 0x766a0abb, 0x81c2c92e, 0x92722c85,
  0xa2bfe8a1, 0xa81a664b, 0xc24b8b70, 0xc76c51a3, 0xd192e819, 0xd6990624, 0xf40e3585, 0x106aa070,
  0x19a4c116, 0x1e376c08, 0x2748774c, 0x34b0bcb5, 0x391c0cb3, 0x4ed8aa4a, 0x5b9cca4f, 0x682e6ff3,
  0x748f82ee, 0x78a5636f, 0x84c87814, 0x8cc70208, 0x90befffa, 0xa4506ceb, 0xbef9a3f7, 0xc67178f2]

set_option maxRecDepth 100000 in
set_option maxHeartbeats 1000000 in
theorem numbers_any (w : World) :
    Calls Try.prog 44 #[] w fun e w' => e = .returned (.agg (K.map (Value.int .u32)).toArray) ∧ Below w.heap.size w w' := by
  go_enter Try.func44, Try.ntmps44
  go_wp2_with (first | (refine wpList_build_to rfl 77 _ rfl (K.map (Value.int .u32)).toArray (by kernel_rfl) ?_) | (refine wpList_store_row rfl 77 _ _ rfl w.heap.size (K.map (Value.int .u32)).toArray rfl rfl 77 _ (heap_alloc_new _ _) (by kernel_rfl) (by kernel_rfl) (by kernel_rfl) ?_))
  refine bodyPost_ret (results_cell_row rfl _ _ w.heap.size 77 (K.map (Value.int .u32)).toArray (0, 0) _ rfl (setRow_heap _ _ _ _ _ _ (heap_alloc_new _ _)) Try.underlying77 rfl (by kernel_rfl)) rfl ⟨rfl, ?_⟩
  exact below_setRow ((Below.refl _ _).alloc (Nat.le_refl _) _) (Nat.le_refl _) _

end Dig
end Go.Proofs.Ytnboloilljlfiaa
