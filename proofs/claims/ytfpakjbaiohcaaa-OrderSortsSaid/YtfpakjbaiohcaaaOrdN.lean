/- Keys (chapter 8): a number's bytes. -/
import Derived.Test.YtfpakjbaiohcaaaOrdC
import Derived.Test.YtfpakjbaiohcaaaOrdNp
import Derived.Laws.Bits64
import Derived.Laws.BitsLemmas
namespace Go.Proofs.Ytfpakjbaiohcaaa
open Go.RowKit
namespace K

theorem wrap_i8 (x : Int) : IntKind.i8.wrap x = (x + 128) % 256 - 128 := by simp [IntKind.wrap, IntKind.bits, IntKind.signed]; omega
theorem flip_u8 (a : Int) (h0 : 0 ≤ a) (h1 : a ≤ 255) : bits .xor .u8 (if IntKind.u8.signed = true then -1 else IntKind.u8.max) a = 255 - a := by
  have h : ∀ x : Fin 256, bits .xor .u8 (if IntKind.u8.signed = true then -1 else IntKind.u8.max) (x.val : Int) = 255 - (x.val : Int) := by decide +kernel
  have := h ⟨a.toNat, by omega⟩
  simpa [Int.toNat_of_nonneg h0] using this

set_option maxHeartbeats 4000000 in
theorem number_any (x s : Int) (w : World) (hx0 : -9223372036854775808 ≤ x) (hx1 : x ≤ 9223372036854775807) (hs0 : 0 ≤ s) (hs1 : s ≤ 18) :
    Calls Try.prog 31 #[.int .i64 x, .int .i64 s] w fun e w' => ∃ b, e = .returned b ∧ Bu w' b (numB x s) ∧ Below w.heap.size w w' ∧ ∀ g, b.ownBlock = some g → w.heap.size ≤ g := by
  refine enter (args := [.int .i64 x, .int .i64 s]) Try.func31 rfl Try.ntmps31 rfl ?_
  by_cases h0 : x = 0
  · subst h0
    repeat (first | ((with_reducible refine WL.topT ?_ ?_); omega) | ((with_reducible refine WL.topF ?_ ?_); omega) | ((with_reducible refine WL.top64 ?_ ?_); omega) | refine WC.seq ?_ | refine WC.block ?_ | refine WC.region ?_ | refine WL.nil ?_ | refine WC.skip ?_ | refine WC.exit ?_ | refine WC.ret ?_ | refine WQ.then rfl ?_ | refine WQ.thenExit ?_ | refine WQ.thenRet ?_ | refine WQ.blk ?_ | refine WQ.blkRet ?_ | refine WQ.blkHere rfl ?_ | refine WQ.blkOther rfl ?_ | refine WL.pure rfl rfl rfl rfl ?_ | refine WL.on rfl rfl ?_ | refine WL.off rfl rfl rfl ?_ | refine WC.condTrue rfl ?_ | refine WC.condFalse rfl ?_)
    refine WL.lit rfl rfl rfl rfl rfl rfl rfl fun b w' hb h1 h2 => ?_
    repeat (first | ((with_reducible refine WL.topT ?_ ?_); omega) | ((with_reducible refine WL.topF ?_ ?_); omega) | ((with_reducible refine WL.top64 ?_ ?_); omega) | refine WC.seq ?_ | refine WC.block ?_ | refine WC.region ?_ | refine WL.nil ?_ | refine WC.skip ?_ | refine WC.exit ?_ | refine WC.ret ?_ | refine WQ.then rfl ?_ | refine WQ.thenExit ?_ | refine WQ.thenRet ?_ | refine WQ.blk ?_ | refine WQ.blkRet ?_ | refine WQ.blkHere rfl ?_ | refine WQ.blkOther rfl ?_ | refine WL.pure rfl rfl rfl rfl ?_ | refine WL.on rfl rfl ?_ | refine WL.off rfl rfl rfl ?_ | refine WC.condTrue rfl ?_ | refine WC.condFalse rfl ?_)
    exact WQ.ret1 rfl rfl ⟨b, rfl, hb, h1, h2⟩
  · have h0x := h0
    have hu : x.natAbs ≤ 9223372036854775808 := by omega
    obtain ⟨u, hue⟩ : ∃ u, x.natAbs = u := ⟨_, rfl⟩
    rw [hue] at hu
    have hu0 : ¬ u = 0 := by omega
    have e1 : x < 0 → IntKind.u64.wrap (0 - IntKind.u64.wrap x) = (u : Int) := fun h => by rw [IntKind.wrap_u64, IntKind.wrap_u64]; omega
    have e2 : ¬ x < 0 → IntKind.u64.wrap x = (u : Int) := fun h => by rw [IntKind.wrap_u64]; omega
    repeat (first | ((with_reducible refine WL.topT ?_ ?_); omega) | ((with_reducible refine WL.topF ?_ ?_); omega) | ((with_reducible refine WL.top64 ?_ ?_); omega) | refine WC.seq ?_ | refine WC.block ?_ | refine WC.region ?_ | refine WL.nil ?_ | refine WC.skip ?_ | refine WC.exit ?_ | refine WC.ret ?_ | refine WQ.then rfl ?_ | refine WQ.thenExit ?_ | refine WQ.thenRet ?_ | refine WQ.blk ?_ | refine WQ.blkRet ?_ | refine WQ.blkHere rfl ?_ | refine WQ.blkOther rfl ?_ | refine WL.pure rfl rfl rfl rfl ?_ | refine WL.on rfl rfl ?_ | refine WL.off rfl rfl rfl ?_ | refine WC.condTrue rfl ?_ | refine WC.condFalse rfl ?_)
    refine WC.mid (fun _ : Unit => [(0, .int .i64 x), (1, .int .i64 s), (5, .int .u64 u)]) (fun _ w' => w = w') rfl ?_ ?_
    · by_cases hn : x < 0
      · refine WC.condT rfl hn ?_
        repeat (first | ((with_reducible refine WL.topT ?_ ?_); omega) | ((with_reducible refine WL.topF ?_ ?_); omega) | ((with_reducible refine WL.top64 ?_ ?_); omega) | refine WC.seq ?_ | refine WC.block ?_ | refine WC.region ?_ | refine WL.nil ?_ | refine WC.skip ?_ | refine WC.exit ?_ | refine WC.ret ?_ | refine WQ.then rfl ?_ | refine WQ.thenExit ?_ | refine WQ.thenRet ?_ | refine WQ.blk ?_ | refine WQ.blkRet ?_ | refine WQ.blkHere rfl ?_ | refine WQ.blkOther rfl ?_ | refine WL.pure rfl rfl rfl rfl ?_ | refine WL.on rfl rfl ?_ | refine WL.off rfl rfl rfl ?_ | refine WC.condTrue rfl ?_ | refine WC.condFalse rfl ?_)
        exact WQ.meet () ⟨rfl, rfl, congrArg (fun z => some (Value.int .u64 z)) (e1 hn), trivial⟩ rfl
      · refine WC.condF rfl hn ?_
        repeat (first | ((with_reducible refine WL.topT ?_ ?_); omega) | ((with_reducible refine WL.topF ?_ ?_); omega) | ((with_reducible refine WL.top64 ?_ ?_); omega) | refine WC.seq ?_ | refine WC.block ?_ | refine WC.region ?_ | refine WL.nil ?_ | refine WC.skip ?_ | refine WC.exit ?_ | refine WC.ret ?_ | refine WQ.then rfl ?_ | refine WQ.thenExit ?_ | refine WQ.thenRet ?_ | refine WQ.blk ?_ | refine WQ.blkRet ?_ | refine WQ.blkHere rfl ?_ | refine WQ.blkOther rfl ?_ | refine WL.pure rfl rfl rfl rfl ?_ | refine WL.on rfl rfl ?_ | refine WL.off rfl rfl rfl ?_ | refine WC.condTrue rfl ?_ | refine WC.condFalse rfl ?_)
        exact WQ.meet () ⟨rfl, rfl, congrArg (fun z => some (Value.int .u64 z)) (e2 hn), trivial⟩ rfl
    clear e1 e2
    rintro _ _ rfl
    repeat (first | ((with_reducible refine WL.topT ?_ ?_); omega) | ((with_reducible refine WL.topF ?_ ?_); omega) | ((with_reducible refine WL.top64 ?_ ?_); omega) | refine WC.seq ?_ | refine WC.block ?_ | refine WC.region ?_ | refine WL.nil ?_ | refine WC.skip ?_ | refine WC.exit ?_ | refine WC.ret ?_ | refine WQ.then rfl ?_ | refine WQ.thenExit ?_ | refine WQ.thenRet ?_ | refine WQ.blk ?_ | refine WQ.blkRet ?_ | refine WQ.blkHere rfl ?_ | refine WQ.blkOther rfl ?_ | refine WL.pure rfl rfl rfl rfl ?_ | refine WL.on rfl rfl ?_ | refine WL.off rfl rfl rfl ?_ | refine WC.condTrue rfl ?_ | refine WC.condFalse rfl ?_)
    refine WC.loop (fun i : Nat × Nat × List Nat × Value => [(0, .int .i64 x), (5, .int .u64 i.2.1), (6, .int .i64 (i.2.2.1.length - s)), (7, i.2.2.2)])
      (fun i w' => (digs u = i.2.2.1 ++ digsF i.1 i.2.1 ∧ i.1 + i.2.2.1.length = 20 ∧ i.2.1 < 10 ^ i.1 ∧ i.2.1 ≤ u) ∧ Bu w' i.2.2.2 ((nzs i.2.2.1).map fun d : Nat => (d : Int) + 1) ∧ Below w.heap.size w w' ∧ ∀ g, i.2.2.2.ownBlock = some g → w.heap.size ≤ g)
      (fun i => i.2.1) (20, u, [], .slice none 0 0) ⟨rfl, rfl, congrArg (fun z => some (Value.int .i64 z)) (by simp), rfl, trivial⟩ ⟨⟨rfl, rfl, by show u < 10 ^ 20; omega, Nat.le_refl _⟩, Bu.nil w, Below.refl _ _, fun g hg => by cases hg⟩ ?_
    rintro ⟨f, c, A, b⟩ wr ⟨⟨hA, hf, hc, hcu⟩, hb, hbel, hown⟩
    simp only at hA hf hc hcu hb hbel hown ⊢
    have hlt := digsF_lt 20 u
    by_cases h0 : c = 0
    · subst h0
      have hAu : A = digs u := by rw [hA]; cases f <;> simp [digsF]
      have hdl : (digs u).length ≤ 20 := digsF_len 20 u
      have hnl := nzs_len (digs u)
      subst hAu
      clear hA hf hc hcu
      have e14 : IntKind.u8.wrap (IntKind.u8.wrap (IntKind.i8.wrap (((digs u).length : Int) - s)) + 192) = (((digs u).length : Int) - s + 192) % 256 := by
        rw [IntKind.wrap_u8, IntKind.wrap_u8, wrap_i8]; omega
      repeat (first | ((with_reducible refine WL.topT ?_ ?_); omega) | ((with_reducible refine WL.topF ?_ ?_); omega) | ((with_reducible refine WL.top64 ?_ ?_); omega) | refine WC.seq ?_ | refine WC.block ?_ | refine WC.region ?_ | refine WL.nil ?_ | refine WC.skip ?_ | refine WC.exit ?_ | refine WC.ret ?_ | refine WQ.then rfl ?_ | refine WQ.thenExit ?_ | refine WQ.thenRet ?_ | refine WQ.blk ?_ | refine WQ.blkRet ?_ | refine WQ.blkHere rfl ?_ | refine WQ.blkOther rfl ?_ | refine WL.pure rfl rfl rfl rfl ?_ | refine WL.on rfl rfl ?_ | refine WL.off rfl rfl rfl ?_ | refine WC.condTrue rfl ?_ | refine WC.condFalse rfl ?_)
      refine WL.lit rfl rfl rfl rfl rfl rfl rfl fun b0 w1 hb0 k0 g0 => ?_
      rw [e14] at hb0
      have hrl : (List.map (fun d : Nat => (d : Int) + 1) (nzs (digs u))).length = (nzs (digs u)).length := List.length_map _
      have hrev : digB (digs u) = (List.map (fun d : Nat => (d : Int) + 1) (nzs (digs u))).reverse := by unfold digB; rw [List.map_reverse]
      have hpos : posB (digs u) s = (((digs u).length : Int) - s + 192) % 256 :: (List.map (fun d : Nat => (d : Int) + 1) (nzs (digs u))).reverse ++ [0] := by unfold posB; rw [hrev]
      have hpr := posB_range u s
      have hpl := posB_len u s
      generalize hR : List.map (fun d : Nat => (d : Int) + 1) (nzs (digs u)) = R at hb hrl hpos
      generalize hH : (((digs u).length : Int) - s + 192) % 256 = H at hb0 hpos
      obtain ⟨sp, cc, rfl, -, -⟩ := hb.form
      repeat (first | ((with_reducible refine WL.topT ?_ ?_); omega) | ((with_reducible refine WL.topF ?_ ?_); omega) | ((with_reducible refine WL.top64 ?_ ?_); omega) | refine WC.seq ?_ | refine WC.block ?_ | refine WC.region ?_ | refine WL.nil ?_ | refine WC.skip ?_ | refine WC.exit ?_ | refine WC.ret ?_ | refine WQ.then rfl ?_ | refine WQ.thenExit ?_ | refine WQ.thenRet ?_ | refine WQ.blk ?_ | refine WQ.blkRet ?_ | refine WQ.blkHere rfl ?_ | refine WQ.blkOther rfl ?_ | refine WL.pure rfl rfl rfl rfl ?_ | refine WL.on rfl rfl ?_ | refine WL.off rfl rfl rfl ?_ | refine WC.condTrue rfl ?_ | refine WC.condFalse rfl ?_)
      refine WC.loop (fun i : Nat × Value => [(0, .int .i64 x), (7, .slice sp R.length cc), (9, i.2), (10, .int .i64 ((i.1 : Int) - 1))])
        (fun i w' => i.1 ≤ R.length ∧ Bu w' i.2 (H :: (R.drop i.1).reverse) ∧ Below wr.heap.size wr w' ∧ ∀ g, i.2.ownBlock = some g → wr.heap.size ≤ g)
        (fun i => i.1) (R.length, b0) ⟨rfl, rfl, rfl, rfl, trivial⟩ ⟨Nat.le_refl _, by simpa using hb0, k0, g0⟩ ?_
      rintro ⟨k, vv⟩ wr2 ⟨hk, hb2, hbel2, hown2⟩
      simp only at hk hb2 hbel2 hown2 ⊢
      by_cases hk0 : k = 0
      · subst hk0
        repeat (first | ((with_reducible refine WL.topT ?_ ?_); omega) | ((with_reducible refine WL.topF ?_ ?_); omega) | ((with_reducible refine WL.top64 ?_ ?_); omega) | refine WC.seq ?_ | refine WC.block ?_ | refine WC.region ?_ | refine WL.nil ?_ | refine WC.skip ?_ | refine WC.exit ?_ | refine WC.ret ?_ | refine WQ.then rfl ?_ | refine WQ.thenExit ?_ | refine WQ.thenRet ?_ | refine WQ.blk ?_ | refine WQ.blkRet ?_ | refine WQ.blkHere rfl ?_ | refine WQ.blkOther rfl ?_ | refine WL.pure rfl rfl rfl rfl ?_ | refine WL.on rfl rfl ?_ | refine WL.off rfl rfl rfl ?_ | refine WC.condTrue rfl ?_ | refine WC.condFalse rfl ?_)
        refine WL.push rfl rfl rfl rfl rfl rfl rfl rfl rfl rfl rfl (fun _ => rfl) rfl hb2 (by simp; omega) fun v3 w3 hb3 hg3 => ?_
        have hb3' : Bu w3 v3 (posB (digs u) s) := by rw [hpos]; simpa using hb3
        have hbel3 : Below w.heap.size w w3 := (hbel.trans (hbel2.mono hbel.size)).trans (hg3.old (Nat.le_trans hbel.size hbel2.size) fun g hg => Nat.le_trans hbel.size (hown2 g hg))
        have hown3 : ∀ g, v3.ownBlock = some g → w.heap.size ≤ g := hg3.own (Nat.le_trans hbel.size hbel2.size) fun g hg => Nat.le_trans hbel.size (hown2 g hg)
        clear hb3
        repeat (first | ((with_reducible refine WL.topT ?_ ?_); omega) | ((with_reducible refine WL.topF ?_ ?_); omega) | ((with_reducible refine WL.top64 ?_ ?_); omega) | refine WC.seq ?_ | refine WC.block ?_ | refine WC.region ?_ | refine WL.nil ?_ | refine WC.skip ?_ | refine WC.exit ?_ | refine WC.ret ?_ | refine WQ.then rfl ?_ | refine WQ.thenExit ?_ | refine WQ.thenRet ?_ | refine WQ.blk ?_ | refine WQ.blkRet ?_ | refine WQ.blkHere rfl ?_ | refine WQ.blkOther rfl ?_ | refine WL.pure rfl rfl rfl rfl ?_ | refine WL.on rfl rfl ?_ | refine WL.off rfl rfl rfl ?_ | refine WC.condTrue rfl ?_ | refine WC.condFalse rfl ?_)
        by_cases hn : x < 0
        · refine WC.condT rfl hn ?_
          generalize hF : posB (digs u) s = F at hb3' hpr hpl
          obtain ⟨sp3, c3, rfl, -, -⟩ := hb3'.form
          repeat (first | ((with_reducible refine WL.topT ?_ ?_); omega) | ((with_reducible refine WL.topF ?_ ?_); omega) | ((with_reducible refine WL.top64 ?_ ?_); omega) | refine WC.seq ?_ | refine WC.block ?_ | refine WC.region ?_ | refine WL.nil ?_ | refine WC.skip ?_ | refine WC.exit ?_ | refine WC.ret ?_ | refine WQ.then rfl ?_ | refine WQ.thenExit ?_ | refine WQ.thenRet ?_ | refine WQ.blk ?_ | refine WQ.blkRet ?_ | refine WQ.blkHere rfl ?_ | refine WQ.blkOther rfl ?_ | refine WL.pure rfl rfl rfl rfl ?_ | refine WL.on rfl rfl ?_ | refine WL.off rfl rfl rfl ?_ | refine WC.condTrue rfl ?_ | refine WC.condFalse rfl ?_)
          refine WC.loop (fun k : Nat => [(9, .slice sp3 F.length c3), (69, .slice sp3 F.length c3), (70, .int .i64 F.length), (71, .int .i64 k)])
            (fun k w' => k ≤ F.length ∧ Bu w' (.slice sp3 F.length c3) (flipB (F.take k) ++ F.drop k) ∧ Below w.heap.size w w') (fun k => F.length - k) 0 ⟨rfl, rfl, rfl, rfl, trivial⟩ ⟨Nat.zero_le _, by simpa [flipB] using hb3', hbel3⟩ ?_
          rintro k wr3 ⟨hk, hb4, hbel4⟩
          have hll : (flipB (F.take k) ++ F.drop k).length = F.length := by simp [flipB]; omega
          by_cases hkn : k < F.length
          · obtain ⟨g, c', hv, hog, hcell, hfr, hset⟩ := hb4.at (j := k) (by rw [hll]; exact hkn)
            obtain rfl : sp3 = some ⟨g, 0, none⟩ := by injection hv
            have hdr : F.drop k = nth F k :: F.drop (k + 1) := by
              rw [List.drop_eq_getElem_cons hkn]
              simp [nth, hkn]
            have hfl : (flipB (F.take k)).length = k := by simp [flipB]; omega
            have hnk : nth (flipB (F.take k) ++ F.drop k) k = nth F k := by
              rw [hdr]
              unfold nth
              rw [List.getD_eq_getElem?_getD, List.getElem?_append_right (by omega), hfl]
              simp
            have hrg := hpr (nth F k) (by unfold nth; rw [List.getD_eq_getElem?_getD, List.getElem?_eq_getElem hkn]; exact List.getElem_mem hkn)
            have hfp := flip_u8 (nth F k) hrg.1 hrg.2
            rw [hnk] at hcell
            have hset2 := hset (255 - nth F k)
            repeat (first | ((with_reducible refine WL.topT ?_ ?_); omega) | ((with_reducible refine WL.topF ?_ ?_); omega) | ((with_reducible refine WL.top64 ?_ ?_); omega) | refine WC.seq ?_ | refine WC.block ?_ | refine WC.region ?_ | refine WL.nil ?_ | refine WC.skip ?_ | refine WC.exit ?_ | refine WC.ret ?_ | refine WQ.then rfl ?_ | refine WQ.thenExit ?_ | refine WQ.thenRet ?_ | refine WQ.blk ?_ | refine WQ.blkRet ?_ | refine WQ.blkHere rfl ?_ | refine WQ.blkOther rfl ?_ | refine WL.pure rfl rfl rfl rfl ?_ | refine WL.on rfl rfl ?_ | refine WL.off rfl rfl rfl ?_ | refine WC.condTrue rfl ?_ | refine WC.condFalse rfl ?_)
            refine WL.idx k k rfl rfl rfl rfl rfl rfl rfl rfl hkn (by omega) ?_
            refine WL.load rfl rfl rfl rfl rfl rfl hcell ?_
            repeat (first | ((with_reducible refine WL.topT ?_ ?_); omega) | ((with_reducible refine WL.topF ?_ ?_); omega) | ((with_reducible refine WL.top64 ?_ ?_); omega) | refine WC.seq ?_ | refine WC.block ?_ | refine WC.region ?_ | refine WL.nil ?_ | refine WC.skip ?_ | refine WC.exit ?_ | refine WC.ret ?_ | refine WQ.then rfl ?_ | refine WQ.thenExit ?_ | refine WQ.thenRet ?_ | refine WQ.blk ?_ | refine WQ.blkRet ?_ | refine WQ.blkHere rfl ?_ | refine WQ.blkOther rfl ?_ | refine WL.pure rfl rfl rfl rfl ?_ | refine WL.on rfl rfl ?_ | refine WL.off rfl rfl rfl ?_ | refine WC.condTrue rfl ?_ | refine WC.condFalse rfl ?_)
            refine WL.idx k k rfl rfl rfl rfl rfl rfl rfl rfl hkn (by omega) ?_
            refine WL.store (v := .int .u8 (255 - nth F k)) rfl rfl rfl rfl (congrArg (fun z => some (Value.int .u8 z)) hfp) rfl (by kernel_rfl) hcell hfr ?_
            repeat (first | ((with_reducible refine WL.topT ?_ ?_); omega) | ((with_reducible refine WL.topF ?_ ?_); omega) | ((with_reducible refine WL.top64 ?_ ?_); omega) | refine WC.seq ?_ | refine WC.block ?_ | refine WC.region ?_ | refine WL.nil ?_ | refine WC.skip ?_ | refine WC.exit ?_ | refine WC.ret ?_ | refine WQ.then rfl ?_ | refine WQ.thenExit ?_ | refine WQ.thenRet ?_ | refine WQ.blk ?_ | refine WQ.blkRet ?_ | refine WQ.blkHere rfl ?_ | refine WQ.blkOther rfl ?_ | refine WL.pure rfl rfl rfl rfl ?_ | refine WL.on rfl rfl ?_ | refine WL.off rfl rfl rfl ?_ | refine WC.condTrue rfl ?_ | refine WC.condFalse rfl ?_)
            refine WQ.again (k + 1) ⟨rfl, rfl, rfl, rfl, trivial⟩ ⟨hkn, ?_, hbel4.trans (hset2.2.old hbel4.size fun g2 hg2 => hown3 g2 hg2)⟩ (by show F.length - (k + 1) < F.length - k; omega)
            have he : (flipB (F.take k) ++ F.drop k).set k (255 - nth F k) = flipB (F.take (k + 1)) ++ F.drop (k + 1) := by
              rw [hdr, List.set_append_right _ _ (by omega), hfl, Nat.sub_self, List.set_cons_zero]
              have : F.take (k + 1) = F.take k ++ [nth F k] := by
                rw [List.take_add_one]
                simp [nth, hkn]
              rw [this]
              simp [flipB]
            rw [he] at hset2
            exact hset2.1
          · obtain rfl : k = F.length := by omega
            repeat (first | ((with_reducible refine WL.topT ?_ ?_); omega) | ((with_reducible refine WL.topF ?_ ?_); omega) | ((with_reducible refine WL.top64 ?_ ?_); omega) | refine WC.seq ?_ | refine WC.block ?_ | refine WC.region ?_ | refine WL.nil ?_ | refine WC.skip ?_ | refine WC.exit ?_ | refine WC.ret ?_ | refine WQ.then rfl ?_ | refine WQ.thenExit ?_ | refine WQ.thenRet ?_ | refine WQ.blk ?_ | refine WQ.blkRet ?_ | refine WQ.blkHere rfl ?_ | refine WQ.blkOther rfl ?_ | refine WL.pure rfl rfl rfl rfl ?_ | refine WL.on rfl rfl ?_ | refine WL.off rfl rfl rfl ?_ | refine WC.condTrue rfl ?_ | refine WC.condFalse rfl ?_)
            refine WQ.ret1 rfl rfl ⟨_, rfl, ?_, hbel4, hown3⟩
            unfold numB
            rw [if_neg h0x, if_pos hn, hue, hF]
            simpa using hb4
        · refine WC.condF rfl hn ?_
          repeat (first | ((with_reducible refine WL.topT ?_ ?_); omega) | ((with_reducible refine WL.topF ?_ ?_); omega) | ((with_reducible refine WL.top64 ?_ ?_); omega) | refine WC.seq ?_ | refine WC.block ?_ | refine WC.region ?_ | refine WL.nil ?_ | refine WC.skip ?_ | refine WC.exit ?_ | refine WC.ret ?_ | refine WQ.then rfl ?_ | refine WQ.thenExit ?_ | refine WQ.thenRet ?_ | refine WQ.blk ?_ | refine WQ.blkRet ?_ | refine WQ.blkHere rfl ?_ | refine WQ.blkOther rfl ?_ | refine WL.pure rfl rfl rfl rfl ?_ | refine WL.on rfl rfl ?_ | refine WL.off rfl rfl rfl ?_ | refine WC.condTrue rfl ?_ | refine WC.condFalse rfl ?_)
          refine WQ.ret1 rfl rfl ⟨_, rfl, ?_, hbel3, hown3⟩
          unfold numB
          rw [if_neg h0x, if_neg hn, hue]
          exact hb3'
      · obtain ⟨k, rfl⟩ : ∃ k', k = k' + 1 := ⟨k - 1, by omega⟩
        repeat (first | ((with_reducible refine WL.topT ?_ ?_); omega) | ((with_reducible refine WL.topF ?_ ?_); omega) | ((with_reducible refine WL.top64 ?_ ?_); omega) | refine WC.seq ?_ | refine WC.block ?_ | refine WC.region ?_ | refine WL.nil ?_ | refine WC.skip ?_ | refine WC.exit ?_ | refine WC.ret ?_ | refine WQ.then rfl ?_ | refine WQ.thenExit ?_ | refine WQ.thenRet ?_ | refine WQ.blk ?_ | refine WQ.blkRet ?_ | refine WQ.blkHere rfl ?_ | refine WQ.blkOther rfl ?_ | refine WL.pure rfl rfl rfl rfl ?_ | refine WL.on rfl rfl ?_ | refine WL.off rfl rfl rfl ?_ | refine WC.condTrue rfl ?_ | refine WC.condFalse rfl ?_)
        refine WL.idxI k rfl rfl rfl rfl rfl rfl (hb.sl.of_below hbel2) rfl (by omega) (by omega) fun p hp => ?_
        refine WL.load rfl rfl rfl rfl rfl rfl hp ?_
        refine WL.push rfl rfl rfl rfl rfl rfl rfl rfl rfl rfl rfl (fun _ => rfl) rfl hb2 (by simp; omega) fun v3 w3 hb3 hg3 => ?_
        repeat (first | ((with_reducible refine WL.topT ?_ ?_); omega) | ((with_reducible refine WL.topF ?_ ?_); omega) | ((with_reducible refine WL.top64 ?_ ?_); omega) | refine WC.seq ?_ | refine WC.block ?_ | refine WC.region ?_ | refine WL.nil ?_ | refine WC.skip ?_ | refine WC.exit ?_ | refine WC.ret ?_ | refine WQ.then rfl ?_ | refine WQ.thenExit ?_ | refine WQ.thenRet ?_ | refine WQ.blk ?_ | refine WQ.blkRet ?_ | refine WQ.blkHere rfl ?_ | refine WQ.blkOther rfl ?_ | refine WL.pure rfl rfl rfl rfl ?_ | refine WL.on rfl rfl ?_ | refine WL.off rfl rfl rfl ?_ | refine WC.condTrue rfl ?_ | refine WC.condFalse rfl ?_)
        refine WQ.again (k, v3) ⟨rfl, rfl, rfl, congrArg (fun z => some (Value.int .i64 z)) (by simp), trivial⟩ ⟨by show k ≤ R.length; omega, ?_, hbel2.trans (hg3.old hbel2.size hown2), hg3.own hbel2.size hown2⟩ (by show k < k + 1; omega)
        have hdr : R.drop k = nth R k :: R.drop (k + 1) := by
          rw [List.drop_eq_getElem_cons (by omega)]
          simp [nth, show k < R.length by omega]
        show Bu w3 v3 (H :: (R.drop k).reverse)
        rw [hdr, List.reverse_cons]
        exact hb3
    · obtain ⟨f, rfl⟩ : ∃ f', f = f' + 1 := ⟨f - 1, by cases f with | zero => simp at hc; omega | succ f => rfl⟩
      have hd1 : digsF (f + 1) c = c % 10 :: digsF f (c / 10) := by rw [digsF, if_neg h0]
      have hA2 : digs u = (A ++ [c % 10]) ++ digsF f (c / 10) := by rw [hA, hd1]; simp
      have hsn := nzs_snoc A (c % 10)
      have hnl := nzs_len A
      have hc10 : c / 10 < 10 ^ f := by rw [Nat.pow_succ] at hc; omega
      have hw : IntKind.u8.wrap ((c : Int).tmod 10) = ((c % 10 : Nat) : Int) := by
        rw [IntKind.wrap_u8, Int.tmod_eq_emod_of_nonneg (by omega)]; omega
      have hwp : IntKind.u8.wrap (IntKind.u8.wrap ((c : Int).tmod 10) + 1) = ((c % 10 : Nat) : Int) + 1 := by rw [hw, IntKind.wrap_u8]; omega
      have hq : IntKind.u64.wrap ((c : Int).tdiv 10) = ((c / 10 : Nat) : Int) := by
        rw [IntKind.wrap_u64, Int.tdiv_eq_ediv_of_nonneg (by omega)]; omega
      have hlm : (List.map (fun d : Nat => (d : Int) + 1) (nzs A)).length = (nzs A).length := List.length_map _
      obtain ⟨sp, cc, rfl, -, -⟩ := hb.form
      have fin : ∀ b w', Bu w' b ((nzs (A ++ [c % 10])).map fun d : Nat => (d : Int) + 1) → Below w.heap.size w w' → (∀ g, b.ownBlock = some g → w.heap.size ≤ g) → (digs u = (A ++ [c % 10]) ++ digsF f (c / 10) ∧ f + (A ++ [c % 10]).length = 20 ∧ c / 10 < 10 ^ f ∧ c / 10 ≤ u) ∧ Bu w' b ((nzs (A ++ [c % 10])).map fun d : Nat => (d : Int) + 1) ∧ Below w.heap.size w w' ∧ ∀ g, b.ownBlock = some g → w.heap.size ≤ g :=
        fun b w' h1 h2 h3 => ⟨⟨hA2, by simp; omega, hc10, by omega⟩, h1, h2, h3⟩
      have e6 : (A.length : Int) - s + 1 = ((A ++ [c % 10]).length : Int) - s := by simp; omega
      by_cases hd : c % 10 = 0
      · by_cases hz : nzs A = []
        · have hz0 : (nzs A).length = 0 := by rw [hz]; rfl
          rw [hz, if_pos rfl, if_pos hd] at hsn
          repeat (first | ((with_reducible refine WL.topT ?_ ?_); omega) | ((with_reducible refine WL.topF ?_ ?_); omega) | ((with_reducible refine WL.top64 ?_ ?_); omega) | refine WC.seq ?_ | refine WC.block ?_ | refine WC.region ?_ | refine WL.nil ?_ | refine WC.skip ?_ | refine WC.exit ?_ | refine WC.ret ?_ | refine WQ.then rfl ?_ | refine WQ.thenExit ?_ | refine WQ.thenRet ?_ | refine WQ.blk ?_ | refine WQ.blkRet ?_ | refine WQ.blkHere rfl ?_ | refine WQ.blkOther rfl ?_ | refine WL.pure rfl rfl rfl rfl ?_ | refine WL.on rfl rfl ?_ | refine WL.off rfl rfl rfl ?_ | refine WC.condTrue rfl ?_ | refine WC.condFalse rfl ?_)
          refine WQ.again (f, c / 10, A ++ [c % 10], _) ⟨rfl, congrArg (fun z => some (Value.int .u64 z)) hq, congrArg (fun z => some (Value.int .i64 z)) e6, rfl, trivial⟩ (fin _ _ ?_ hbel hown) (by show c / 10 < c; omega)
          rw [hsn, ← hz]
          exact hb
        · have hz0 : 0 < (nzs A).length := by cases hl : nzs A with | nil => exact (hz hl).elim | cons a r => simp
          rw [if_neg hz] at hsn
          repeat (first | ((with_reducible refine WL.topT ?_ ?_); omega) | ((with_reducible refine WL.topF ?_ ?_); omega) | ((with_reducible refine WL.top64 ?_ ?_); omega) | refine WC.seq ?_ | refine WC.block ?_ | refine WC.region ?_ | refine WL.nil ?_ | refine WC.skip ?_ | refine WC.exit ?_ | refine WC.ret ?_ | refine WQ.then rfl ?_ | refine WQ.thenExit ?_ | refine WQ.thenRet ?_ | refine WQ.blk ?_ | refine WQ.blkRet ?_ | refine WQ.blkHere rfl ?_ | refine WQ.blkOther rfl ?_ | refine WL.pure rfl rfl rfl rfl ?_ | refine WL.on rfl rfl ?_ | refine WL.off rfl rfl rfl ?_ | refine WC.condTrue rfl ?_ | refine WC.condFalse rfl ?_)
          refine WL.push rfl rfl rfl rfl rfl rfl rfl rfl rfl rfl rfl (fun _ => rfl) rfl hb (by simp; omega) fun v3 w3 hb3 hg3 => ?_
          repeat (first | ((with_reducible refine WL.topT ?_ ?_); omega) | ((with_reducible refine WL.topF ?_ ?_); omega) | ((with_reducible refine WL.top64 ?_ ?_); omega) | refine WC.seq ?_ | refine WC.block ?_ | refine WC.region ?_ | refine WL.nil ?_ | refine WC.skip ?_ | refine WC.exit ?_ | refine WC.ret ?_ | refine WQ.then rfl ?_ | refine WQ.thenExit ?_ | refine WQ.thenRet ?_ | refine WQ.blk ?_ | refine WQ.blkRet ?_ | refine WQ.blkHere rfl ?_ | refine WQ.blkOther rfl ?_ | refine WL.pure rfl rfl rfl rfl ?_ | refine WL.on rfl rfl ?_ | refine WL.off rfl rfl rfl ?_ | refine WC.condTrue rfl ?_ | refine WC.condFalse rfl ?_)
          refine WQ.again (f, c / 10, A ++ [c % 10], v3) ⟨rfl, congrArg (fun z => some (Value.int .u64 z)) hq, congrArg (fun z => some (Value.int .i64 z)) e6, rfl, trivial⟩ (fin _ _ ?_ (hbel.trans (hg3.old hbel.size hown)) (hg3.own hbel.size hown)) (by show c / 10 < c; omega)
          rw [hsn, List.map_append]
          rw [hwp] at hb3
          exact hb3
      · have hsn2 : nzs (A ++ [c % 10]) = nzs A ++ [c % 10] := by
          rw [hsn]
          by_cases hz : nzs A = []
          · rw [if_pos hz, if_neg hd, hz]; rfl
          · rw [if_neg hz]
        repeat (first | ((with_reducible refine WL.topT ?_ ?_); omega) | ((with_reducible refine WL.topF ?_ ?_); omega) | ((with_reducible refine WL.top64 ?_ ?_); omega) | refine WC.seq ?_ | refine WC.block ?_ | refine WC.region ?_ | refine WL.nil ?_ | refine WC.skip ?_ | refine WC.exit ?_ | refine WC.ret ?_ | refine WQ.then rfl ?_ | refine WQ.thenExit ?_ | refine WQ.thenRet ?_ | refine WQ.blk ?_ | refine WQ.blkRet ?_ | refine WQ.blkHere rfl ?_ | refine WQ.blkOther rfl ?_ | refine WL.pure rfl rfl rfl rfl ?_ | refine WL.on rfl rfl ?_ | refine WL.off rfl rfl rfl ?_ | refine WC.condTrue rfl ?_ | refine WC.condFalse rfl ?_)
        refine WL.push rfl rfl rfl rfl rfl rfl rfl rfl rfl rfl rfl (fun _ => rfl) rfl hb (by simp; omega) fun v3 w3 hb3 hg3 => ?_
        repeat (first | ((with_reducible refine WL.topT ?_ ?_); omega) | ((with_reducible refine WL.topF ?_ ?_); omega) | ((with_reducible refine WL.top64 ?_ ?_); omega) | refine WC.seq ?_ | refine WC.block ?_ | refine WC.region ?_ | refine WL.nil ?_ | refine WC.skip ?_ | refine WC.exit ?_ | refine WC.ret ?_ | refine WQ.then rfl ?_ | refine WQ.thenExit ?_ | refine WQ.thenRet ?_ | refine WQ.blk ?_ | refine WQ.blkRet ?_ | refine WQ.blkHere rfl ?_ | refine WQ.blkOther rfl ?_ | refine WL.pure rfl rfl rfl rfl ?_ | refine WL.on rfl rfl ?_ | refine WL.off rfl rfl rfl ?_ | refine WC.condTrue rfl ?_ | refine WC.condFalse rfl ?_)
        refine WQ.again (f, c / 10, A ++ [c % 10], v3) ⟨rfl, congrArg (fun z => some (Value.int .u64 z)) hq, congrArg (fun z => some (Value.int .i64 z)) e6, rfl, trivial⟩ (fin _ _ ?_ (hbel.trans (hg3.old hbel.size hown)) (hg3.own hbel.size hown)) (by show c / 10 < c; omega)
        rw [hsn2, List.map_append]
        rw [hwp] at hb3
        exact hb3
end K
end Go.Proofs.Ytfpakjbaiohcaaa
