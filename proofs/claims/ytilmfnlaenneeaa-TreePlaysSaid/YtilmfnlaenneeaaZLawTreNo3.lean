/- Texts for LawTreNo, part 3 of 6. -/
import Derived.Test.YtilmfnlaenneeaaZLawTreNo2
/- Nodes (chapter 13): put. -/
namespace Go.Proofs.Ytilmfnlaenneeaa
open Go.RowKit
namespace K
open Tre
theorem cellR {T : TypeId} {w : World} {b : Nat} {g : Nat → Value} (h : VBlk T w b (rowOf g)) {j : Nat} (hj : j < 28) : w.cell? ⟨b, j, none⟩ = some (g j) := by
  rw [h.cell j (by rw [rowOf_len]; exact hj), rowOf_get g hj]
theorem setR {T : TypeId} {w : World} {b : Nat} {g : Nat → Value} (h : VBlk T w b (rowOf g)) (j : Nat) (v : Value) : VBlk T (w.setCell ⟨b, j, none⟩ v) b (rowOf fun i => if i = j then v else g i) := by
  have := h.set j v
  rwa [rowOf_set] at this
theorem partR {T : TypeId} {w : World} {b : Nat} {g : Nat → Value} (h : VBlk T w b (rowOf g)) (off m : Nat) (hm : off + m ≤ 28) : w.rangeAt b off ((List.range m).map fun j => g (off + j)) := by
  intro j v hj
  have hlt : j < m := by
    rcases Nat.lt_or_ge j m with h | h
    · exact h
    · rw [List.getElem?_eq_none (by simpa using h)] at hj; cases hj
  rw [cellR h (by omega)]
  simp [hlt] at hj
  rw [hj]
theorem Keep.ofDrew {w w' : World} (h : Drew w w') (K : Nat → Prop) : Keep K w w' := ⟨(h.below 0).os, (h.below 0).tape, (h.below 0).output, (h.below 0).size, fun k _ => (h.below (k + 1)).block k (Nat.lt_succ_self k)⟩
theorem keepSetRow {K : Nat → Prop} {a w : World} (h : Keep K a w) {g : Nat} (hg : ¬ K g) (cs : Array Value) : Keep K a (w.setRow g cs) :=
  ⟨h.os, h.tape, h.output, by simpa using h.size, fun k hk => (setRow_other w g k cs (fun e => hg (e ▸ hk))).trans (h.block k hk)⟩
theorem keepR {w w1 : World} {b : Nat} (h : Keep (fun x => x ≠ b) w w1) (j : Nat) (v : Value) : Keep (fun x => x ≠ b) w (w1.setCell ⟨b, j, none⟩ v) := h.setCell (fun hk => hk rfl) _
theorem ptrV_one (x : Option Nat) : (ptrV x).oneCell' = true := by cases x <;> rfl
theorem ndF_one (nd : Nd) (pv : Option Nat) (j : Nat) : (ndF nd pv j).oneCell' = true := by
  unfold ndF
  repeat' split
  all_goals first | rfl | exact ptrV_one _
set_option maxHeartbeats 2000000 in
theorem nput_any {w : World} {b i : Nat} {nd : Nd} {pv : Option Nat} {key : ByteArray} {n : Int} {kid : Option Nat} (hb : VBlk nodeT w b (rowOf (ndF nd pv))) (hi : i ≤ nd.es.length) (hn : nd.es.length < 8) :
    Calls Try.prog 24 #[.pointer (some ⟨b, 0, none⟩), .int .i64 i, .string key, .int .i64 n, ptrV kid] w fun e w' => e = .returned (.tuple #[]) ∧ Keep (fun x => x ≠ b) w w' ∧ VBlk nodeT w' b (rowOf (ndF { nd with es := ins nd.es i ⟨key, n, kid⟩ } pv)) := by
  refine enter (args := [.pointer (some ⟨b, 0, none⟩), .int .i64 i, .string key, .int .i64 n, ptrV kid]) Try.func24 rfl Try.ntmps24 rfl ?_
  obtain ⟨g0, hg0⟩ : ∃ g0, ndF nd pv = g0 := ⟨_, rfl⟩
  obtain ⟨N, hN⟩ : ∃ N, nd.es.length = N := ⟨_, rfl⟩
  rw [hg0] at hb
  rw [hN] at hi hn
  have hcnt : g0 1 = .int .i64 N := by rw [← hg0, ndF_cnt, hN]
  -- three rows make room
  have step : ∀ {wx : World} {g : Nat → Value} (off : Nat), 2 ≤ off → off + 8 ≤ 26 → VBlk nodeT wx b (rowOf g) → ∃ g', VBlk nodeT (wx.setRow b ((rowOf g).take (cutOff 8 (i + 1) off 1) ++ (List.range (N - i)).map (fun j => g (off + i + j)) ++ (rowOf g).drop (cutOff 8 (i + 1) off 1 + ((List.range (N - i)).map (fun j => g (off + i + j))).length)).toArray) b (rowOf g') ∧
      ∀ j, j < 28 → g' j = if off + i + 1 ≤ j ∧ j < off + N + 1 then g (j - 1) else g j := by
    intro wx g off h1 h2 hv
    have hc : cutOff 8 (i + 1) off 1 + (N - i) ≤ 28 := by unfold cutOff; split <;> omega
    rw [rowOf_part g _ _ _ hc]
    refine ⟨_, hv.setRow _, fun j hj => ?_⟩
    by_cases e : 8 = i + 1
    · have : N - i = 0 := by omega
      rw [this, if_neg (by omega), if_neg (by omega)]
    · rw [show cutOff 8 (i + 1) off 1 = off + i + 1 by unfold cutOff; rw [if_neg e]; omega]
      by_cases c : off + i + 1 ≤ j ∧ j < off + N + 1
      · rw [if_pos (by omega), if_pos c]
        congr 1
        omega
      · rw [if_neg (by omega), if_neg c]
  have o0 : ∀ j, j < 28 → (g0 j).oneCell' = true := fun j _ => by rw [← hg0]; exact ndF_one _ _ _
  have one0 : ∀ off' m', off' + m' ≤ 28 → Ones ((List.range m').map fun j => g0 (off' + j)) := fun off' m' hm u hu => by
    obtain ⟨j, hj, rfl⟩ := List.mem_map.1 hu
    exact o0 _ (by have := List.mem_range.1 hj; omega)
  have c0 := hcnt
  have K0 := Keep.refl (fun x => x ≠ b) w
  repeat (first | refine WC.seq ?_ | refine WC.block ?_ | refine WC.region ?_ | refine WL.nil ?_ | refine WC.skip ?_ | refine WC.exit ?_ | refine WC.ret ?_ | refine WQ.then rfl ?_ | refine WQ.thenExit ?_ | refine WQ.thenRet ?_ | refine WQ.blk ?_ | refine WQ.blkRet ?_ | refine WQ.blkHere rfl ?_ | refine WQ.blkOther rfl ?_)
  refine WC.drawn 20 (fun wx => VBlk nodeT wx b (rowOf g0)) fun u0 hd => ?_
  have hS := hb.below (hd.below _) hb.lt
  have K0' := K0.trans (Keep.ofDrew hd (fun x => x ≠ b))
  clear hd hb K0
  (((first | refine WD.free 0 rfl (by kernel_rfl) rfl rfl (fun _ _ _ _ _ h => h) rfl rfl (.inr hS) ?_ | refine WD.skip 0 rfl (by kernel_rfl) rfl rfl (fun _ _ _ _ _ h => h) rfl (.inr hS) ?_); try (first | ((with_reducible refine WD.topT ?_ ?_); omega) | ((with_reducible refine WD.topF ?_ ?_); omega) | ((with_reducible refine WD.top64 ?_ ?_); omega))); ((first | refine WD.free 1 rfl (by kernel_rfl) rfl rfl (fun _ _ _ _ _ h => h) rfl rfl (.inr hS) ?_ | refine WD.skip 1 rfl (by kernel_rfl) rfl rfl (fun _ _ _ _ _ h => h) rfl (.inr hS) ?_); try (first | ((with_reducible refine WD.topT ?_ ?_); omega) | ((with_reducible refine WD.topF ?_ ?_); omega) | ((with_reducible refine WD.top64 ?_ ?_); omega))); ((first | refine WD.free 2 rfl (by kernel_rfl) rfl rfl (fun _ _ _ _ _ h => h) rfl rfl (.inr hS) ?_ | refine WD.skip 2 rfl (by kernel_rfl) rfl rfl (fun _ _ _ _ _ h => h) rfl (.inr hS) ?_); try (first | ((with_reducible refine WD.topT ?_ ?_); omega) | ((with_reducible refine WD.topF ?_ ?_); omega) | ((with_reducible refine WD.top64 ?_ ?_); omega))); ((first | refine WD.free 3 rfl (by kernel_rfl) rfl rfl (fun _ _ _ _ _ h => h) rfl rfl (.inr hS) ?_ | refine WD.skip 3 rfl (by kernel_rfl) rfl rfl (fun _ _ _ _ _ h => h) rfl (.inr hS) ?_); try (first | ((with_reducible refine WD.topT ?_ ?_); omega) | ((with_reducible refine WD.topF ?_ ?_); omega) | ((with_reducible refine WD.top64 ?_ ?_); omega))); ((first | refine WD.free 4 rfl (by kernel_rfl) rfl rfl (fun _ _ _ _ _ h => h) rfl rfl (.inr hS) ?_ | refine WD.skip 4 rfl (by kernel_rfl) rfl rfl (fun _ _ _ _ _ h => h) rfl (.inr hS) ?_); try (first | ((with_reducible refine WD.topT ?_ ?_); omega) | ((with_reducible refine WD.topF ?_ ?_); omega) | ((with_reducible refine WD.top64 ?_ ?_); omega))); ((first | refine WD.free 5 rfl (by kernel_rfl) rfl rfl (fun _ _ _ _ _ h => h) rfl rfl (.inr hS) ?_ | refine WD.skip 5 rfl (by kernel_rfl) rfl rfl (fun _ _ _ _ _ h => h) rfl (.inr hS) ?_); try (first | ((with_reducible refine WD.topT ?_ ?_); omega) | ((with_reducible refine WD.topF ?_ ?_); omega) | ((with_reducible refine WD.top64 ?_ ?_); omega))); ((first | refine WD.free 6 rfl (by kernel_rfl) rfl rfl (fun _ _ _ _ _ h => h) rfl rfl (.inr hS) ?_ | refine WD.skip 6 rfl (by kernel_rfl) rfl rfl (fun _ _ _ _ _ h => h) rfl (.inr hS) ?_); try (first | ((with_reducible refine WD.topT ?_ ?_); omega) | ((with_reducible refine WD.topF ?_ ?_); omega) | ((with_reducible refine WD.top64 ?_ ?_); omega))); ((first | refine WD.free 7 rfl (by kernel_rfl) rfl rfl (fun _ _ _ _ _ h => h) rfl rfl (.inr hS) ?_ | refine WD.skip 7 rfl (by kernel_rfl) rfl rfl (fun _ _ _ _ _ h => h) rfl (.inr hS) ?_); try (first | ((with_reducible refine WD.topT ?_ ?_); omega) | ((with_reducible refine WD.topF ?_ ?_); omega) | ((with_reducible refine WD.top64 ?_ ?_); omega))))
  refine WD.load 8 [9, 10, 20] rfl (by kernel_rfl) rfl rfl (fun _ _ _ _ _ h => h) rfl rfl rfl rfl (fun wx hx => (cellR hx (j := 1) (by omega)).trans (congrArg some c0)) hS ?_
  (((first | refine WD.free 9 rfl (by kernel_rfl) rfl rfl (fun _ _ _ _ _ h => h) rfl rfl (.inr hS) ?_ | refine WD.skip 9 rfl (by kernel_rfl) rfl rfl (fun _ _ _ _ _ h => h) rfl (.inr hS) ?_); try (first | ((with_reducible refine WD.topT ?_ ?_); omega) | ((with_reducible refine WD.topF ?_ ?_); omega) | ((with_reducible refine WD.top64 ?_ ?_); omega))))
  refine WD.cutA 10 (i + 1) (N + 1) rfl (by kernel_rfl) rfl rfl (fun _ _ _ _ _ h => h) rfl rfl rfl rfl rfl rfl (by omega) (by omega) (by omega) (by omega) (.inr hS) ?_
  (((first | refine WD.free 11 rfl (by kernel_rfl) rfl rfl (fun _ _ _ _ _ h => h) rfl rfl (.inr hS) ?_ | refine WD.skip 11 rfl (by kernel_rfl) rfl rfl (fun _ _ _ _ _ h => h) rfl (.inr hS) ?_); try (first | ((with_reducible refine WD.topT ?_ ?_); omega) | ((with_reducible refine WD.topF ?_ ?_); omega) | ((with_reducible refine WD.top64 ?_ ?_); omega))); ((first | refine WD.free 12 rfl (by kernel_rfl) rfl rfl (fun _ _ _ _ _ h => h) rfl rfl (.inr hS) ?_ | refine WD.skip 12 rfl (by kernel_rfl) rfl rfl (fun _ _ _ _ _ h => h) rfl (.inr hS) ?_); try (first | ((with_reducible refine WD.topT ?_ ?_); omega) | ((with_reducible refine WD.topF ?_ ?_); omega) | ((with_reducible refine WD.top64 ?_ ?_); omega))); ((first | refine WD.free 13 rfl (by kernel_rfl) rfl rfl (fun _ _ _ _ _ h => h) rfl rfl (.inr hS) ?_ | refine WD.skip 13 rfl (by kernel_rfl) rfl rfl (fun _ _ _ _ _ h => h) rfl (.inr hS) ?_); try (first | ((with_reducible refine WD.topT ?_ ?_); omega) | ((with_reducible refine WD.topF ?_ ?_); omega) | ((with_reducible refine WD.top64 ?_ ?_); omega))); ((first | refine WD.free 14 rfl (by kernel_rfl) rfl rfl (fun _ _ _ _ _ h => h) rfl rfl (.inr hS) ?_ | refine WD.skip 14 rfl (by kernel_rfl) rfl rfl (fun _ _ _ _ _ h => h) rfl (.inr hS) ?_); try (first | ((with_reducible refine WD.topT ?_ ?_); omega) | ((with_reducible refine WD.topF ?_ ?_); omega) | ((with_reducible refine WD.top64 ?_ ?_); omega))); ((first | refine WD.free 15 rfl (by kernel_rfl) rfl rfl (fun _ _ _ _ _ h => h) rfl rfl (.inr hS) ?_ | refine WD.skip 15 rfl (by kernel_rfl) rfl rfl (fun _ _ _ _ _ h => h) rfl (.inr hS) ?_); try (first | ((with_reducible refine WD.topT ?_ ?_); omega) | ((with_reducible refine WD.topF ?_ ?_); omega) | ((with_reducible refine WD.top64 ?_ ?_); omega))); ((first | refine WD.free 16 rfl (by kernel_rfl) rfl rfl (fun _ _ _ _ _ h => h) rfl rfl (.inr hS) ?_ | refine WD.skip 16 rfl (by kernel_rfl) rfl rfl (fun _ _ _ _ _ h => h) rfl (.inr hS) ?_); try (first | ((with_reducible refine WD.topT ?_ ?_); omega) | ((with_reducible refine WD.topF ?_ ?_); omega) | ((with_reducible refine WD.top64 ?_ ?_); omega))); ((first | refine WD.free 17 rfl (by kernel_rfl) rfl rfl (fun _ _ _ _ _ h => h) rfl rfl (.inr hS) ?_ | refine WD.skip 17 rfl (by kernel_rfl) rfl rfl (fun _ _ _ _ _ h => h) rfl (.inr hS) ?_); try (first | ((with_reducible refine WD.topT ?_ ?_); omega) | ((with_reducible refine WD.topF ?_ ?_); omega) | ((with_reducible refine WD.top64 ?_ ?_); omega))))
  refine WD.load 18 [19, 20] rfl (by kernel_rfl) rfl rfl (fun _ _ _ _ _ h => h) rfl rfl rfl rfl (fun wx hx => (cellR hx (j := 1) (by omega)).trans (congrArg some c0)) hS ?_
  refine WD.cutA 19 i N rfl (by kernel_rfl) rfl rfl (fun _ _ _ _ _ h => h) rfl rfl rfl rfl rfl rfl rfl rfl (by omega) (by omega) (.inr hS) ?_
  refine WD.one 20 (by kernel_rfl) rfl ?_
  obtain ⟨g1, v1, e1⟩ := step 2 (by omega) (by omega) hS
  have K1 := keepSetRow K0' (fun hk => hk rfl) ((rowOf g0).take (cutOff 8 (i + 1) 2 1) ++ (List.range (N - i)).map (fun j => g0 (2 + i + j)) ++ (rowOf g0).drop (cutOff 8 (i + 1) 2 1 + ((List.range (N - i)).map (fun j => g0 (2 + i + j))).length)).toArray
  have hr0 := partR hS (2 + i) (N - i) (by omega)
  rw [show 2 + i = cutOff 8 i (0 + 2) 1 by unfold cutOff; split <;> omega] at hr0
  refine WL.copyV (vs := (List.range (N - i)).map (fun j => g0 (cutOff 8 i (0 + 2) 1 + j))) rfl rfl rfl rfl rfl rfl rfl hS (by simp) hr0 (by rw [rowOf_len]; simp; unfold cutOff; split <;> omega) (one0 _ _ (by unfold cutOff; split <;> omega)) ?_
  rw [show cutOff 8 i (0 + 2) 1 = 2 + i by unfold cutOff; split <;> omega, Nat.zero_add]
  generalize u0.setRow b ((rowOf g0).take (cutOff 8 (i + 1) 2 1) ++ (List.range (N - i)).map (fun j => g0 (2 + i + j)) ++ (rowOf g0).drop (cutOff 8 (i + 1) 2 1 + ((List.range (N - i)).map (fun j => g0 (2 + i + j))).length)).toArray = x0 at v1 K1 ⊢
  clear hS K0'
  have c1 : g1 1 = .int .i64 N := by rw [e1 1 (by omega), if_neg (by omega)]; exact c0
  have o1 : ∀ j, j < 28 → (g1 j).oneCell' = true := fun j hj => by rw [e1 j hj]; split <;> exact o0 _ (by omega)
  have one1 : ∀ off' m', off' + m' ≤ 28 → Ones ((List.range m').map fun j => g1 (off' + j)) := fun off' m' hm u hu => by
    obtain ⟨j, hj, rfl⟩ := List.mem_map.1 hu
    exact o1 _ (by have := List.mem_range.1 hj; omega)
  refine WL.nil (WQ.dk (.inl rfl) ?_)
  refine WD.done (by kernel_rfl) ?_
  repeat (first | refine WC.seq ?_ | refine WC.block ?_ | refine WC.region ?_ | refine WL.nil ?_ | refine WC.skip ?_ | refine WC.exit ?_ | refine WC.ret ?_ | refine WQ.then rfl ?_ | refine WQ.thenExit ?_ | refine WQ.thenRet ?_ | refine WQ.blk ?_ | refine WQ.blkRet ?_ | refine WQ.blkHere rfl ?_ | refine WQ.blkOther rfl ?_)
  refine WC.drawn 20 (fun wx => VBlk nodeT wx b (rowOf g1)) fun u1 hd => ?_
  have hS := v1.below (hd.below _) v1.lt
  have K1' := K1.trans (Keep.ofDrew hd (fun x => x ≠ b))
  clear hd v1 K1
  (((first | refine WD.free 0 rfl (by kernel_rfl) rfl rfl (fun _ _ _ _ _ h => h) rfl rfl (.inr hS) ?_ | refine WD.skip 0 rfl (by kernel_rfl) rfl rfl (fun _ _ _ _ _ h => h) rfl (.inr hS) ?_); try (first | ((with_reducible refine WD.topT ?_ ?_); omega) | ((with_reducible refine WD.topF ?_ ?_); omega) | ((with_reducible refine WD.top64 ?_ ?_); omega))); ((first | refine WD.free 1 rfl (by kernel_rfl) rfl rfl (fun _ _ _ _ _ h => h) rfl rfl (.inr hS) ?_ | refine WD.skip 1 rfl (by kernel_rfl) rfl rfl (fun _ _ _ _ _ h => h) rfl (.inr hS) ?_); try (first | ((with_reducible refine WD.topT ?_ ?_); omega) | ((with_reducible refine WD.topF ?_ ?_); omega) | ((with_reducible refine WD.top64 ?_ ?_); omega))); ((first | refine WD.free 2 rfl (by kernel_rfl) rfl rfl (fun _ _ _ _ _ h => h) rfl rfl (.inr hS) ?_ | refine WD.skip 2 rfl (by kernel_rfl) rfl rfl (fun _ _ _ _ _ h => h) rfl (.inr hS) ?_); try (first | ((with_reducible refine WD.topT ?_ ?_); omega) | ((with_reducible refine WD.topF ?_ ?_); omega) | ((with_reducible refine WD.top64 ?_ ?_); omega))); ((first | refine WD.free 3 rfl (by kernel_rfl) rfl rfl (fun _ _ _ _ _ h => h) rfl rfl (.inr hS) ?_ | refine WD.skip 3 rfl (by kernel_rfl) rfl rfl (fun _ _ _ _ _ h => h) rfl (.inr hS) ?_); try (first | ((with_reducible refine WD.topT ?_ ?_); omega) | ((with_reducible refine WD.topF ?_ ?_); omega) | ((with_reducible refine WD.top64 ?_ ?_); omega))); ((first | refine WD.free 4 rfl (by kernel_rfl) rfl rfl (fun _ _ _ _ _ h => h) rfl rfl (.inr hS) ?_ | refine WD.skip 4 rfl (by kernel_rfl) rfl rfl (fun _ _ _ _ _ h => h) rfl (.inr hS) ?_); try (first | ((with_reducible refine WD.topT ?_ ?_); omega) | ((with_reducible refine WD.topF ?_ ?_); omega) | ((with_reducible refine WD.top64 ?_ ?_); omega))); ((first | refine WD.free 5 rfl (by kernel_rfl) rfl rfl (fun _ _ _ _ _ h => h) rfl rfl (.inr hS) ?_ | refine WD.skip 5 rfl (by kernel_rfl) rfl rfl (fun _ _ _ _ _ h => h) rfl (.inr hS) ?_); try (first | ((with_reducible refine WD.topT ?_ ?_); omega) | ((with_reducible refine WD.topF ?_ ?_); omega) | ((with_reducible refine WD.top64 ?_ ?_); omega))); ((first | refine WD.free 6 rfl (by kernel_rfl) rfl rfl (fun _ _ _ _ _ h => h) rfl rfl (.inr hS) ?_ | refine WD.skip 6 rfl (by kernel_rfl) rfl rfl (fun _ _ _ _ _ h => h) rfl (.inr hS) ?_); try (first | ((with_reducible refine WD.topT ?_ ?_); omega) | ((with_reducible refine WD.topF ?_ ?_); omega) | ((with_reducible refine WD.top64 ?_ ?_); omega))); ((first | refine WD.free 7 rfl (by kernel_rfl) rfl rfl (fun _ _ _ _ _ h => h) rfl rfl (.inr hS) ?_ | refine WD.skip 7 rfl (by kernel_rfl) rfl rfl (fun _ _ _ _ _ h => h) rfl (.inr hS) ?_); try (first | ((with_reducible refine WD.topT ?_ ?_); omega) | ((with_reducible refine WD.topF ?_ ?_); omega) | ((with_reducible refine WD.top64 ?_ ?_); omega))))
  refine WD.load 8 [9, 10, 20] rfl (by kernel_rfl) rfl rfl (fun _ _ _ _ _ h => h) rfl rfl rfl rfl (fun wx hx => (cellR hx (j := 1) (by omega)).trans (congrArg some c1)) hS ?_
  (((first | refine WD.free 9 rfl (by kernel_rfl) rfl rfl (fun _ _ _ _ _ h => h) rfl rfl (.inr hS) ?_ | refine WD.skip 9 rfl (by kernel_rfl) rfl rfl (fun _ _ _ _ _ h => h) rfl (.inr hS) ?_); try (first | ((with_reducible refine WD.topT ?_ ?_); omega) | ((with_reducible refine WD.topF ?_ ?_); omega) | ((with_reducible refine WD.top64 ?_ ?_); omega))))
  refine WD.cutA 10 (i + 1) (N + 1) rfl (by kernel_rfl) rfl rfl (fun _ _ _ _ _ h => h) rfl rfl rfl rfl rfl rfl (by omega) (by omega) (by omega) (by omega) (.inr hS) ?_
  (((first | refine WD.free 11 rfl (by kernel_rfl) rfl rfl (fun _ _ _ _ _ h => h) rfl rfl (.inr hS) ?_ | refine WD.skip 11 rfl (by kernel_rfl) rfl rfl (fun _ _ _ _ _ h => h) rfl (.inr hS) ?_); try (first | ((with_reducible refine WD.topT ?_ ?_); omega) | ((with_reducible refine WD.topF ?_ ?_); omega) | ((with_reducible refine WD.top64 ?_ ?_); omega))); ((first | refine WD.free 12 rfl (by kernel_rfl) rfl rfl (fun _ _ _ _ _ h => h) rfl rfl (.inr hS) ?_ | refine WD.skip 12 rfl (by kernel_rfl) rfl rfl (fun _ _ _ _ _ h => h) rfl (.inr hS) ?_); try (first | ((with_reducible refine WD.topT ?_ ?_); omega) | ((with_reducible refine WD.topF ?_ ?_); omega) | ((with_reducible refine WD.top64 ?_ ?_); omega))); ((first | refine WD.free 13 rfl (by kernel_rfl) rfl rfl (fun _ _ _ _ _ h => h) rfl rfl (.inr hS) ?_ | refine WD.skip 13 rfl (by kernel_rfl) rfl rfl (fun _ _ _ _ _ h => h) rfl (.inr hS) ?_); try (first | ((with_reducible refine WD.topT ?_ ?_); omega) | ((with_reducible refine WD.topF ?_ ?_); omega) | ((with_reducible refine WD.top64 ?_ ?_); omega))); ((first | refine WD.free 14 rfl (by kernel_rfl) rfl rfl (fun _ _ _ _ _ h => h) rfl rfl (.inr hS) ?_ | refine WD.skip 14 rfl (by kernel_rfl) rfl rfl (fun _ _ _ _ _ h => h) rfl (.inr hS) ?_); try (first | ((with_reducible refine WD.topT ?_ ?_); omega) | ((with_reducible refine WD.topF ?_ ?_); omega) | ((with_reducible refine WD.top64 ?_ ?_); omega))); ((first | refine WD.free 15 rfl (by kernel_rfl) rfl rfl (fun _ _ _ _ _ h => h) rfl rfl (.inr hS) ?_ | refine WD.skip 15 rfl (by kernel_rfl) rfl rfl (fun _ _ _ _ _ h => h) rfl (.inr hS) ?_); try (first | ((with_reducible refine WD.topT ?_ ?_); omega) | ((with_reducible refine WD.topF ?_ ?_); omega) | ((with_reducible refine WD.top64 ?_ ?_); omega))); ((first | refine WD.free 16 rfl (by kernel_rfl) rfl rfl (fun _ _ _ _ _ h => h) rfl rfl (.inr hS) ?_ | refine WD.skip 16 rfl (by kernel_rfl) rfl rfl (fun _ _ _ _ _ h => h) rfl (.inr hS) ?_); try (first | ((with_reducible refine WD.topT ?_ ?_); omega) | ((with_reducible refine WD.topF ?_ ?_); omega) | ((with_reducible refine WD.top64 ?_ ?_); omega))); ((first | refine WD.free 17 rfl (by kernel_rfl) rfl rfl (fun _ _ _ _ _ h => h) rfl rfl (.inr hS) ?_ | refine WD.skip 17 rfl (by kernel_rfl) rfl rfl (fun _ _ _ _ _ h => h) rfl (.inr hS) ?_); try (first | ((with_reducible refine WD.topT ?_ ?_); omega) | ((with_reducible refine WD.topF ?_ ?_); omega) | ((with_reducible refine WD.top64 ?_ ?_); omega))))
  refine WD.load 18 [19, 20] rfl (by kernel_rfl) rfl rfl (fun _ _ _ _ _ h => h) rfl rfl rfl rfl (fun wx hx => (cellR hx (j := 1) (by omega)).trans (congrArg some c1)) hS ?_
  refine WD.cutA 19 i N rfl (by kernel_rfl) rfl rfl (fun _ _ _ _ _ h => h) rfl rfl rfl rfl rfl rfl rfl rfl (by omega) (by omega) (.inr hS) ?_
  refine WD.one 20 (by kernel_rfl) rfl ?_
  obtain ⟨g2, v2, e2⟩ := step 10 (by omega) (by omega) hS
  have K2 := keepSetRow K1' (fun hk => hk rfl) ((rowOf g1).take (cutOff 8 (i + 1) 10 1) ++ (List.range (N - i)).map (fun j => g1 (10 + i + j)) ++ (rowOf g1).drop (cutOff 8 (i + 1) 10 1 + ((List.range (N - i)).map (fun j => g1 (10 + i + j))).length)).toArray
  have hr1 := partR hS (10 + i) (N - i) (by omega)
  rw [show 10 + i = cutOff 8 i (0 + 10) 1 by unfold cutOff; split <;> omega] at hr1
  refine WL.copyV (vs := (List.range (N - i)).map (fun j => g1 (cutOff 8 i (0 + 10) 1 + j))) rfl rfl rfl rfl rfl rfl rfl hS (by simp) hr1 (by rw [rowOf_len]; simp; unfold cutOff; split <;> omega) (one1 _ _ (by unfold cutOff; split <;> omega)) ?_
  rw [show cutOff 8 i (0 + 10) 1 = 10 + i by unfold cutOff; split <;> omega, Nat.zero_add]
  generalize u1.setRow b ((rowOf g1).take (cutOff 8 (i + 1) 10 1) ++ (List.range (N - i)).map (fun j => g1 (10 + i + j)) ++ (rowOf g1).drop (cutOff 8 (i + 1) 10 1 + ((List.range (N - i)).map (fun j => g1 (10 + i + j))).length)).toArray = x1 at v2 K2 ⊢
  clear hS K1'
  have c2 : g2 1 = .int .i64 N := by rw [e2 1 (by omega), if_neg (by omega)]; exact c1
  have o2 : ∀ j, j < 28 → (g2 j).oneCell' = true := fun j hj => by rw [e2 j hj]; split <;> exact o1 _ (by omega)
  have one2 : ∀ off' m', off' + m' ≤ 28 → Ones ((List.range m').map fun j => g2 (off' + j)) := fun off' m' hm u hu => by
    obtain ⟨j, hj, rfl⟩ := List.mem_map.1 hu
    exact o2 _ (by have := List.mem_range.1 hj; omega)
  refine WL.nil (WQ.dk (.inl rfl) ?_)
  refine WD.done (by kernel_rfl) ?_
  repeat (first | refine WC.seq ?_ | refine WC.block ?_ | refine WC.region ?_ | refine WL.nil ?_ | refine WC.skip ?_ | refine WC.exit ?_ | refine WC.ret ?_ | refine WQ.then rfl ?_ | refine WQ.thenExit ?_ | refine WQ.thenRet ?_ | refine WQ.blk ?_ | refine WQ.blkRet ?_ | refine WQ.blkHere rfl ?_ | refine WQ.blkOther rfl ?_)
  refine WC.drawn 20 (fun wx => VBlk nodeT wx b (rowOf g2)) fun u2 hd => ?_
  have hS := v2.below (hd.below _) v2.lt
  have K2' := K2.trans (Keep.ofDrew hd (fun x => x ≠ b))
  clear hd v2 K2
  (((first | refine WD.free 0 rfl (by kernel_rfl) rfl rfl (fun _ _ _ _ _ h => h) rfl rfl (.inr hS) ?_ | refine WD.skip 0 rfl (by kernel_rfl) rfl rfl (fun _ _ _ _ _ h => h) rfl (.inr hS) ?_); try (first | ((with_reducible refine WD.topT ?_ ?_); omega) | ((with_reducible refine WD.topF ?_ ?_); omega) | ((with_reducible refine WD.top64 ?_ ?_); omega))); ((first | refine WD.free 1 rfl (by kernel_rfl) rfl rfl (fun _ _ _ _ _ h => h) rfl rfl (.inr hS) ?_ | refine WD.skip 1 rfl (by kernel_rfl) rfl rfl (fun _ _ _ _ _ h => h) rfl (.inr hS) ?_); try (first | ((with_reducible refine WD.topT ?_ ?_); omega) | ((with_reducible refine WD.topF ?_ ?_); omega) | ((with_reducible refine WD.top64 ?_ ?_); omega))); ((first | refine WD.free 2 rfl (by kernel_rfl) rfl rfl (fun _ _ _ _ _ h => h) rfl rfl (.inr hS) ?_ | refine WD.skip 2 rfl (by kernel_rfl) rfl rfl (fun _ _ _ _ _ h => h) rfl (.inr hS) ?_); try (first | ((with_reducible refine WD.topT ?_ ?_); omega) | ((with_reducible refine WD.topF ?_ ?_); omega) | ((with_reducible refine WD.top64 ?_ ?_); omega))); ((first | refine WD.free 3 rfl (by kernel_rfl) rfl rfl (fun _ _ _ _ _ h => h) rfl rfl (.inr hS) ?_ | refine WD.skip 3 rfl (by kernel_rfl) rfl rfl (fun _ _ _ _ _ h => h) rfl (.inr hS) ?_); try (first | ((with_reducible refine WD.topT ?_ ?_); omega) | ((with_reducible refine WD.topF ?_ ?_); omega) | ((with_reducible refine WD.top64 ?_ ?_); omega))); ((first | refine WD.free 4 rfl (by kernel_rfl) rfl rfl (fun _ _ _ _ _ h => h) rfl rfl (.inr hS) ?_ | refine WD.skip 4 rfl (by kernel_rfl) rfl rfl (fun _ _ _ _ _ h => h) rfl (.inr hS) ?_); try (first | ((with_reducible refine WD.topT ?_ ?_); omega) | ((with_reducible refine WD.topF ?_ ?_); omega) | ((with_reducible refine WD.top64 ?_ ?_); omega))); ((first | refine WD.free 5 rfl (by kernel_rfl) rfl rfl (fun _ _ _ _ _ h => h) rfl rfl (.inr hS) ?_ | refine WD.skip 5 rfl (by kernel_rfl) rfl rfl (fun _ _ _ _ _ h => h) rfl (.inr hS) ?_); try (first | ((with_reducible refine WD.topT ?_ ?_); omega) | ((with_reducible refine WD.topF ?_ ?_); omega) | ((with_reducible refine WD.top64 ?_ ?_); omega))); ((first | refine WD.free 6 rfl (by kernel_rfl) rfl rfl (fun _ _ _ _ _ h => h) rfl rfl (.inr hS) ?_ | refine WD.skip 6 rfl (by kernel_rfl) rfl rfl (fun _ _ _ _ _ h => h) rfl (.inr hS) ?_); try (first | ((with_reducible refine WD.topT ?_ ?_); omega) | ((with_reducible refine WD.topF ?_ ?_); omega) | ((with_reducible refine WD.top64 ?_ ?_); omega))); ((first | refine WD.free 7 rfl (by kernel_rfl) rfl rfl (fun _ _ _ _ _ h => h) rfl rfl (.inr hS) ?_ | refine WD.skip 7 rfl (by kernel_rfl) rfl rfl (fun _ _ _ _ _ h => h) rfl (.inr hS) ?_); try (first | ((with_reducible refine WD.topT ?_ ?_); omega) | ((with_reducible refine WD.topF ?_ ?_); omega) | ((with_reducible refine WD.top64 ?_ ?_); omega))))
  refine WD.load 8 [9, 10, 20] rfl (by kernel_rfl) rfl rfl (fun _ _ _ _ _ h => h) rfl rfl rfl rfl (fun wx hx => (cellR hx (j := 1) (by omega)).trans (congrArg some c2)) hS ?_
  (((first | refine WD.free 9 rfl (by kernel_rfl) rfl rfl (fun _ _ _ _ _ h => h) rfl rfl (.inr hS) ?_ | refine WD.skip 9 rfl (by kernel_rfl) rfl rfl (fun _ _ _ _ _ h => h) rfl (.inr hS) ?_); try (first | ((with_reducible refine WD.topT ?_ ?_); omega) | ((with_reducible refine WD.topF ?_ ?_); omega) | ((with_reducible refine WD.top64 ?_ ?_); omega))))
  refine WD.cutA 10 (i + 1) (N + 1) rfl (by kernel_rfl) rfl rfl (fun _ _ _ _ _ h => h) rfl rfl rfl rfl rfl rfl (by omega) (by omega) (by omega) (by omega) (.inr hS) ?_
  (((first | refine WD.free 11 rfl (by kernel_rfl) rfl rfl (fun _ _ _ _ _ h => h) rfl rfl (.inr hS) ?_ | refine WD.skip 11 rfl (by kernel_rfl) rfl rfl (fun _ _ _ _ _ h => h) rfl (.inr hS) ?_); try (first | ((with_reducible refine WD.topT ?_ ?_); omega) | ((with_reducible refine WD.topF ?_ ?_); omega) | ((with_reducible refine WD.top64 ?_ ?_); omega))); ((first | refine WD.free 12 rfl (by kernel_rfl) rfl rfl (fun _ _ _ _ _ h => h) rfl rfl (.inr hS) ?_ | refine WD.skip 12 rfl (by kernel_rfl) rfl rfl (fun _ _ _ _ _ h => h) rfl (.inr hS) ?_); try (first | ((with_reducible refine WD.topT ?_ ?_); omega) | ((with_reducible refine WD.topF ?_ ?_); omega) | ((with_reducible refine WD.top64 ?_ ?_); omega))); ((first | refine WD.free 13 rfl (by kernel_rfl) rfl rfl (fun _ _ _ _ _ h => h) rfl rfl (.inr hS) ?_ | refine WD.skip 13 rfl (by kernel_rfl) rfl rfl (fun _ _ _ _ _ h => h) rfl (.inr hS) ?_); try (first | ((with_reducible refine WD.topT ?_ ?_); omega) | ((with_reducible refine WD.topF ?_ ?_); omega) | ((with_reducible refine WD.top64 ?_ ?_); omega))); ((first | refine WD.free 14 rfl (by kernel_rfl) rfl rfl (fun _ _ _ _ _ h => h) rfl rfl (.inr hS) ?_ | refine WD.skip 14 rfl (by kernel_rfl) rfl rfl (fun _ _ _ _ _ h => h) rfl (.inr hS) ?_); try (first | ((with_reducible refine WD.topT ?_ ?_); omega) | ((with_reducible refine WD.topF ?_ ?_); omega) | ((with_reducible refine WD.top64 ?_ ?_); omega))); ((first | refine WD.free 15 rfl (by kernel_rfl) rfl rfl (fun _ _ _ _ _ h => h) rfl rfl (.inr hS) ?_ | refine WD.skip 15 rfl (by kernel_rfl) rfl rfl (fun _ _ _ _ _ h => h) rfl (.inr hS) ?_); try (first | ((with_reducible refine WD.topT ?_ ?_); omega) | ((with_reducible refine WD.topF ?_ ?_); omega) | ((with_reducible refine WD.top64 ?_ ?_); omega))); ((first | refine WD.free 16 rfl (by kernel_rfl) rfl rfl (fun _ _ _ _ _ h => h) rfl rfl (.inr hS) ?_ | refine WD.skip 16 rfl (by kernel_rfl) rfl rfl (fun _ _ _ _ _ h => h) rfl (.inr hS) ?_); try (first | ((with_reducible refine WD.topT ?_ ?_); omega) | ((with_reducible refine WD.topF ?_ ?_); omega) | ((with_reducible refine WD.top64 ?_ ?_); omega))); ((first | refine WD.free 17 rfl (by kernel_rfl) rfl rfl (fun _ _ _ _ _ h => h) rfl rfl (.inr hS) ?_ | refine WD.skip 17 rfl (by kernel_rfl) rfl rfl (fun _ _ _ _ _ h => h) rfl (.inr hS) ?_); try (first | ((with_reducible refine WD.topT ?_ ?_); omega) | ((with_reducible refine WD.topF ?_ ?_); omega) | ((with_reducible refine WD.top64 ?_ ?_); omega))))
  refine WD.load 18 [19, 20] rfl (by kernel_rfl) rfl rfl (fun _ _ _ _ _ h => h) rfl rfl rfl rfl (fun wx hx => (cellR hx (j := 1) (by omega)).trans (congrArg some c2)) hS ?_
  refine WD.cutA 19 i N rfl (by kernel_rfl) rfl rfl (fun _ _ _ _ _ h => h) rfl rfl rfl rfl rfl rfl rfl rfl (by omega) (by omega) (.inr hS) ?_
  refine WD.one 20 (by kernel_rfl) rfl ?_
  obtain ⟨g3, v3, e3⟩ := step 18 (by omega) (by omega) hS
  have K3 := keepSetRow K2' (fun hk => hk rfl) ((rowOf g2).take (cutOff 8 (i + 1) 18 1) ++ (List.range (N - i)).map (fun j => g2 (18 + i + j)) ++ (rowOf g2).drop (cutOff 8 (i + 1) 18 1 + ((List.range (N - i)).map (fun j => g2 (18 + i + j))).length)).toArray
  have hr2 := partR hS (18 + i) (N - i) (by omega)
  rw [show 18 + i = cutOff 8 i (0 + 18) 1 by unfold cutOff; split <;> omega] at hr2
  refine WL.copyV (vs := (List.range (N - i)).map (fun j => g2 (cutOff 8 i (0 + 18) 1 + j))) rfl rfl rfl rfl rfl rfl rfl hS (by simp) hr2 (by rw [rowOf_len]; simp; unfold cutOff; split <;> omega) (one2 _ _ (by unfold cutOff; split <;> omega)) ?_
  rw [show cutOff 8 i (0 + 18) 1 = 18 + i by unfold cutOff; split <;> omega, Nat.zero_add]
  generalize u2.setRow b ((rowOf g2).take (cutOff 8 (i + 1) 18 1) ++ (List.range (N - i)).map (fun j => g2 (18 + i + j)) ++ (rowOf g2).drop (cutOff 8 (i + 1) 18 1 + ((List.range (N - i)).map (fun j => g2 (18 + i + j))).length)).toArray = x2 at v3 K3 ⊢
  clear hS K2'
  have c3 : g3 1 = .int .i64 N := by rw [e3 1 (by omega), if_neg (by omega)]; exact c2
  have o3 : ∀ j, j < 28 → (g3 j).oneCell' = true := fun j hj => by rw [e3 j hj]; split <;> exact o2 _ (by omega)
  have one3 : ∀ off' m', off' + m' ≤ 28 → Ones ((List.range m').map fun j => g3 (off' + j)) := fun off' m' hm u hu => by
    obtain ⟨j, hj, rfl⟩ := List.mem_map.1 hu
    exact o3 _ (by have := List.mem_range.1 hj; omega)
  refine WL.nil (WQ.dk (.inl rfl) ?_)
  refine WD.done (by kernel_rfl) ?_
  repeat (first | refine WC.seq ?_ | refine WC.block ?_ | refine WC.region ?_ | refine WL.nil ?_ | refine WC.skip ?_ | refine WC.exit ?_ | refine WC.ret ?_ | refine WQ.then rfl ?_ | refine WQ.thenExit ?_ | refine WQ.thenRet ?_ | refine WQ.blk ?_ | refine WQ.blkRet ?_ | refine WQ.blkHere rfl ?_ | refine WQ.blkOther rfl ?_)
  refine WC.drawn 20 (fun _ => True) fun u3 hd => ?_
  have v3' := v3.below (hd.below _) v3.lt
  have K3' := K3.trans (Keep.ofDrew hd (fun x => x ≠ b))
  clear hd v3 K3
  have hS : True := trivial
  (((first | refine WD.free 0 rfl (by kernel_rfl) rfl rfl (fun _ _ _ _ _ h => h) rfl rfl (.inr hS) ?_ | refine WD.skip 0 rfl (by kernel_rfl) rfl rfl (fun _ _ _ _ _ h => h) rfl (.inr hS) ?_); try (first | ((with_reducible refine WD.topT ?_ ?_); omega) | ((with_reducible refine WD.topF ?_ ?_); omega) | ((with_reducible refine WD.top64 ?_ ?_); omega))); ((first | refine WD.free 1 rfl (by kernel_rfl) rfl rfl (fun _ _ _ _ _ h => h) rfl rfl (.inr hS) ?_ | refine WD.skip 1 rfl (by kernel_rfl) rfl rfl (fun _ _ _ _ _ h => h) rfl (.inr hS) ?_); try (first | ((with_reducible refine WD.topT ?_ ?_); omega) | ((with_reducible refine WD.topF ?_ ?_); omega) | ((with_reducible refine WD.top64 ?_ ?_); omega))); ((first | refine WD.free 2 rfl (by kernel_rfl) rfl rfl (fun _ _ _ _ _ h => h) rfl rfl (.inr hS) ?_ | refine WD.skip 2 rfl (by kernel_rfl) rfl rfl (fun _ _ _ _ _ h => h) rfl (.inr hS) ?_); try (first | ((with_reducible refine WD.topT ?_ ?_); omega) | ((with_reducible refine WD.topF ?_ ?_); omega) | ((with_reducible refine WD.top64 ?_ ?_); omega))); ((first | refine WD.free 3 rfl (by kernel_rfl) rfl rfl (fun _ _ _ _ _ h => h) rfl rfl (.inr hS) ?_ | refine WD.skip 3 rfl (by kernel_rfl) rfl rfl (fun _ _ _ _ _ h => h) rfl (.inr hS) ?_); try (first | ((with_reducible refine WD.topT ?_ ?_); omega) | ((with_reducible refine WD.topF ?_ ?_); omega) | ((with_reducible refine WD.top64 ?_ ?_); omega))); ((first | refine WD.free 4 rfl (by kernel_rfl) rfl rfl (fun _ _ _ _ _ h => h) rfl rfl (.inr hS) ?_ | refine WD.skip 4 rfl (by kernel_rfl) rfl rfl (fun _ _ _ _ _ h => h) rfl (.inr hS) ?_); try (first | ((with_reducible refine WD.topT ?_ ?_); omega) | ((with_reducible refine WD.topF ?_ ?_); omega) | ((with_reducible refine WD.top64 ?_ ?_); omega))); ((first | refine WD.free 5 rfl (by kernel_rfl) rfl rfl (fun _ _ _ _ _ h => h) rfl rfl (.inr hS) ?_ | refine WD.skip 5 rfl (by kernel_rfl) rfl rfl (fun _ _ _ _ _ h => h) rfl (.inr hS) ?_); try (first | ((with_reducible refine WD.topT ?_ ?_); omega) | ((with_reducible refine WD.topF ?_ ?_); omega) | ((with_reducible refine WD.top64 ?_ ?_); omega))); ((first | refine WD.free 6 rfl (by kernel_rfl) rfl rfl (fun _ _ _ _ _ h => h) rfl rfl (.inr hS) ?_ | refine WD.skip 6 rfl (by kernel_rfl) rfl rfl (fun _ _ _ _ _ h => h) rfl (.inr hS) ?_); try (first | ((with_reducible refine WD.topT ?_ ?_); omega) | ((with_reducible refine WD.topF ?_ ?_); omega) | ((with_reducible refine WD.top64 ?_ ?_); omega))); ((first | refine WD.free 7 rfl (by kernel_rfl) rfl rfl (fun _ _ _ _ _ h => h) rfl rfl (.inr hS) ?_ | refine WD.skip 7 rfl (by kernel_rfl) rfl rfl (fun _ _ _ _ _ h => h) rfl (.inr hS) ?_); try (first | ((with_reducible refine WD.topT ?_ ?_); omega) | ((with_reducible refine WD.topF ?_ ?_); omega) | ((with_reducible refine WD.top64 ?_ ?_); omega))); ((first | refine WD.free 8 rfl (by kernel_rfl) rfl rfl (fun _ _ _ _ _ h => h) rfl rfl (.inr hS) ?_ | refine WD.skip 8 rfl (by kernel_rfl) rfl rfl (fun _ _ _ _ _ h => h) rfl (.inr hS) ?_); try (first | ((with_reducible refine WD.topT ?_ ?_); omega) | ((with_reducible refine WD.topF ?_ ?_); omega) | ((with_reducible refine WD.top64 ?_ ?_); omega))); ((first | refine WD.free 9 rfl (by kernel_rfl) rfl rfl (fun _ _ _ _ _ h => h) rfl rfl (.inr hS) ?_ | refine WD.skip 9 rfl (by kernel_rfl) rfl rfl (fun _ _ _ _ _ h => h) rfl (.inr hS) ?_); try (first | ((with_reducible refine WD.topT ?_ ?_); omega) | ((with_reducible refine WD.topF ?_ ?_); omega) | ((with_reducible refine WD.top64 ?_ ?_); omega))); ((first | refine WD.free 10 rfl (by kernel_rfl) rfl rfl (fun _ _ _ _ _ h => h) rfl rfl (.inr hS) ?_ | refine WD.skip 10 rfl (by kernel_rfl) rfl rfl (fun _ _ _ _ _ h => h) rfl (.inr hS) ?_); try (first | ((with_reducible refine WD.topT ?_ ?_); omega) | ((with_reducible refine WD.topF ?_ ?_); omega) | ((with_reducible refine WD.top64 ?_ ?_); omega))))
  refine WD.idxA 11 i (2 + i) rfl (by kernel_rfl) rfl rfl (fun _ _ _ _ _ h => h) rfl rfl rfl rfl rfl rfl (by omega) (by omega) (.inr hS) ?_
  (((first | refine WD.free 13 rfl (by kernel_rfl) rfl rfl (fun _ _ _ _ _ h => h) rfl rfl (.inr hS) ?_ | refine WD.skip 13 rfl (by kernel_rfl) rfl rfl (fun _ _ _ _ _ h => h) rfl (.inr hS) ?_); try (first | ((with_reducible refine WD.topT ?_ ?_); omega) | ((with_reducible refine WD.topF ?_ ?_); omega) | ((with_reducible refine WD.top64 ?_ ?_); omega))); ((first | refine WD.free 14 rfl (by kernel_rfl) rfl rfl (fun _ _ _ _ _ h => h) rfl rfl (.inr hS) ?_ | refine WD.skip 14 rfl (by kernel_rfl) rfl rfl (fun _ _ _ _ _ h => h) rfl (.inr hS) ?_); try (first | ((with_reducible refine WD.topT ?_ ?_); omega) | ((with_reducible refine WD.topF ?_ ?_); omega) | ((with_reducible refine WD.top64 ?_ ?_); omega))); ((first | refine WD.free 17 rfl (by kernel_rfl) rfl rfl (fun _ _ _ _ _ h => h) rfl rfl (.inr hS) ?_ | refine WD.skip 17 rfl (by kernel_rfl) rfl rfl (fun _ _ _ _ _ h => h) rfl (.inr hS) ?_); try (first | ((with_reducible refine WD.topT ?_ ?_); omega) | ((with_reducible refine WD.topF ?_ ?_); omega) | ((with_reducible refine WD.top64 ?_ ?_); omega))); ((first | refine WD.free 18 rfl (by kernel_rfl) rfl rfl (fun _ _ _ _ _ h => h) rfl rfl (.inr hS) ?_ | refine WD.skip 18 rfl (by kernel_rfl) rfl rfl (fun _ _ _ _ _ h => h) rfl (.inr hS) ?_); try (first | ((with_reducible refine WD.topT ?_ ?_); omega) | ((with_reducible refine WD.topF ?_ ?_); omega) | ((with_reducible refine WD.top64 ?_ ?_); omega))))
  refine WD.one 12 (by kernel_rfl) rfl ?_
  refine WL.store rfl rfl rfl rfl rfl rfl (by kernel_rfl) (cellR v3' (by omega)) (v3'.free _) ?_
  have v4 := setR v3' (2 + i) (.string key)
  have K4 := keepR K3' (2 + i) (.string key)
  generalize u3.setCell ⟨b, 2 + i, none⟩ (.string key) = x4 at v4 K4 ⊢
  clear v3' K3'
  refine WL.nil (WQ.dk (.inr hS) ?_)
  refine WD.idxA 15 i (10 + i) rfl (by kernel_rfl) rfl rfl (fun _ _ _ _ _ h => h) rfl rfl rfl rfl rfl rfl (by omega) (by omega) (.inr hS) ?_
  refine WD.one 16 (by kernel_rfl) rfl ?_
  refine WL.store rfl rfl rfl rfl rfl rfl (by kernel_rfl) (cellR v4 (by omega)) (v4.free _) ?_
  have v5 := setR v4 (10 + i) (.int .i64 n)
  have K5 := keepR K4 (10 + i) (.int .i64 n)
  generalize x4.setCell ⟨b, 10 + i, none⟩ (.int .i64 n) = x5 at v5 K5 ⊢
  clear v4 K4
  refine WL.nil (WQ.dk (.inr hS) ?_)
  refine WD.idxA 19 i (18 + i) rfl (by kernel_rfl) rfl rfl (fun _ _ _ _ _ h => h) rfl rfl rfl rfl rfl rfl (by omega) (by omega) (.inr hS) ?_
  refine WD.one 20 (by kernel_rfl) rfl ?_
  refine WL.store rfl rfl rfl rfl rfl (ptrV_one _) (by kernel_rfl) (cellR v5 (by omega)) (v5.free _) ?_
  have v6 := setR v5 (18 + i) (ptrV kid)
  have K6 := keepR K5 (18 + i) (ptrV kid)
  generalize x5.setCell ⟨b, 18 + i, none⟩ (ptrV kid) = x6 at v6 K6 ⊢
  clear v5 K5
  refine WL.nil (WQ.dk (.inl rfl) ?_)
  refine WD.done (by kernel_rfl) ?_
  have hc6 := cellR v6 (j := 1) (by omega)
  simp only [show ¬ (1 = 18 + i) by omega, show ¬ (1 = 10 + i) by omega, show ¬ (1 = 2 + i) by omega, if_false] at hc6
  rw [c3] at hc6
  repeat (first | ((with_reducible refine WL.topT ?_ ?_); omega) | ((with_reducible refine WL.topF ?_ ?_); omega) | ((with_reducible refine WL.top64 ?_ ?_); omega) | refine WC.seq ?_ | refine WC.block ?_ | refine WC.region ?_ | refine WL.nil ?_ | refine WC.skip ?_ | refine WC.exit ?_ | refine WC.ret ?_ | refine WQ.then rfl ?_ | refine WQ.thenExit ?_ | refine WQ.thenRet ?_ | refine WQ.blk ?_ | refine WQ.blkRet ?_ | refine WQ.blkHere rfl ?_ | refine WQ.blkOther rfl ?_ | refine WL.pure rfl rfl rfl rfl ?_ | refine WL.on rfl rfl ?_ | refine WL.off rfl rfl rfl ?_ | refine WL.load rfl rfl rfl rfl rfl rfl (by assumption) ?_ | refine WC.condTrue rfl ?_ | refine WC.condFalse rfl ?_)
  refine WL.store rfl rfl rfl rfl rfl rfl (by kernel_rfl) hc6 (v6.free _) ?_
  have v7 := setR v6 1 (.int .i64 (N + 1))
  have K7 := keepR K6 1 (.int .i64 (N + 1))
  generalize x6.setCell ⟨b, 1, none⟩ (.int .i64 (N + 1)) = x7 at v7 K7 ⊢
  repeat (first | ((with_reducible refine WL.topT ?_ ?_); omega) | ((with_reducible refine WL.topF ?_ ?_); omega) | ((with_reducible refine WL.top64 ?_ ?_); omega) | refine WC.seq ?_ | refine WC.block ?_ | refine WC.region ?_ | refine WL.nil ?_ | refine WC.skip ?_ | refine WC.exit ?_ | refine WC.ret ?_ | refine WQ.then rfl ?_ | refine WQ.thenExit ?_ | refine WQ.thenRet ?_ | refine WQ.blk ?_ | refine WQ.blkRet ?_ | refine WQ.blkHere rfl ?_ | refine WQ.blkOther rfl ?_ | refine WL.pure rfl rfl rfl rfl ?_ | refine WL.on rfl rfl ?_ | refine WL.off rfl rfl rfl ?_ | refine WC.condTrue rfl ?_ | refine WC.condFalse rfl ?_)
  refine WQ.end0 rfl ⟨rfl, K7, ?_⟩
  have hrow : ∀ j, j < 28 → (fun i_1 => if i_1 = 1 then Value.int .i64 (N + 1) else if i_1 = 18 + i then ptrV kid else if i_1 = 10 + i then .int .i64 n else if i_1 = 2 + i then .string key else g3 i_1) j = ndF { nd with es := ins nd.es i ⟨key, n, kid⟩ } pv j := by
    have seg : ∀ (off : Nat) (f : En → Value), (∀ q, q < 8 → g0 (off + q) = f (nd.es.getD q noE)) → (∀ q, q < 8 → g3 (off + q) = if off + i + 1 ≤ off + q ∧ off + q < off + N + 1 then g0 (off + q - 1) else g0 (off + q)) →
        ∀ q, q < 8 → q ≠ i → g3 (off + q) = f ((ins nd.es i ⟨key, n, kid⟩).getD q noE) := by
      intro off f hf hg q hq hqi
      rw [hg q hq, ins_get nd.es _ (by omega)]
      by_cases h1 : q < i
      · rw [if_neg (by omega), if_pos h1, hf q hq]
      · rw [if_neg h1, if_neg hqi]
        by_cases h2 : q ≤ N
        · rw [if_pos (by omega), show off + q - 1 = off + (q - 1) by omega, hf _ (by omega)]
        · rw [if_neg (by omega), hf q hq, getD_far nd.es (by omega), getD_far nd.es (by omega)]
    have hk : ∀ q, q < 8 → g0 (2 + q) = .string (nd.es.getD q noE).key := fun q hq => by rw [← hg0, ndF_key _ _ hq]
    have hm : ∀ q, q < 8 → g0 (10 + q) = .int .i64 (nd.es.getD q noE).num := fun q hq => by rw [← hg0, ndF_num _ _ hq]
    have hc : ∀ q, q < 8 → g0 (18 + q) = ptrV (nd.es.getD q noE).kid := fun q hq => by rw [← hg0, ndF_kid _ _ hq]
    have s1 := seg 2 (fun e => .string e.key) hk fun q hq => by rw [e3 _ (by omega), if_neg (by omega), e2 _ (by omega), if_neg (by omega), e1 _ (by omega)]
    have s2 := seg 10 (fun e => .int .i64 e.num) hm fun q hq => by
      rw [e3 _ (by omega), if_neg (by omega), e2 _ (by omega)]
      split
      · rw [e1 _ (by omega), if_neg (by omega)]
      · rw [e1 _ (by omega), if_neg (by omega)]
    have s3 := seg 18 (fun e => ptrV e.kid) hc fun q hq => by
      rw [e3 _ (by omega)]
      split
      · rw [e2 _ (by omega), if_neg (by omega), e1 _ (by omega), if_neg (by omega)]
      · rw [e2 _ (by omega), if_neg (by omega), e1 _ (by omega), if_neg (by omega)]
    have g30 : ∀ j, j < 2 ∨ 26 ≤ j → j < 28 → g3 j = g0 j := fun j h h2 => by rw [e3 _ h2, if_neg (by omega), e2 _ h2, if_neg (by omega), e1 _ h2, if_neg (by omega)]
    have hi' : (ins nd.es i ⟨key, n, kid⟩).getD i noE = ⟨key, n, kid⟩ := by rw [ins_get nd.es _ (by omega), if_neg (by omega), if_pos rfl]
    have hl' : (ins nd.es i ⟨key, n, kid⟩).length = N + 1 := by rw [ins_len nd.es _ (by omega), hN]
    intro j hj
    show (if j = 1 then Value.int IntKind.i64 (N + 1) else if j = 18 + i then ptrV kid else if j = 10 + i then .int .i64 n else if j = 2 + i then .string key else g3 j) = _
    by_cases j0 : j = 0
    · subst j0; rw [if_neg (by omega), if_neg (by omega), if_neg (by omega), if_neg (by omega), g30 0 (by omega) (by omega), ← hg0]; rfl
    by_cases j1 : j = 1
    · subst j1; rw [if_pos rfl, ndF_cnt, hl']; rfl
    by_cases j2 : j < 10
    · obtain ⟨q, rfl⟩ : ∃ q, j = 2 + q := ⟨j - 2, by omega⟩
      rw [ndF_key _ _ (by omega), if_neg j1, if_neg (by omega), if_neg (by omega)]
      by_cases hq : q = i
      · subst hq; rw [if_pos rfl, hi']
      · rw [if_neg (by omega)]; exact s1 q (by omega) hq
    by_cases j3 : j < 18
    · obtain ⟨q, rfl⟩ : ∃ q, j = 10 + q := ⟨j - 10, by omega⟩
      rw [ndF_num _ _ (by omega), if_neg j1, if_neg (by omega)]
      by_cases hq : q = i
      · subst hq; rw [if_pos rfl, hi']
      · rw [if_neg (by omega), if_neg (by omega)]; exact s2 q (by omega) hq
    by_cases j4 : j < 26
    · obtain ⟨q, rfl⟩ : ∃ q, j = 18 + q := ⟨j - 18, by omega⟩
      rw [ndF_kid _ _ (by omega), if_neg j1]
      by_cases hq : q = i
      · subst hq; rw [if_pos rfl, hi']
      · rw [if_neg (by omega), if_neg (by omega), if_neg (by omega)]; exact s3 q (by omega) hq
    · rw [if_neg j1, if_neg (by omega), if_neg (by omega), if_neg (by omega), g30 j (by omega) hj, ← hg0]
      unfold ndF
      rw [if_neg j0, if_neg j1, if_neg j2, if_neg j3, if_neg j4, if_neg j0, if_neg j1, if_neg j2, if_neg j3, if_neg j4]
  rw [← rowOf_ext hrow]
  exact v7
end K
end Go.Proofs.Ytilmfnlaenneeaa

/- Nodes (chapter 13): cut. -/
namespace Go.Proofs.Ytilmfnlaenneeaa
open Go.RowKit
namespace K
open Tre
set_option maxRecDepth 20000 in
set_option maxHeartbeats 2000000 in
theorem ncut_any {w : World} {b i : Nat} {nd : Nd} {pv : Option Nat} (hb : VBlk nodeT w b (rowOf (ndF nd pv))) (hi : i < nd.es.length) (hn : nd.es.length ≤ 8) :
    Calls Try.prog 38 #[.pointer (some ⟨b, 0, none⟩), .int .i64 i] w fun e w' => e = .returned (.tuple #[]) ∧ Keep (fun x => x ≠ b) w w' ∧ VBlk nodeT w' b (rowOf (ndF { nd with es := era nd.es i } pv)) := by
  refine enter (args := [.pointer (some ⟨b, 0, none⟩), .int .i64 i]) Try.func38 rfl Try.ntmps38 rfl ?_
  obtain ⟨g0, hg0⟩ : ∃ g0, ndF nd pv = g0 := ⟨_, rfl⟩
  obtain ⟨N, hN⟩ : ∃ N, nd.es.length = N := ⟨_, rfl⟩
  rw [hg0] at hb
  rw [hN] at hi hn
  have c0 : g0 1 = .int .i64 N := by rw [← hg0, ndF_cnt, hN]
  have step : ∀ {wx : World} {g : Nat → Value} (off : Nat), 2 ≤ off → off + 8 ≤ 26 → VBlk nodeT wx b (rowOf g) → ∃ g', VBlk nodeT (wx.setRow b ((rowOf g).take (cutOff 8 i (0 + off) 1) ++ (List.range (N - (i + 1))).map (fun j => g (cutOff 8 (i + 1) (0 + off) 1 + j)) ++ (rowOf g).drop (cutOff 8 i (0 + off) 1 + ((List.range (N - (i + 1))).map (fun j => g (cutOff 8 (i + 1) (0 + off) 1 + j))).length)).toArray) b (rowOf g') ∧
      ∀ j, j < 28 → g' j = if off + i ≤ j ∧ j + 1 < off + N then g (j + 1) else g j := by
    intro wx g off h1 h2 hv
    have e1 : cutOff 8 i (0 + off) 1 = off + i := by unfold cutOff; split <;> omega
    rw [rowOf_part g _ _ _ (by rw [e1]; omega), e1]
    refine ⟨_, hv.setRow _, fun j hj => ?_⟩
    by_cases e : 8 = i + 1
    · rw [if_neg (by omega), if_neg (by omega)]
    · rw [show cutOff 8 (i + 1) (0 + off) 1 = off + i + 1 by unfold cutOff; split <;> omega]
      by_cases c : off + i ≤ j ∧ j + 1 < off + N
      · rw [if_pos (by omega), if_pos c]
        congr 1
        omega
      · rw [if_neg (by omega), if_neg c]
  have o0 : ∀ j, j < 28 → (g0 j).oneCell' = true := fun j _ => by rw [← hg0]; exact ndF_one _ _ _
  have K0 := Keep.refl (fun x => x ≠ b) w
  repeat (first | refine WC.seq ?_ | refine WC.block ?_ | refine WC.region ?_ | refine WL.nil ?_ | refine WC.skip ?_ | refine WC.exit ?_ | refine WC.ret ?_ | refine WQ.then rfl ?_ | refine WQ.thenExit ?_ | refine WQ.thenRet ?_ | refine WQ.blk ?_ | refine WQ.blkRet ?_ | refine WQ.blkHere rfl ?_ | refine WQ.blkOther rfl ?_)
  refine WC.drawn 15 (fun wx => VBlk nodeT wx b (rowOf g0)) fun u0 hd => ?_
  have hS := hb.below (hd.below _) hb.lt
  have K0' := K0.trans (Keep.ofDrew hd (fun x => x ≠ b))
  clear hd hb K0
  (((first | refine WD.free 0 rfl (by kernel_rfl) rfl rfl (fun _ _ _ _ _ h => h) rfl rfl (.inr hS) ?_ | refine WD.skip 0 rfl (by kernel_rfl) rfl rfl (fun _ _ _ _ _ h => h) rfl (.inr hS) ?_); try (first | ((with_reducible refine WD.topT ?_ ?_); omega) | ((with_reducible refine WD.topF ?_ ?_); omega) | ((with_reducible refine WD.top64 ?_ ?_); omega))); ((first | refine WD.free 1 rfl (by kernel_rfl) rfl rfl (fun _ _ _ _ _ h => h) rfl rfl (.inr hS) ?_ | refine WD.skip 1 rfl (by kernel_rfl) rfl rfl (fun _ _ _ _ _ h => h) rfl (.inr hS) ?_); try (first | ((with_reducible refine WD.topT ?_ ?_); omega) | ((with_reducible refine WD.topF ?_ ?_); omega) | ((with_reducible refine WD.top64 ?_ ?_); omega))); ((first | refine WD.free 2 rfl (by kernel_rfl) rfl rfl (fun _ _ _ _ _ h => h) rfl rfl (.inr hS) ?_ | refine WD.skip 2 rfl (by kernel_rfl) rfl rfl (fun _ _ _ _ _ h => h) rfl (.inr hS) ?_); try (first | ((with_reducible refine WD.topT ?_ ?_); omega) | ((with_reducible refine WD.topF ?_ ?_); omega) | ((with_reducible refine WD.top64 ?_ ?_); omega))); ((first | refine WD.free 3 rfl (by kernel_rfl) rfl rfl (fun _ _ _ _ _ h => h) rfl rfl (.inr hS) ?_ | refine WD.skip 3 rfl (by kernel_rfl) rfl rfl (fun _ _ _ _ _ h => h) rfl (.inr hS) ?_); try (first | ((with_reducible refine WD.topT ?_ ?_); omega) | ((with_reducible refine WD.topF ?_ ?_); omega) | ((with_reducible refine WD.top64 ?_ ?_); omega))))
  refine WD.cutL 4 i rfl (by kernel_rfl) rfl rfl (fun _ _ _ _ _ h => h) rfl rfl rfl rfl rfl rfl (by omega) (.inr hS) ?_
  (((first | refine WD.free 5 rfl (by kernel_rfl) rfl rfl (fun _ _ _ _ _ h => h) rfl rfl (.inr hS) ?_ | refine WD.skip 5 rfl (by kernel_rfl) rfl rfl (fun _ _ _ _ _ h => h) rfl (.inr hS) ?_); try (first | ((with_reducible refine WD.topT ?_ ?_); omega) | ((with_reducible refine WD.topF ?_ ?_); omega) | ((with_reducible refine WD.top64 ?_ ?_); omega))); ((first | refine WD.free 6 rfl (by kernel_rfl) rfl rfl (fun _ _ _ _ _ h => h) rfl rfl (.inr hS) ?_ | refine WD.skip 6 rfl (by kernel_rfl) rfl rfl (fun _ _ _ _ _ h => h) rfl (.inr hS) ?_); try (first | ((with_reducible refine WD.topT ?_ ?_); omega) | ((with_reducible refine WD.topF ?_ ?_); omega) | ((with_reducible refine WD.top64 ?_ ?_); omega))); ((first | refine WD.free 7 rfl (by kernel_rfl) rfl rfl (fun _ _ _ _ _ h => h) rfl rfl (.inr hS) ?_ | refine WD.skip 7 rfl (by kernel_rfl) rfl rfl (fun _ _ _ _ _ h => h) rfl (.inr hS) ?_); try (first | ((with_reducible refine WD.topT ?_ ?_); omega) | ((with_reducible refine WD.topF ?_ ?_); omega) | ((with_reducible refine WD.top64 ?_ ?_); omega))); ((first | refine WD.free 8 rfl (by kernel_rfl) rfl rfl (fun _ _ _ _ _ h => h) rfl rfl (.inr hS) ?_ | refine WD.skip 8 rfl (by kernel_rfl) rfl rfl (fun _ _ _ _ _ h => h) rfl (.inr hS) ?_); try (first | ((with_reducible refine WD.topT ?_ ?_); omega) | ((with_reducible refine WD.topF ?_ ?_); omega) | ((with_reducible refine WD.top64 ?_ ?_); omega))); ((first | refine WD.free 9 rfl (by kernel_rfl) rfl rfl (fun _ _ _ _ _ h => h) rfl rfl (.inr hS) ?_ | refine WD.skip 9 rfl (by kernel_rfl) rfl rfl (fun _ _ _ _ _ h => h) rfl (.inr hS) ?_); try (first | ((with_reducible refine WD.topT ?_ ?_); omega) | ((with_reducible refine WD.topF ?_ ?_); omega) | ((with_reducible refine WD.top64 ?_ ?_); omega))); ((first | refine WD.free 10 rfl (by kernel_rfl) rfl rfl (fun _ _ _ _ _ h => h) rfl rfl (.inr hS) ?_ | refine WD.skip 10 rfl (by kernel_rfl) rfl rfl (fun _ _ _ _ _ h => h) rfl (.inr hS) ?_); try (first | ((with_reducible refine WD.topT ?_ ?_); omega) | ((with_reducible refine WD.topF ?_ ?_); omega) | ((with_reducible refine WD.top64 ?_ ?_); omega))); ((first | refine WD.free 11 rfl (by kernel_rfl) rfl rfl (fun _ _ _ _ _ h => h) rfl rfl (.inr hS) ?_ | refine WD.skip 11 rfl (by kernel_rfl) rfl rfl (fun _ _ _ _ _ h => h) rfl (.inr hS) ?_); try (first | ((with_reducible refine WD.topT ?_ ?_); omega) | ((with_reducible refine WD.topF ?_ ?_); omega) | ((with_reducible refine WD.top64 ?_ ?_); omega))); ((first | refine WD.free 12 rfl (by kernel_rfl) rfl rfl (fun _ _ _ _ _ h => h) rfl rfl (.inr hS) ?_ | refine WD.skip 12 rfl (by kernel_rfl) rfl rfl (fun _ _ _ _ _ h => h) rfl (.inr hS) ?_); try (first | ((with_reducible refine WD.topT ?_ ?_); omega) | ((with_reducible refine WD.topF ?_ ?_); omega) | ((with_reducible refine WD.top64 ?_ ?_); omega))))
  refine WD.load 13 [14, 15] rfl (by kernel_rfl) rfl rfl (fun _ _ _ _ _ h => h) rfl rfl rfl rfl (fun wx hx => (cellR hx (j := 1) (by omega)).trans (congrArg some c0)) hS ?_
  refine WD.cutA 14 (i + 1) N rfl (by kernel_rfl) rfl rfl (fun _ _ _ _ _ h => h) rfl rfl rfl rfl rfl rfl (by omega) (by omega) (by omega) (by omega) (.inr hS) ?_
  refine WD.one 15 (by kernel_rfl) rfl ?_
  obtain ⟨g1, v1, e1⟩ := step 2 (by omega) (by omega) hS
  have K1 := keepSetRow K0' (fun hk => hk rfl) ((rowOf g0).take (cutOff 8 i (0 + 2) 1) ++ (List.range (N - (i + 1))).map (fun j => g0 (cutOff 8 (i + 1) (0 + 2) 1 + j)) ++ (rowOf g0).drop (cutOff 8 i (0 + 2) 1 + ((List.range (N - (i + 1))).map (fun j => g0 (cutOff 8 (i + 1) (0 + 2) 1 + j))).length)).toArray
  have one0 : Ones ((List.range (N - (i + 1))).map fun j => g0 (cutOff 8 (i + 1) (0 + 2) 1 + j)) := fun u hu => by
    obtain ⟨j, hj, rfl⟩ := List.mem_map.1 hu
    exact o0 _ (by have := List.mem_range.1 hj; unfold cutOff; split <;> omega)
  have hr0 := partR hS (cutOff 8 (i + 1) (0 + 2) 1) (N - (i + 1)) (by unfold cutOff; split <;> omega)
  refine WL.copyV (vs := (List.range (N - (i + 1))).map (fun j => g0 (cutOff 8 (i + 1) (0 + 2) 1 + j))) rfl rfl rfl rfl rfl rfl rfl hS (by simp; omega) hr0 (by rw [rowOf_len]; simp; unfold cutOff; split <;> omega) one0 ?_
  generalize u0.setRow b ((rowOf g0).take (cutOff 8 i (0 + 2) 1) ++ (List.range (N - (i + 1))).map (fun j => g0 (cutOff 8 (i + 1) (0 + 2) 1 + j)) ++ (rowOf g0).drop (cutOff 8 i (0 + 2) 1 + ((List.range (N - (i + 1))).map (fun j => g0 (cutOff 8 (i + 1) (0 + 2) 1 + j))).length)).toArray = x0 at v1 K1 ⊢
  clear hS K0' hr0 one0
  have c1 : g1 1 = .int .i64 N := by rw [e1 1 (by omega), if_neg (by omega)]; exact c0
  have o1 : ∀ j, j < 28 → (g1 j).oneCell' = true := fun j hj => by rw [e1 j hj]; split <;> exact o0 _ (by omega)
  refine WL.nil (WQ.dk (.inl rfl) ?_)
  refine WD.done (by kernel_rfl) ?_
  repeat (first | refine WC.seq ?_ | refine WC.block ?_ | refine WC.region ?_ | refine WL.nil ?_ | refine WC.skip ?_ | refine WC.exit ?_ | refine WC.ret ?_ | refine WQ.then rfl ?_ | refine WQ.thenExit ?_ | refine WQ.thenRet ?_ | refine WQ.blk ?_ | refine WQ.blkRet ?_ | refine WQ.blkHere rfl ?_ | refine WQ.blkOther rfl ?_)
  refine WC.drawn 15 (fun wx => VBlk nodeT wx b (rowOf g1)) fun u1 hd => ?_
  have hS := v1.below (hd.below _) v1.lt
  have K1' := K1.trans (Keep.ofDrew hd (fun x => x ≠ b))
  clear hd v1 K1
  (((first | refine WD.free 0 rfl (by kernel_rfl) rfl rfl (fun _ _ _ _ _ h => h) rfl rfl (.inr hS) ?_ | refine WD.skip 0 rfl (by kernel_rfl) rfl rfl (fun _ _ _ _ _ h => h) rfl (.inr hS) ?_); try (first | ((with_reducible refine WD.topT ?_ ?_); omega) | ((with_reducible refine WD.topF ?_ ?_); omega) | ((with_reducible refine WD.top64 ?_ ?_); omega))); ((first | refine WD.free 1 rfl (by kernel_rfl) rfl rfl (fun _ _ _ _ _ h => h) rfl rfl (.inr hS) ?_ | refine WD.skip 1 rfl (by kernel_rfl) rfl rfl (fun _ _ _ _ _ h => h) rfl (.inr hS) ?_); try (first | ((with_reducible refine WD.topT ?_ ?_); omega) | ((with_reducible refine WD.topF ?_ ?_); omega) | ((with_reducible refine WD.top64 ?_ ?_); omega))); ((first | refine WD.free 2 rfl (by kernel_rfl) rfl rfl (fun _ _ _ _ _ h => h) rfl rfl (.inr hS) ?_ | refine WD.skip 2 rfl (by kernel_rfl) rfl rfl (fun _ _ _ _ _ h => h) rfl (.inr hS) ?_); try (first | ((with_reducible refine WD.topT ?_ ?_); omega) | ((with_reducible refine WD.topF ?_ ?_); omega) | ((with_reducible refine WD.top64 ?_ ?_); omega))); ((first | refine WD.free 3 rfl (by kernel_rfl) rfl rfl (fun _ _ _ _ _ h => h) rfl rfl (.inr hS) ?_ | refine WD.skip 3 rfl (by kernel_rfl) rfl rfl (fun _ _ _ _ _ h => h) rfl (.inr hS) ?_); try (first | ((with_reducible refine WD.topT ?_ ?_); omega) | ((with_reducible refine WD.topF ?_ ?_); omega) | ((with_reducible refine WD.top64 ?_ ?_); omega))))
  refine WD.cutL 4 i rfl (by kernel_rfl) rfl rfl (fun _ _ _ _ _ h => h) rfl rfl rfl rfl rfl rfl (by omega) (.inr hS) ?_
  (((first | refine WD.free 5 rfl (by kernel_rfl) rfl rfl (fun _ _ _ _ _ h => h) rfl rfl (.inr hS) ?_ | refine WD.skip 5 rfl (by kernel_rfl) rfl rfl (fun _ _ _ _ _ h => h) rfl (.inr hS) ?_); try (first | ((with_reducible refine WD.topT ?_ ?_); omega) | ((with_reducible refine WD.topF ?_ ?_); omega) | ((with_reducible refine WD.top64 ?_ ?_); omega))); ((first | refine WD.free 6 rfl (by kernel_rfl) rfl rfl (fun _ _ _ _ _ h => h) rfl rfl (.inr hS) ?_ | refine WD.skip 6 rfl (by kernel_rfl) rfl rfl (fun _ _ _ _ _ h => h) rfl (.inr hS) ?_); try (first | ((with_reducible refine WD.topT ?_ ?_); omega) | ((with_reducible refine WD.topF ?_ ?_); omega) | ((with_reducible refine WD.top64 ?_ ?_); omega))); ((first | refine WD.free 7 rfl (by kernel_rfl) rfl rfl (fun _ _ _ _ _ h => h) rfl rfl (.inr hS) ?_ | refine WD.skip 7 rfl (by kernel_rfl) rfl rfl (fun _ _ _ _ _ h => h) rfl (.inr hS) ?_); try (first | ((with_reducible refine WD.topT ?_ ?_); omega) | ((with_reducible refine WD.topF ?_ ?_); omega) | ((with_reducible refine WD.top64 ?_ ?_); omega))); ((first | refine WD.free 8 rfl (by kernel_rfl) rfl rfl (fun _ _ _ _ _ h => h) rfl rfl (.inr hS) ?_ | refine WD.skip 8 rfl (by kernel_rfl) rfl rfl (fun _ _ _ _ _ h => h) rfl (.inr hS) ?_); try (first | ((with_reducible refine WD.topT ?_ ?_); omega) | ((with_reducible refine WD.topF ?_ ?_); omega) | ((with_reducible refine WD.top64 ?_ ?_); omega))); ((first | refine WD.free 9 rfl (by kernel_rfl) rfl rfl (fun _ _ _ _ _ h => h) rfl rfl (.inr hS) ?_ | refine WD.skip 9 rfl (by kernel_rfl) rfl rfl (fun _ _ _ _ _ h => h) rfl (.inr hS) ?_); try (first | ((with_reducible refine WD.topT ?_ ?_); omega) | ((with_reducible refine WD.topF ?_ ?_); omega) | ((with_reducible refine WD.top64 ?_ ?_); omega))); ((first | refine WD.free 10 rfl (by kernel_rfl) rfl rfl (fun _ _ _ _ _ h => h) rfl rfl (.inr hS) ?_ | refine WD.skip 10 rfl (by kernel_rfl) rfl rfl (fun _ _ _ _ _ h => h) rfl (.inr hS) ?_); try (first | ((with_reducible refine WD.topT ?_ ?_); omega) | ((with_reducible refine WD.topF ?_ ?_); omega) | ((with_reducible refine WD.top64 ?_ ?_); omega))); ((first | refine WD.free 11 rfl (by kernel_rfl) rfl rfl (fun _ _ _ _ _ h => h) rfl rfl (.inr hS) ?_ | refine WD.skip 11 rfl (by kernel_rfl) rfl rfl (fun _ _ _ _ _ h => h) rfl (.inr hS) ?_); try (first | ((with_reducible refine WD.topT ?_ ?_); omega) | ((with_reducible refine WD.topF ?_ ?_); omega) | ((with_reducible refine WD.top64 ?_ ?_); omega))); ((first | refine WD.free 12 rfl (by kernel_rfl) rfl rfl (fun _ _ _ _ _ h => h) rfl rfl (.inr hS) ?_ | refine WD.skip 12 rfl (by kernel_rfl) rfl rfl (fun _ _ _ _ _ h => h) rfl (.inr hS) ?_); try (first | ((with_reducible refine WD.topT ?_ ?_); omega) | ((with_reducible refine WD.topF ?_ ?_); omega) | ((with_reducible refine WD.top64 ?_ ?_); omega))))
  refine WD.load 13 [14, 15] rfl (by kernel_rfl) rfl rfl (fun _ _ _ _ _ h => h) rfl rfl rfl rfl (fun wx hx => (cellR hx (j := 1) (by omega)).trans (congrArg some c1)) hS ?_
  refine WD.cutA 14 (i + 1) N rfl (by kernel_rfl) rfl rfl (fun _ _ _ _ _ h => h) rfl rfl rfl rfl rfl rfl (by omega) (by omega) (by omega) (by omega) (.inr hS) ?_
  refine WD.one 15 (by kernel_rfl) rfl ?_
  obtain ⟨g2, v2, e2⟩ := step 10 (by omega) (by omega) hS
  have K2 := keepSetRow K1' (fun hk => hk rfl) ((rowOf g1).take (cutOff 8 i (0 + 10) 1) ++ (List.range (N - (i + 1))).map (fun j => g1 (cutOff 8 (i + 1) (0 + 10) 1 + j)) ++ (rowOf g1).drop (cutOff 8 i (0 + 10) 1 + ((List.range (N - (i + 1))).map (fun j => g1 (cutOff 8 (i + 1) (0 + 10) 1 + j))).length)).toArray
  have one1 : Ones ((List.range (N - (i + 1))).map fun j => g1 (cutOff 8 (i + 1) (0 + 10) 1 + j)) := fun u hu => by
    obtain ⟨j, hj, rfl⟩ := List.mem_map.1 hu
    exact o1 _ (by have := List.mem_range.1 hj; unfold cutOff; split <;> omega)
  have hr1 := partR hS (cutOff 8 (i + 1) (0 + 10) 1) (N - (i + 1)) (by unfold cutOff; split <;> omega)
  refine WL.copyV (vs := (List.range (N - (i + 1))).map (fun j => g1 (cutOff 8 (i + 1) (0 + 10) 1 + j))) rfl rfl rfl rfl rfl rfl rfl hS (by simp; omega) hr1 (by rw [rowOf_len]; simp; unfold cutOff; split <;> omega) one1 ?_
  generalize u1.setRow b ((rowOf g1).take (cutOff 8 i (0 + 10) 1) ++ (List.range (N - (i + 1))).map (fun j => g1 (cutOff 8 (i + 1) (0 + 10) 1 + j)) ++ (rowOf g1).drop (cutOff 8 i (0 + 10) 1 + ((List.range (N - (i + 1))).map (fun j => g1 (cutOff 8 (i + 1) (0 + 10) 1 + j))).length)).toArray = x1 at v2 K2 ⊢
  clear hS K1' hr1 one1
  have c2 : g2 1 = .int .i64 N := by rw [e2 1 (by omega), if_neg (by omega)]; exact c1
  have o2 : ∀ j, j < 28 → (g2 j).oneCell' = true := fun j hj => by rw [e2 j hj]; split <;> exact o1 _ (by omega)
  refine WL.nil (WQ.dk (.inl rfl) ?_)
  refine WD.done (by kernel_rfl) ?_
  repeat (first | refine WC.seq ?_ | refine WC.block ?_ | refine WC.region ?_ | refine WL.nil ?_ | refine WC.skip ?_ | refine WC.exit ?_ | refine WC.ret ?_ | refine WQ.then rfl ?_ | refine WQ.thenExit ?_ | refine WQ.thenRet ?_ | refine WQ.blk ?_ | refine WQ.blkRet ?_ | refine WQ.blkHere rfl ?_ | refine WQ.blkOther rfl ?_)
  refine WC.drawn 15 (fun wx => VBlk nodeT wx b (rowOf g2)) fun u2 hd => ?_
  have hS := v2.below (hd.below _) v2.lt
  have K2' := K2.trans (Keep.ofDrew hd (fun x => x ≠ b))
  clear hd v2 K2
  (((first | refine WD.free 0 rfl (by kernel_rfl) rfl rfl (fun _ _ _ _ _ h => h) rfl rfl (.inr hS) ?_ | refine WD.skip 0 rfl (by kernel_rfl) rfl rfl (fun _ _ _ _ _ h => h) rfl (.inr hS) ?_); try (first | ((with_reducible refine WD.topT ?_ ?_); omega) | ((with_reducible refine WD.topF ?_ ?_); omega) | ((with_reducible refine WD.top64 ?_ ?_); omega))); ((first | refine WD.free 1 rfl (by kernel_rfl) rfl rfl (fun _ _ _ _ _ h => h) rfl rfl (.inr hS) ?_ | refine WD.skip 1 rfl (by kernel_rfl) rfl rfl (fun _ _ _ _ _ h => h) rfl (.inr hS) ?_); try (first | ((with_reducible refine WD.topT ?_ ?_); omega) | ((with_reducible refine WD.topF ?_ ?_); omega) | ((with_reducible refine WD.top64 ?_ ?_); omega))); ((first | refine WD.free 2 rfl (by kernel_rfl) rfl rfl (fun _ _ _ _ _ h => h) rfl rfl (.inr hS) ?_ | refine WD.skip 2 rfl (by kernel_rfl) rfl rfl (fun _ _ _ _ _ h => h) rfl (.inr hS) ?_); try (first | ((with_reducible refine WD.topT ?_ ?_); omega) | ((with_reducible refine WD.topF ?_ ?_); omega) | ((with_reducible refine WD.top64 ?_ ?_); omega))); ((first | refine WD.free 3 rfl (by kernel_rfl) rfl rfl (fun _ _ _ _ _ h => h) rfl rfl (.inr hS) ?_ | refine WD.skip 3 rfl (by kernel_rfl) rfl rfl (fun _ _ _ _ _ h => h) rfl (.inr hS) ?_); try (first | ((with_reducible refine WD.topT ?_ ?_); omega) | ((with_reducible refine WD.topF ?_ ?_); omega) | ((with_reducible refine WD.top64 ?_ ?_); omega))))
  refine WD.cutL 4 i rfl (by kernel_rfl) rfl rfl (fun _ _ _ _ _ h => h) rfl rfl rfl rfl rfl rfl (by omega) (.inr hS) ?_
  (((first | refine WD.free 5 rfl (by kernel_rfl) rfl rfl (fun _ _ _ _ _ h => h) rfl rfl (.inr hS) ?_ | refine WD.skip 5 rfl (by kernel_rfl) rfl rfl (fun _ _ _ _ _ h => h) rfl (.inr hS) ?_); try (first | ((with_reducible refine WD.topT ?_ ?_); omega) | ((with_reducible refine WD.topF ?_ ?_); omega) | ((with_reducible refine WD.top64 ?_ ?_); omega))); ((first | refine WD.free 6 rfl (by kernel_rfl) rfl rfl (fun _ _ _ _ _ h => h) rfl rfl (.inr hS) ?_ | refine WD.skip 6 rfl (by kernel_rfl) rfl rfl (fun _ _ _ _ _ h => h) rfl (.inr hS) ?_); try (first | ((with_reducible refine WD.topT ?_ ?_); omega) | ((with_reducible refine WD.topF ?_ ?_); omega) | ((with_reducible refine WD.top64 ?_ ?_); omega))); ((first | refine WD.free 7 rfl (by kernel_rfl) rfl rfl (fun _ _ _ _ _ h => h) rfl rfl (.inr hS) ?_ | refine WD.skip 7 rfl (by kernel_rfl) rfl rfl (fun _ _ _ _ _ h => h) rfl (.inr hS) ?_); try (first | ((with_reducible refine WD.topT ?_ ?_); omega) | ((with_reducible refine WD.topF ?_ ?_); omega) | ((with_reducible refine WD.top64 ?_ ?_); omega))); ((first | refine WD.free 8 rfl (by kernel_rfl) rfl rfl (fun _ _ _ _ _ h => h) rfl rfl (.inr hS) ?_ | refine WD.skip 8 rfl (by kernel_rfl) rfl rfl (fun _ _ _ _ _ h => h) rfl (.inr hS) ?_); try (first | ((with_reducible refine WD.topT ?_ ?_); omega) | ((with_reducible refine WD.topF ?_ ?_); omega) | ((with_reducible refine WD.top64 ?_ ?_); omega))); ((first | refine WD.free 9 rfl (by kernel_rfl) rfl rfl (fun _ _ _ _ _ h => h) rfl rfl (.inr hS) ?_ | refine WD.skip 9 rfl (by kernel_rfl) rfl rfl (fun _ _ _ _ _ h => h) rfl (.inr hS) ?_); try (first | ((with_reducible refine WD.topT ?_ ?_); omega) | ((with_reducible refine WD.topF ?_ ?_); omega) | ((with_reducible refine WD.top64 ?_ ?_); omega))); ((first | refine WD.free 10 rfl (by kernel_rfl) rfl rfl (fun _ _ _ _ _ h => h) rfl rfl (.inr hS) ?_ | refine WD.skip 10 rfl (by kernel_rfl) rfl rfl (fun _ _ _ _ _ h => h) rfl (.inr hS) ?_); try (first | ((with_reducible refine WD.topT ?_ ?_); omega) | ((with_reducible refine WD.topF ?_ ?_); omega) | ((with_reducible refine WD.top64 ?_ ?_); omega))); ((first | refine WD.free 11 rfl (by kernel_rfl) rfl rfl (fun _ _ _ _ _ h => h) rfl rfl (.inr hS) ?_ | refine WD.skip 11 rfl (by kernel_rfl) rfl rfl (fun _ _ _ _ _ h => h) rfl (.inr hS) ?_); try (first | ((with_reducible refine WD.topT ?_ ?_); omega) | ((with_reducible refine WD.topF ?_ ?_); omega) | ((with_reducible refine WD.top64 ?_ ?_); omega))); ((first | refine WD.free 12 rfl (by kernel_rfl) rfl rfl (fun _ _ _ _ _ h => h) rfl rfl (.inr hS) ?_ | refine WD.skip 12 rfl (by kernel_rfl) rfl rfl (fun _ _ _ _ _ h => h) rfl (.inr hS) ?_); try (first | ((with_reducible refine WD.topT ?_ ?_); omega) | ((with_reducible refine WD.topF ?_ ?_); omega) | ((with_reducible refine WD.top64 ?_ ?_); omega))))
  refine WD.load 13 [14, 15] rfl (by kernel_rfl) rfl rfl (fun _ _ _ _ _ h => h) rfl rfl rfl rfl (fun wx hx => (cellR hx (j := 1) (by omega)).trans (congrArg some c2)) hS ?_
  refine WD.cutA 14 (i + 1) N rfl (by kernel_rfl) rfl rfl (fun _ _ _ _ _ h => h) rfl rfl rfl rfl rfl rfl (by omega) (by omega) (by omega) (by omega) (.inr hS) ?_
  refine WD.one 15 (by kernel_rfl) rfl ?_
  obtain ⟨g3, v3, e3⟩ := step 18 (by omega) (by omega) hS
  have K3 := keepSetRow K2' (fun hk => hk rfl) ((rowOf g2).take (cutOff 8 i (0 + 18) 1) ++ (List.range (N - (i + 1))).map (fun j => g2 (cutOff 8 (i + 1) (0 + 18) 1 + j)) ++ (rowOf g2).drop (cutOff 8 i (0 + 18) 1 + ((List.range (N - (i + 1))).map (fun j => g2 (cutOff 8 (i + 1) (0 + 18) 1 + j))).length)).toArray
  have one2 : Ones ((List.range (N - (i + 1))).map fun j => g2 (cutOff 8 (i + 1) (0 + 18) 1 + j)) := fun u hu => by
    obtain ⟨j, hj, rfl⟩ := List.mem_map.1 hu
    exact o2 _ (by have := List.mem_range.1 hj; unfold cutOff; split <;> omega)
  have hr2 := partR hS (cutOff 8 (i + 1) (0 + 18) 1) (N - (i + 1)) (by unfold cutOff; split <;> omega)
  refine WL.copyV (vs := (List.range (N - (i + 1))).map (fun j => g2 (cutOff 8 (i + 1) (0 + 18) 1 + j))) rfl rfl rfl rfl rfl rfl rfl hS (by simp; omega) hr2 (by rw [rowOf_len]; simp; unfold cutOff; split <;> omega) one2 ?_
  generalize u2.setRow b ((rowOf g2).take (cutOff 8 i (0 + 18) 1) ++ (List.range (N - (i + 1))).map (fun j => g2 (cutOff 8 (i + 1) (0 + 18) 1 + j)) ++ (rowOf g2).drop (cutOff 8 i (0 + 18) 1 + ((List.range (N - (i + 1))).map (fun j => g2 (cutOff 8 (i + 1) (0 + 18) 1 + j))).length)).toArray = x2 at v3 K3 ⊢
  clear hS K2' hr2 one2
  have c3 : g3 1 = .int .i64 N := by rw [e3 1 (by omega), if_neg (by omega)]; exact c2
  have o3 : ∀ j, j < 28 → (g3 j).oneCell' = true := fun j hj => by rw [e3 j hj]; split <;> exact o2 _ (by omega)
  refine WL.nil (WQ.dk (.inl rfl) ?_)
  refine WD.done (by kernel_rfl) ?_
  repeat (first | refine WC.seq ?_ | refine WC.block ?_ | refine WC.region ?_ | refine WL.nil ?_ | refine WC.skip ?_ | refine WC.exit ?_ | refine WC.ret ?_ | refine WQ.then rfl ?_ | refine WQ.thenExit ?_ | refine WQ.thenRet ?_ | refine WQ.blk ?_ | refine WQ.blkRet ?_ | refine WQ.blkHere rfl ?_ | refine WQ.blkOther rfl ?_)
  have hc3 := cellR v3 (j := 1) (by omega)
  rw [c3] at hc3
  repeat (first | ((with_reducible refine WL.topT ?_ ?_); omega) | ((with_reducible refine WL.topF ?_ ?_); omega) | ((with_reducible refine WL.top64 ?_ ?_); omega) | refine WC.seq ?_ | refine WC.block ?_ | refine WC.region ?_ | refine WL.nil ?_ | refine WC.skip ?_ | refine WC.exit ?_ | refine WC.ret ?_ | refine WQ.then rfl ?_ | refine WQ.thenExit ?_ | refine WQ.thenRet ?_ | refine WQ.blk ?_ | refine WQ.blkRet ?_ | refine WQ.blkHere rfl ?_ | refine WQ.blkOther rfl ?_ | refine WL.pure rfl rfl rfl rfl ?_ | refine WL.on rfl rfl ?_ | refine WL.off rfl rfl rfl ?_ | refine WL.load rfl rfl rfl rfl rfl rfl (by assumption) ?_ | refine WC.condTrue rfl ?_ | refine WC.condFalse rfl ?_)
  refine WL.store rfl rfl rfl rfl rfl rfl (by kernel_rfl) hc3 (v3.free _) ?_
  have v4 := setR v3 1 (.int .i64 ((N : Int) - 1))
  have K4 := keepR K3 1 (.int .i64 ((N : Int) - 1))
  generalize x2.setCell ⟨b, 1, none⟩ (.int .i64 ((N : Int) - 1)) = x4 at v4 K4 ⊢
  clear hc3 v3 K3
  obtain ⟨M, rfl⟩ : ∃ M, N = M + 1 := ⟨N - 1, by omega⟩
  rw [show (((M + 1 : Nat) : Int) - 1) = (M : Int) by omega] at v4
  obtain ⟨g4, hg4⟩ : ∃ g4 : Nat → Value, g4 = fun i => if i = 1 then .int .i64 M else g3 i := ⟨_, rfl⟩
  rw [← hg4] at v4
  have c4 : g4 1 = .int .i64 M := by rw [hg4]; rfl
  repeat (first | refine WC.seq ?_ | refine WC.block ?_ | refine WC.region ?_ | refine WL.nil ?_ | refine WC.skip ?_ | refine WC.exit ?_ | refine WC.ret ?_ | refine WQ.then rfl ?_ | refine WQ.thenExit ?_ | refine WQ.thenRet ?_ | refine WQ.blk ?_ | refine WQ.blkRet ?_ | refine WQ.blkHere rfl ?_ | refine WQ.blkOther rfl ?_)
  refine WC.drawn 26 (fun wx => wx.cell? ⟨b, 1, none⟩ = some (.int .i64 M)) fun u4 hd => ?_
  have v5 := v4.below (hd.below _) v4.lt
  have K5 := K4.trans (Keep.ofDrew hd (fun x => x ≠ b))
  have hS : u4.cell? ⟨b, 1, none⟩ = some (.int .i64 M) := (cellR v5 (j := 1) (by omega)).trans (congrArg some c4)
  clear hd v4 K4
  (((first | refine WD.free 0 rfl (by kernel_rfl) rfl rfl (fun _ _ _ _ _ h => h) rfl rfl (.inr hS) ?_ | refine WD.skip 0 rfl (by kernel_rfl) rfl rfl (fun _ _ _ _ _ h => h) rfl (.inr hS) ?_); try (first | ((with_reducible refine WD.topT ?_ ?_); omega) | ((with_reducible refine WD.topF ?_ ?_); omega) | ((with_reducible refine WD.top64 ?_ ?_); omega))); ((first | refine WD.free 1 rfl (by kernel_rfl) rfl rfl (fun _ _ _ _ _ h => h) rfl rfl (.inr hS) ?_ | refine WD.skip 1 rfl (by kernel_rfl) rfl rfl (fun _ _ _ _ _ h => h) rfl (.inr hS) ?_); try (first | ((with_reducible refine WD.topT ?_ ?_); omega) | ((with_reducible refine WD.topF ?_ ?_); omega) | ((with_reducible refine WD.top64 ?_ ?_); omega))); ((first | refine WD.free 2 rfl (by kernel_rfl) rfl rfl (fun _ _ _ _ _ h => h) rfl rfl (.inr hS) ?_ | refine WD.skip 2 rfl (by kernel_rfl) rfl rfl (fun _ _ _ _ _ h => h) rfl (.inr hS) ?_); try (first | ((with_reducible refine WD.topT ?_ ?_); omega) | ((with_reducible refine WD.topF ?_ ?_); omega) | ((with_reducible refine WD.top64 ?_ ?_); omega))); ((first | refine WD.free 3 rfl (by kernel_rfl) rfl rfl (fun _ _ _ _ _ h => h) rfl rfl (.inr hS) ?_ | refine WD.skip 3 rfl (by kernel_rfl) rfl rfl (fun _ _ _ _ _ h => h) rfl (.inr hS) ?_); try (first | ((with_reducible refine WD.topT ?_ ?_); omega) | ((with_reducible refine WD.topF ?_ ?_); omega) | ((with_reducible refine WD.top64 ?_ ?_); omega))))
  refine WD.load 4 [17, 18, 21, 22, 25, 26] rfl (by kernel_rfl) rfl rfl (fun _ _ _ _ _ h => h) rfl rfl rfl rfl (fun wx hx => hx) hS ?_
  (((first | refine WD.free 5 rfl (by kernel_rfl) rfl rfl (fun _ _ _ _ _ h => h) rfl rfl (.inr hS) ?_ | refine WD.skip 5 rfl (by kernel_rfl) rfl rfl (fun _ _ _ _ _ h => h) rfl (.inr hS) ?_); try (first | ((with_reducible refine WD.topT ?_ ?_); omega) | ((with_reducible refine WD.topF ?_ ?_); omega) | ((with_reducible refine WD.top64 ?_ ?_); omega))); ((first | refine WD.free 6 rfl (by kernel_rfl) rfl rfl (fun _ _ _ _ _ h => h) rfl rfl (.inr hS) ?_ | refine WD.skip 6 rfl (by kernel_rfl) rfl rfl (fun _ _ _ _ _ h => h) rfl (.inr hS) ?_); try (first | ((with_reducible refine WD.topT ?_ ?_); omega) | ((with_reducible refine WD.topF ?_ ?_); omega) | ((with_reducible refine WD.top64 ?_ ?_); omega))); ((first | refine WD.free 7 rfl (by kernel_rfl) rfl rfl (fun _ _ _ _ _ h => h) rfl rfl (.inr hS) ?_ | refine WD.skip 7 rfl (by kernel_rfl) rfl rfl (fun _ _ _ _ _ h => h) rfl (.inr hS) ?_); try (first | ((with_reducible refine WD.topT ?_ ?_); omega) | ((with_reducible refine WD.topF ?_ ?_); omega) | ((with_reducible refine WD.top64 ?_ ?_); omega))); ((first | refine WD.free 8 rfl (by kernel_rfl) rfl rfl (fun _ _ _ _ _ h => h) rfl rfl (.inr hS) ?_ | refine WD.skip 8 rfl (by kernel_rfl) rfl rfl (fun _ _ _ _ _ h => h) rfl (.inr hS) ?_); try (first | ((with_reducible refine WD.topT ?_ ?_); omega) | ((with_reducible refine WD.topF ?_ ?_); omega) | ((with_reducible refine WD.top64 ?_ ?_); omega))))
  refine WD.load 9 [17, 18, 21, 22, 25, 26] rfl (by kernel_rfl) rfl rfl (fun _ _ _ _ _ h => h) rfl rfl rfl rfl (fun wx hx => hx) hS ?_
  (((first | refine WD.free 10 rfl (by kernel_rfl) rfl rfl (fun _ _ _ _ _ h => h) rfl rfl (.inr hS) ?_ | refine WD.skip 10 rfl (by kernel_rfl) rfl rfl (fun _ _ _ _ _ h => h) rfl (.inr hS) ?_); try (first | ((with_reducible refine WD.topT ?_ ?_); omega) | ((with_reducible refine WD.topF ?_ ?_); omega) | ((with_reducible refine WD.top64 ?_ ?_); omega))); ((first | refine WD.free 11 rfl (by kernel_rfl) rfl rfl (fun _ _ _ _ _ h => h) rfl rfl (.inr hS) ?_ | refine WD.skip 11 rfl (by kernel_rfl) rfl rfl (fun _ _ _ _ _ h => h) rfl (.inr hS) ?_); try (first | ((with_reducible refine WD.topT ?_ ?_); omega) | ((with_reducible refine WD.topF ?_ ?_); omega) | ((with_reducible refine WD.top64 ?_ ?_); omega))); ((first | refine WD.free 12 rfl (by kernel_rfl) rfl rfl (fun _ _ _ _ _ h => h) rfl rfl (.inr hS) ?_ | refine WD.skip 12 rfl (by kernel_rfl) rfl rfl (fun _ _ _ _ _ h => h) rfl (.inr hS) ?_); try (first | ((with_reducible refine WD.topT ?_ ?_); omega) | ((with_reducible refine WD.topF ?_ ?_); omega) | ((with_reducible refine WD.top64 ?_ ?_); omega))); ((first | refine WD.free 13 rfl (by kernel_rfl) rfl rfl (fun _ _ _ _ _ h => h) rfl rfl (.inr hS) ?_ | refine WD.skip 13 rfl (by kernel_rfl) rfl rfl (fun _ _ _ _ _ h => h) rfl (.inr hS) ?_); try (first | ((with_reducible refine WD.topT ?_ ?_); omega) | ((with_reducible refine WD.topF ?_ ?_); omega) | ((with_reducible refine WD.top64 ?_ ?_); omega))))
  refine WD.load 14 [17, 18, 21, 22, 25, 26] rfl (by kernel_rfl) rfl rfl (fun _ _ _ _ _ h => h) rfl rfl rfl rfl (fun wx hx => hx) hS ?_
  (((first | refine WD.free 15 rfl (by kernel_rfl) rfl rfl (fun _ _ _ _ _ h => h) rfl rfl (.inr hS) ?_ | refine WD.skip 15 rfl (by kernel_rfl) rfl rfl (fun _ _ _ _ _ h => h) rfl (.inr hS) ?_); try (first | ((with_reducible refine WD.topT ?_ ?_); omega) | ((with_reducible refine WD.topF ?_ ?_); omega) | ((with_reducible refine WD.top64 ?_ ?_); omega))); ((first | refine WD.free 16 rfl (by kernel_rfl) rfl rfl (fun _ _ _ _ _ h => h) rfl rfl (.inr hS) ?_ | refine WD.skip 16 rfl (by kernel_rfl) rfl rfl (fun _ _ _ _ _ h => h) rfl (.inr hS) ?_); try (first | ((with_reducible refine WD.topT ?_ ?_); omega) | ((with_reducible refine WD.topF ?_ ?_); omega) | ((with_reducible refine WD.top64 ?_ ?_); omega))); ((first | refine WD.free 19 rfl (by kernel_rfl) rfl rfl (fun _ _ _ _ _ h => h) rfl rfl (.inr hS) ?_ | refine WD.skip 19 rfl (by kernel_rfl) rfl rfl (fun _ _ _ _ _ h => h) rfl (.inr hS) ?_); try (first | ((with_reducible refine WD.topT ?_ ?_); omega) | ((with_reducible refine WD.topF ?_ ?_); omega) | ((with_reducible refine WD.top64 ?_ ?_); omega))); ((first | refine WD.free 20 rfl (by kernel_rfl) rfl rfl (fun _ _ _ _ _ h => h) rfl rfl (.inr hS) ?_ | refine WD.skip 20 rfl (by kernel_rfl) rfl rfl (fun _ _ _ _ _ h => h) rfl (.inr hS) ?_); try (first | ((with_reducible refine WD.topT ?_ ?_); omega) | ((with_reducible refine WD.topF ?_ ?_); omega) | ((with_reducible refine WD.top64 ?_ ?_); omega))); ((first | refine WD.free 23 rfl (by kernel_rfl) rfl rfl (fun _ _ _ _ _ h => h) rfl rfl (.inr hS) ?_ | refine WD.skip 23 rfl (by kernel_rfl) rfl rfl (fun _ _ _ _ _ h => h) rfl (.inr hS) ?_); try (first | ((with_reducible refine WD.topT ?_ ?_); omega) | ((with_reducible refine WD.topF ?_ ?_); omega) | ((with_reducible refine WD.top64 ?_ ?_); omega))); ((first | refine WD.free 24 rfl (by kernel_rfl) rfl rfl (fun _ _ _ _ _ h => h) rfl rfl (.inr hS) ?_ | refine WD.skip 24 rfl (by kernel_rfl) rfl rfl (fun _ _ _ _ _ h => h) rfl (.inr hS) ?_); try (first | ((with_reducible refine WD.topT ?_ ?_); omega) | ((with_reducible refine WD.topF ?_ ?_); omega) | ((with_reducible refine WD.top64 ?_ ?_); omega))))
  refine WD.idxA 17 M (2 + M) rfl (by kernel_rfl) rfl rfl (fun _ _ _ _ _ h => h) rfl rfl rfl rfl rfl rfl (by omega) (by omega) (.inr hS) ?_
  refine WD.one 18 (by kernel_rfl) rfl ?_
  refine WL.store rfl rfl rfl rfl rfl rfl (by kernel_rfl) (cellR v5 (by omega)) (v5.free _) ?_
  have v6 := setR v5 (2 + M) (.string ⟨#[]⟩)
  have K6 := keepR K5 (2 + M) (.string ⟨#[]⟩)
  generalize u4.setCell ⟨b, 2 + M, none⟩ (.string ⟨#[]⟩) = x6 at v6 K6 ⊢
  replace hS : x6.cell? ⟨b, 1, none⟩ = some (.int .i64 M) := (cellR v6 (j := 1) (by omega)).trans (congrArg some ((if_neg (by omega)).trans c4))
  clear v5 K5
  refine WL.nil (WQ.dk (.inr hS) ?_)
  refine WD.idxA 21 M (10 + M) rfl (by kernel_rfl) rfl rfl (fun _ _ _ _ _ h => h) rfl rfl rfl rfl rfl rfl (by omega) (by omega) (.inr hS) ?_
  refine WD.one 22 (by kernel_rfl) rfl ?_
  refine WL.store rfl rfl rfl rfl rfl rfl (by kernel_rfl) (cellR v6 (by omega)) (v6.free _) ?_
  have v7 := setR v6 (10 + M) (.int .i64 0)
  have K7 := keepR K6 (10 + M) (.int .i64 0)
  generalize x6.setCell ⟨b, 10 + M, none⟩ (.int .i64 0) = x7 at v7 K7 ⊢
  replace hS : x7.cell? ⟨b, 1, none⟩ = some (.int .i64 M) := (cellR v7 (j := 1) (by omega)).trans (congrArg some ((if_neg (by omega)).trans ((if_neg (by omega)).trans c4)))
  clear v6 K6
  refine WL.nil (WQ.dk (.inr hS) ?_)
  refine WD.idxA 25 M (18 + M) rfl (by kernel_rfl) rfl rfl (fun _ _ _ _ _ h => h) rfl rfl rfl rfl rfl rfl (by omega) (by omega) (.inr hS) ?_
  refine WD.one 26 (by kernel_rfl) rfl ?_
  refine WL.store rfl rfl rfl rfl rfl rfl (by kernel_rfl) (cellR v7 (by omega)) (v7.free _) ?_
  have v8 := setR v7 (18 + M) (.pointer none)
  have K8 := keepR K7 (18 + M) (.pointer none)
  generalize x7.setCell ⟨b, 18 + M, none⟩ (.pointer none) = x8 at v8 K8 ⊢
  clear v7 K7
  refine WL.nil (WQ.dk (.inl rfl) ?_)
  refine WD.done (by kernel_rfl) ?_
  repeat (first | ((with_reducible refine WL.topT ?_ ?_); omega) | ((with_reducible refine WL.topF ?_ ?_); omega) | ((with_reducible refine WL.top64 ?_ ?_); omega) | refine WC.seq ?_ | refine WC.block ?_ | refine WC.region ?_ | refine WL.nil ?_ | refine WC.skip ?_ | refine WC.exit ?_ | refine WC.ret ?_ | refine WQ.then rfl ?_ | refine WQ.thenExit ?_ | refine WQ.thenRet ?_ | refine WQ.blk ?_ | refine WQ.blkRet ?_ | refine WQ.blkHere rfl ?_ | refine WQ.blkOther rfl ?_ | refine WL.pure rfl rfl rfl rfl ?_ | refine WL.on rfl rfl ?_ | refine WL.off rfl rfl rfl ?_ | refine WC.condTrue rfl ?_ | refine WC.condFalse rfl ?_)
  refine WQ.end0 rfl ⟨rfl, K8, ?_⟩
  have hrow : ∀ j, j < 28 → (fun i_1 => if i_1 = 18 + M then Value.pointer none else if i_1 = 10 + M then .int .i64 0 else if i_1 = 2 + M then .string ⟨#[]⟩ else g4 i_1) j = ndF { nd with es := era nd.es i } pv j := by
    have hl' : (era nd.es i).length = M := by have := era_len nd.es (i := i) (by omega); omega
    have seg : ∀ (off : Nat) (f : En → Value), (∀ q, q < 8 → g0 (off + q) = f (nd.es.getD q noE)) → (∀ q, q < 8 → g3 (off + q) = if off + i ≤ off + q ∧ off + q + 1 < off + (M + 1) then g0 (off + q + 1) else g0 (off + q)) →
        ∀ q, q < 8 → q ≠ M → g3 (off + q) = f ((era nd.es i).getD q noE) := by
      intro off f hf hg q hq hqm
      rw [hg q hq]
      by_cases h0 : q < M
      · rw [era_get nd.es (by omega)]
        by_cases h1 : q < i
        · rw [if_neg (by omega), if_pos h1, hf q hq]
        · rw [if_pos (by omega), if_neg h1, Nat.add_assoc, hf _ (by omega)]
      · rw [if_neg (by omega), hf q hq, getD_far nd.es (by omega), getD_far (era nd.es i) (by omega)]
    have hk : ∀ q, q < 8 → g0 (2 + q) = .string (nd.es.getD q noE).key := fun q hq => by rw [← hg0, ndF_key _ _ hq]
    have hm : ∀ q, q < 8 → g0 (10 + q) = .int .i64 (nd.es.getD q noE).num := fun q hq => by rw [← hg0, ndF_num _ _ hq]
    have hc : ∀ q, q < 8 → g0 (18 + q) = ptrV (nd.es.getD q noE).kid := fun q hq => by rw [← hg0, ndF_kid _ _ hq]
    have s1 := seg 2 (fun e => .string e.key) hk fun q hq => by rw [e3 _ (by omega), if_neg (by omega), e2 _ (by omega), if_neg (by omega), e1 _ (by omega)]
    have s2 := seg 10 (fun e => .int .i64 e.num) hm fun q hq => by
      rw [e3 _ (by omega), if_neg (by omega), e2 _ (by omega)]
      split
      · rw [e1 _ (by omega), if_neg (by omega)]
      · rw [e1 _ (by omega), if_neg (by omega)]
    have s3 := seg 18 (fun e => ptrV e.kid) hc fun q hq => by
      rw [e3 _ (by omega)]
      split
      · rw [e2 _ (by omega), if_neg (by omega), e1 _ (by omega), if_neg (by omega)]
      · rw [e2 _ (by omega), if_neg (by omega), e1 _ (by omega), if_neg (by omega)]
    have g30 : ∀ j, j < 2 ∨ 26 ≤ j → j < 28 → g3 j = g0 j := fun j h h2 => by rw [e3 _ h2, if_neg (by omega), e2 _ h2, if_neg (by omega), e1 _ h2, if_neg (by omega)]
    have hfar : (era nd.es i).getD M noE = noE := getD_far _ (by omega)
    have g4n : ∀ j, j ≠ 1 → g4 j = g3 j := fun j h => by rw [hg4]; exact if_neg h
    intro j hj
    show (if j = 18 + M then Value.pointer none else if j = 10 + M then .int .i64 0 else if j = 2 + M then .string ⟨#[]⟩ else g4 j) = _
    by_cases j0 : j = 0
    · subst j0; rw [if_neg (by omega), if_neg (by omega), if_neg (by omega), g4n _ (by omega), g30 0 (by omega) (by omega), ← hg0]; rfl
    by_cases j1 : j = 1
    · subst j1; rw [if_neg (by omega), if_neg (by omega), if_neg (by omega), c4, ndF_cnt, hl']
    by_cases j2 : j < 10
    · obtain ⟨q, rfl⟩ : ∃ q, j = 2 + q := ⟨j - 2, by omega⟩
      rw [ndF_key _ _ (by omega), if_neg (by omega), if_neg (by omega)]
      by_cases hq : q = M
      · subst hq; rw [if_pos rfl]; simp only; rw [hfar]; rfl
      · rw [if_neg (by omega), g4n _ j1]; exact s1 q (by omega) hq
    by_cases j3 : j < 18
    · obtain ⟨q, rfl⟩ : ∃ q, j = 10 + q := ⟨j - 10, by omega⟩
      rw [ndF_num _ _ (by omega), if_neg (by omega)]
      by_cases hq : q = M
      · subst hq; rw [if_pos rfl]; simp only; rw [hfar]; rfl
      · rw [if_neg (by omega), if_neg (by omega), g4n _ j1]; exact s2 q (by omega) hq
    by_cases j4 : j < 26
    · obtain ⟨q, rfl⟩ : ∃ q, j = 18 + q := ⟨j - 18, by omega⟩
      rw [ndF_kid _ _ (by omega)]
      by_cases hq : q = M
      · subst hq; rw [if_pos rfl]; simp only; rw [hfar]; rfl
      · rw [if_neg (by omega), if_neg (by omega), if_neg (by omega), g4n _ j1]; exact s3 q (by omega) hq
    · rw [if_neg (by omega), if_neg (by omega), if_neg (by omega), g4n _ j1, g30 j (by omega) hj, ← hg0]
      unfold ndF
      rw [if_neg j0, if_neg j1, if_neg j2, if_neg j3, if_neg j4, if_neg j0, if_neg j1, if_neg j2, if_neg j3, if_neg j4]
  rw [← rowOf_ext hrow]
  exact v8
end K
end Go.Proofs.Ytilmfnlaenneeaa

/- Nodes (chapter 13): place, kid, moves. -/
namespace Go.Proofs.Ytilmfnlaenneeaa
open Go.RowKit
namespace K
open Tre
theorem keys_getD (es : List En) (j : Nat) : (es.map En.key).getD j ByteArray.empty = (es.getD j noE).key := by
  simp only [List.getD_eq_getElem?_getD, List.getElem?_map]
  cases es[j]? <;> rfl
theorem WQ.as {n : K.NN} {Q : Exit → Act → World → Prop} {l : Env} {w : World} {e : Exit} (k : Nat) (v' : Value) {v : Value} (hk : look l k = some v) (h0 : v = v') (h : WQ n Q e ((k, v') :: l) w) : WQ n Q e l w :=
  ⟨fun a ha => h.go a ⟨ha.size, ha.defers, fun j u hj => by
    unfold look at hj
    cases hb : Nat.beq k j with
    | true =>
      rw [hb] at hj
      obtain rfl : k = j := Nat.eq_of_beq_eq_true hb
      obtain rfl : v' = u := Option.some.inj hj
      subst h0
      exact ha.slot _ _ hk
    | false => rw [hb] at hj; exact ha.slot _ _ hj⟩⟩
theorem place_any {w : World} {b : Nat} {nd : Nd} {pv : Option Nat} {key : ByteArray} (hb : VBlk nodeT w b (rowOf (ndF nd pv))) (hn : nd.es.length ≤ 8) :
    Calls Try.prog 27 #[.pointer (some ⟨b, 0, none⟩), .string key] w fun e w' => e = .returned (.int .i64 (plc key (nd.es.map En.key) : Nat)) ∧ w' = w := by
  refine enter (args := [.pointer (some ⟨b, 0, none⟩), .string key]) Try.func27 rfl Try.ntmps27 rfl ?_
  obtain ⟨N, hN⟩ : ∃ N, nd.es.length = N := ⟨_, rfl⟩
  have hc := cellR hb (j := 1) (by omega)
  rw [ndF_cnt, hN] at hc
  have hk : ∀ i, i < 8 → w.cell? ⟨b, 2 + i, none⟩ = some (.string (nd.es.getD i noE).key) := fun i hi => by rw [cellR hb (by omega), ndF_key _ _ hi]
  rw [hN] at hn
  repeat (first | ((with_reducible refine WL.topT ?_ ?_); omega) | ((with_reducible refine WL.topF ?_ ?_); omega) | ((with_reducible refine WL.top64 ?_ ?_); omega) | refine WC.seq ?_ | refine WC.block ?_ | refine WC.region ?_ | refine WL.nil ?_ | refine WC.skip ?_ | refine WC.exit ?_ | refine WC.ret ?_ | refine WQ.then rfl ?_ | refine WQ.thenExit ?_ | refine WQ.thenRet ?_ | refine WQ.blk ?_ | refine WQ.blkRet ?_ | refine WQ.blkHere rfl ?_ | refine WQ.blkOther rfl ?_ | refine WL.pure rfl rfl rfl rfl ?_ | refine WL.on rfl rfl ?_ | refine WL.off rfl rfl rfl ?_ | refine WC.condTrue rfl ?_ | refine WC.condFalse rfl ?_)
  refine WC.loop (fun i : Nat => [(0, .pointer (some ⟨b, 0, none⟩)), (1, .string key), (5, .int .i64 i)]) (fun i w' => w' = w ∧ i ≤ N ∧ ∀ j, j < i → kl (nd.es.getD j noE).key key = true) (fun i => N - i) 0 ⟨rfl, rfl, rfl, trivial⟩ ⟨rfl, Nat.zero_le _, fun j hj => absurd hj (by omega)⟩ ?_
  rintro i _ ⟨rfl, hi, hlt⟩
  by_cases hiN : i < N
  · repeat (first | ((with_reducible refine WL.topT ?_ ?_); omega) | ((with_reducible refine WL.topF ?_ ?_); omega) | ((with_reducible refine WL.top64 ?_ ?_); omega) | refine WC.seq ?_ | refine WC.block ?_ | refine WC.region ?_ | refine WL.nil ?_ | refine WC.skip ?_ | refine WC.exit ?_ | refine WC.ret ?_ | refine WQ.then rfl ?_ | refine WQ.thenExit ?_ | refine WQ.thenRet ?_ | refine WQ.blk ?_ | refine WQ.blkRet ?_ | refine WQ.blkHere rfl ?_ | refine WQ.blkOther rfl ?_ | refine WL.pure rfl rfl rfl rfl ?_ | refine WL.on rfl rfl ?_ | refine WL.off rfl rfl rfl ?_ | refine WL.load rfl rfl rfl rfl rfl rfl (by assumption) ?_ | refine WC.condTrue rfl ?_ | refine WC.condFalse rfl ?_)
    refine WL.idxA i (2 + i) rfl rfl rfl rfl rfl rfl rfl rfl (by omega) (by omega) ?_
    refine WL.on rfl rfl ?_
    refine WL.load rfl rfl rfl rfl rfl rfl (hk i (by omega)) ?_
    repeat (first | ((with_reducible refine WL.topT ?_ ?_); omega) | ((with_reducible refine WL.topF ?_ ?_); omega) | ((with_reducible refine WL.top64 ?_ ?_); omega) | refine WC.seq ?_ | refine WC.block ?_ | refine WC.region ?_ | refine WL.nil ?_ | refine WC.skip ?_ | refine WC.exit ?_ | refine WC.ret ?_ | refine WQ.then rfl ?_ | refine WQ.thenExit ?_ | refine WQ.thenRet ?_ | refine WQ.blk ?_ | refine WQ.blkRet ?_ | refine WQ.blkHere rfl ?_ | refine WQ.blkOther rfl ?_ | refine WL.pure rfl rfl rfl rfl ?_ | refine WL.on rfl rfl ?_ | refine WL.off rfl rfl rfl ?_ | refine WC.condTrue rfl ?_ | refine WC.condFalse rfl ?_)
    cases hq : Op.bytesLess (nd.es.getD i noE).key.toList key.toList with
    | true =>
      repeat (first | ((with_reducible refine WL.topT ?_ ?_); omega) | ((with_reducible refine WL.topF ?_ ?_); omega) | ((with_reducible refine WL.top64 ?_ ?_); omega) | refine WC.seq ?_ | refine WC.block ?_ | refine WC.region ?_ | refine WL.nil ?_ | refine WC.skip ?_ | refine WC.exit ?_ | refine WC.ret ?_ | refine WQ.then rfl ?_ | refine WQ.thenExit ?_ | refine WQ.thenRet ?_ | refine WQ.blk ?_ | refine WQ.blkRet ?_ | refine WQ.blkHere rfl ?_ | refine WQ.blkOther rfl ?_ | refine WL.pure rfl rfl rfl rfl ?_ | refine WL.on rfl rfl ?_ | refine WL.off rfl rfl rfl ?_ | refine WC.condTrue rfl ?_ | refine WC.condFalse rfl ?_)
      exact WQ.again (i + 1) ⟨rfl, rfl, rfl, trivial⟩ ⟨rfl, hiN, fun j hj => by
        rcases Nat.lt_or_ge j i with h | h
        · exact hlt j h
        · obtain rfl : j = i := by omega
          exact hq⟩ (by show N - (i + 1) < N - i; omega)
    | false =>
      repeat (first | ((with_reducible refine WL.topT ?_ ?_); omega) | ((with_reducible refine WL.topF ?_ ?_); omega) | ((with_reducible refine WL.top64 ?_ ?_); omega) | refine WC.seq ?_ | refine WC.block ?_ | refine WC.region ?_ | refine WL.nil ?_ | refine WC.skip ?_ | refine WC.exit ?_ | refine WC.ret ?_ | refine WQ.then rfl ?_ | refine WQ.thenExit ?_ | refine WQ.thenRet ?_ | refine WQ.blk ?_ | refine WQ.blkRet ?_ | refine WQ.blkHere rfl ?_ | refine WQ.blkOther rfl ?_ | refine WL.pure rfl rfl rfl rfl ?_ | refine WL.on rfl rfl ?_ | refine WL.off rfl rfl rfl ?_ | refine WC.condTrue rfl ?_ | refine WC.condFalse rfl ?_)
      refine WQ.ret1 rfl rfl ⟨?_, rfl⟩
      rw [plc_at (i := i) (by simp [hN]; omega) (fun j hj => by rw [keys_getD]; exact hlt j hj) (fun _ => by rw [keys_getD]; exact hq)]
  · obtain rfl : i = N := by omega
    repeat (first | ((with_reducible refine WL.topT ?_ ?_); omega) | ((with_reducible refine WL.topF ?_ ?_); omega) | ((with_reducible refine WL.top64 ?_ ?_); omega) | refine WC.seq ?_ | refine WC.block ?_ | refine WC.region ?_ | refine WL.nil ?_ | refine WC.skip ?_ | refine WC.exit ?_ | refine WC.ret ?_ | refine WQ.then rfl ?_ | refine WQ.thenExit ?_ | refine WQ.thenRet ?_ | refine WQ.blk ?_ | refine WQ.blkRet ?_ | refine WQ.blkHere rfl ?_ | refine WQ.blkOther rfl ?_ | refine WL.pure rfl rfl rfl rfl ?_ | refine WL.on rfl rfl ?_ | refine WL.off rfl rfl rfl ?_ | refine WL.load rfl rfl rfl rfl rfl rfl (by assumption) ?_ | refine WC.condTrue rfl ?_ | refine WC.condFalse rfl ?_)
    refine WQ.ret1 rfl rfl ⟨?_, rfl⟩
    rw [plc_at (i := i) (by simp [hN]) (fun j hj => by rw [keys_getD]; exact hlt j hj) (fun h => by simp [hN] at h)]
theorem kid_any {w : World} {b : Nat} {nd : Nd} {pv : Option Nat} {key : ByteArray} (hb : VBlk nodeT w b (rowOf (ndF nd pv))) (hn : nd.es.length ≤ 8) (h1 : 1 ≤ nd.es.length) :
    Calls Try.prog 26 #[.pointer (some ⟨b, 0, none⟩), .string key] w fun e w' => e = .returned (.int .i64 (kidG key (nd.es.map En.key) (nd.es.length - 1) : Nat)) ∧ w' = w := by
  refine enter (args := [.pointer (some ⟨b, 0, none⟩), .string key]) Try.func26 rfl Try.ntmps26 rfl ?_
  obtain ⟨N, hN⟩ : ∃ N, nd.es.length = N + 1 := ⟨nd.es.length - 1, by omega⟩
  have hc := cellR hb (j := 1) (by omega)
  rw [ndF_cnt, hN] at hc
  have hk : ∀ i, i < 8 → w.cell? ⟨b, 2 + i, none⟩ = some (.string (nd.es.getD i noE).key) := fun i hi => by rw [cellR hb (by omega), ndF_key _ _ hi]
  rw [hN] at hn ⊢
  rw [Nat.add_sub_cancel]
  obtain ⟨R, hR⟩ : ∃ R, kidG key (nd.es.map En.key) N = R := ⟨_, rfl⟩
  rw [hR]
  have hw0 : ((N + 1 : Nat) : Int) - 1 = N := by omega
  repeat (first | ((with_reducible refine WL.topT ?_ ?_); omega) | ((with_reducible refine WL.topF ?_ ?_); omega) | ((with_reducible refine WL.top64 ?_ ?_); omega) | refine WC.seq ?_ | refine WC.block ?_ | refine WC.region ?_ | refine WL.nil ?_ | refine WC.skip ?_ | refine WC.exit ?_ | refine WC.ret ?_ | refine WQ.then rfl ?_ | refine WQ.thenExit ?_ | refine WQ.thenRet ?_ | refine WQ.blk ?_ | refine WQ.blkRet ?_ | refine WQ.blkHere rfl ?_ | refine WQ.blkOther rfl ?_ | refine WL.pure rfl rfl rfl rfl ?_ | refine WL.on rfl rfl ?_ | refine WL.off rfl rfl rfl ?_ | refine WL.load rfl rfl rfl rfl rfl rfl (by assumption) ?_ | refine WC.condTrue rfl ?_ | refine WC.condFalse rfl ?_)
  refine WC.as 5 (.int .i64 N) rfl (congrArg (Value.int .i64) hw0) ?_
  refine WC.loop (fun i : Nat => [(0, .pointer (some ⟨b, 0, none⟩)), (1, .string key), (5, .int .i64 i)]) (fun i w' => w' = w ∧ i ≤ N ∧ kidG key (nd.es.map En.key) i = R) (fun i => i) N ⟨rfl, rfl, rfl, trivial⟩ ⟨rfl, Nat.le_refl _, hR⟩ ?_
  rintro i _ ⟨rfl, hi, hg⟩
  cases i with
  | zero =>
    subst hg
    repeat (first | ((with_reducible refine WL.topT ?_ ?_); omega) | ((with_reducible refine WL.topF ?_ ?_); omega) | ((with_reducible refine WL.top64 ?_ ?_); omega) | refine WC.seq ?_ | refine WC.block ?_ | refine WC.region ?_ | refine WL.nil ?_ | refine WC.skip ?_ | refine WC.exit ?_ | refine WC.ret ?_ | refine WQ.then rfl ?_ | refine WQ.thenExit ?_ | refine WQ.thenRet ?_ | refine WQ.blk ?_ | refine WQ.blkRet ?_ | refine WQ.blkHere rfl ?_ | refine WQ.blkOther rfl ?_ | refine WL.pure rfl rfl rfl rfl ?_ | refine WL.on rfl rfl ?_ | refine WL.off rfl rfl rfl ?_ | refine WC.condTrue rfl ?_ | refine WC.condFalse rfl ?_)
    exact WQ.ret1 rfl rfl ⟨rfl, rfl⟩
  | succ i =>
    have hw1 : ((i + 1 : Nat) : Int) - 1 = i := by omega
    have hs : (if kl key ((nd.es.map En.key).getD (i + 1) ByteArray.empty) then kidG key (nd.es.map En.key) i else i + 1) = R := hg
    rw [keys_getD] at hs
    unfold kl at hs
    repeat (first | ((with_reducible refine WL.topT ?_ ?_); omega) | ((with_reducible refine WL.topF ?_ ?_); omega) | ((with_reducible refine WL.top64 ?_ ?_); omega) | refine WC.seq ?_ | refine WC.block ?_ | refine WC.region ?_ | refine WL.nil ?_ | refine WC.skip ?_ | refine WC.exit ?_ | refine WC.ret ?_ | refine WQ.then rfl ?_ | refine WQ.thenExit ?_ | refine WQ.thenRet ?_ | refine WQ.blk ?_ | refine WQ.blkRet ?_ | refine WQ.blkHere rfl ?_ | refine WQ.blkOther rfl ?_ | refine WL.pure rfl rfl rfl rfl ?_ | refine WL.on rfl rfl ?_ | refine WL.off rfl rfl rfl ?_ | refine WC.condTrue rfl ?_ | refine WC.condFalse rfl ?_)
    refine WL.idxA (i + 1) (2 + (i + 1)) rfl rfl rfl rfl rfl rfl rfl rfl (by omega) (by omega) ?_
    refine WL.on rfl rfl ?_
    refine WL.load rfl rfl rfl rfl rfl rfl (hk (i + 1) (by omega)) ?_
    repeat (first | ((with_reducible refine WL.topT ?_ ?_); omega) | ((with_reducible refine WL.topF ?_ ?_); omega) | ((with_reducible refine WL.top64 ?_ ?_); omega) | refine WC.seq ?_ | refine WC.block ?_ | refine WC.region ?_ | refine WL.nil ?_ | refine WC.skip ?_ | refine WC.exit ?_ | refine WC.ret ?_ | refine WQ.then rfl ?_ | refine WQ.thenExit ?_ | refine WQ.thenRet ?_ | refine WQ.blk ?_ | refine WQ.blkRet ?_ | refine WQ.blkHere rfl ?_ | refine WQ.blkOther rfl ?_ | refine WL.pure rfl rfl rfl rfl ?_ | refine WL.on rfl rfl ?_ | refine WL.off rfl rfl rfl ?_ | refine WC.condTrue rfl ?_ | refine WC.condFalse rfl ?_)
    cases hq : Op.bytesLess key.toList (nd.es.getD (i + 1) noE).key.toList with
    | true =>
      rw [hq] at hs
      repeat (first | ((with_reducible refine WL.topT ?_ ?_); omega) | ((with_reducible refine WL.topF ?_ ?_); omega) | ((with_reducible refine WL.top64 ?_ ?_); omega) | refine WC.seq ?_ | refine WC.block ?_ | refine WC.region ?_ | refine WL.nil ?_ | refine WC.skip ?_ | refine WC.exit ?_ | refine WC.ret ?_ | refine WQ.then rfl ?_ | refine WQ.thenExit ?_ | refine WQ.thenRet ?_ | refine WQ.blk ?_ | refine WQ.blkRet ?_ | refine WQ.blkHere rfl ?_ | refine WQ.blkOther rfl ?_ | refine WL.pure rfl rfl rfl rfl ?_ | refine WL.on rfl rfl ?_ | refine WL.off rfl rfl rfl ?_ | refine WC.condTrue rfl ?_ | refine WC.condFalse rfl ?_)
      refine WQ.as 5 (.int .i64 i) rfl (congrArg (Value.int .i64) hw1) ?_
      exact WQ.again i ⟨rfl, rfl, rfl, trivial⟩ ⟨rfl, by omega, hs⟩ (by show i < i + 1; omega)
    | false =>
      rw [hq] at hs
      simp only [Bool.false_eq_true, if_false] at hs
      subst hs
      repeat (first | ((with_reducible refine WL.topT ?_ ?_); omega) | ((with_reducible refine WL.topF ?_ ?_); omega) | ((with_reducible refine WL.top64 ?_ ?_); omega) | refine WC.seq ?_ | refine WC.block ?_ | refine WC.region ?_ | refine WL.nil ?_ | refine WC.skip ?_ | refine WC.exit ?_ | refine WC.ret ?_ | refine WQ.then rfl ?_ | refine WQ.thenExit ?_ | refine WQ.thenRet ?_ | refine WQ.blk ?_ | refine WQ.blkRet ?_ | refine WQ.blkHere rfl ?_ | refine WQ.blkOther rfl ?_ | refine WL.pure rfl rfl rfl rfl ?_ | refine WL.on rfl rfl ?_ | refine WL.off rfl rfl rfl ?_ | refine WC.condTrue rfl ?_ | refine WC.condFalse rfl ?_)
      exact WQ.ret1 rfl rfl ⟨rfl, rfl⟩
theorem ins_end (es : List En) (e : En) : ins es es.length e = es ++ [e] := by unfold ins; rw [List.take_length, List.drop_length]
theorem era_end (es : List En) {n : Nat} (h : es.length = n + 1) : era es n = es.take n := by unfold era; rw [List.drop_eq_nil_of_le (by omega), List.append_nil]
theorem getD_elem (es : List En) {i : Nat} (h : i < es.length) : (⟨(es.getD i noE).key, (es.getD i noE).num, (es.getD i noE).kid⟩ : En) = es[i] := by simp [h]
set_option maxRecDepth 20000 in
set_option maxHeartbeats 2000000 in
/-- Places from one on go to another node. -/
theorem moves_any {w : World} {b c f : Nat} {nb nc : Nd} {pb pc : Option Nat} (hb : VBlk nodeT w b (rowOf (ndF nb pb))) (hc : VBlk nodeT w c (rowOf (ndF nc pc))) (hbc : b ≠ c) (hf : f ≤ nb.es.length) (h8 : nb.es.length ≤ 8) (hr : nc.es.length + (nb.es.length - f) ≤ 8) :
    Calls Try.prog 37 #[.pointer (some ⟨b, 0, none⟩), .int .i64 f, .pointer (some ⟨c, 0, none⟩)] w fun e w' => e = .returned (.tuple #[]) ∧ Keep (fun x => x ≠ b ∧ x ≠ c) w w' ∧ VBlk nodeT w' b (rowOf (ndF { nb with es := nb.es.take f } pb)) ∧ VBlk nodeT w' c (rowOf (ndF { nc with es := nc.es ++ nb.es.drop f } pc)) := by
  refine enter (args := [.pointer (some ⟨b, 0, none⟩), .int .i64 f, .pointer (some ⟨c, 0, none⟩)]) Try.func37 rfl Try.ntmps37 rfl ?_
  obtain ⟨N, hN⟩ : ∃ N, nb.es.length = N := ⟨_, rfl⟩
  rw [hN] at hf h8 hr
  repeat (first | ((with_reducible refine WL.topT ?_ ?_); omega) | ((with_reducible refine WL.topF ?_ ?_); omega) | ((with_reducible refine WL.top64 ?_ ?_); omega) | refine WC.seq ?_ | refine WC.region ?_ | refine WL.nil ?_ | refine WC.skip ?_ | refine WC.exit ?_ | refine WC.ret ?_ | refine WQ.then rfl ?_ | refine WQ.thenExit ?_ | refine WQ.thenRet ?_ | refine WQ.blk ?_ | refine WQ.blkRet ?_ | refine WQ.blkHere rfl ?_ | refine WQ.blkOther rfl ?_ | refine WL.pure rfl rfl rfl rfl ?_ | refine WL.on rfl rfl ?_ | refine WL.off rfl rfl rfl ?_ | refine WL.load rfl rfl rfl rfl rfl rfl (by assumption) ?_ | refine WC.condTrue rfl ?_ | refine WC.condFalse rfl ?_)
  refine WC.block ?_
  refine WC.loop (fun i : Nat => [(0, .pointer (some ⟨b, 0, none⟩)), (1, .int .i64 f), (2, .pointer (some ⟨c, 0, none⟩)), (6, .int .i64 i)])
    (fun i w' => f ≤ i ∧ i ≤ N ∧ Keep (fun x => x ≠ b ∧ x ≠ c) w w' ∧ VBlk nodeT w' b (rowOf (ndF nb pb)) ∧ VBlk nodeT w' c (rowOf (ndF { nc with es := nc.es ++ (nb.es.drop f).take (i - f) } pc))) (fun i => N - i) f ⟨rfl, rfl, rfl, rfl, trivial⟩
    ⟨Nat.le_refl _, hf, Keep.refl _ _, hb, by simpa using hc⟩ ?_
  rintro i wr ⟨hfi, hiN, hk, hvb, hvc⟩
  have hcnt := cellR hvb (j := 1) (by omega)
  rw [ndF_cnt, hN] at hcnt
  by_cases hlt : i < N
  · repeat (first | ((with_reducible refine WL.topT ?_ ?_); omega) | ((with_reducible refine WL.topF ?_ ?_); omega) | ((with_reducible refine WL.top64 ?_ ?_); omega) | refine WC.seq ?_ | refine WC.block ?_ | refine WC.region ?_ | refine WL.nil ?_ | refine WC.skip ?_ | refine WC.exit ?_ | refine WC.ret ?_ | refine WQ.then rfl ?_ | refine WQ.thenExit ?_ | refine WQ.thenRet ?_ | refine WQ.blk ?_ | refine WQ.blkRet ?_ | refine WQ.blkHere rfl ?_ | refine WQ.blkOther rfl ?_ | refine WL.pure rfl rfl rfl rfl ?_ | refine WL.on rfl rfl ?_ | refine WL.off rfl rfl rfl ?_ | refine WL.load rfl rfl rfl rfl rfl rfl (by assumption) ?_ | refine WC.condTrue rfl ?_ | refine WC.condFalse rfl ?_)
    obtain ⟨es2, he2⟩ : ∃ es2, nc.es ++ (nb.es.drop f).take (i - f) = es2 := ⟨_, rfl⟩
    have hl2 : es2.length = nc.es.length + (i - f) := by rw [← he2]; simp only [List.length_append, List.length_take, List.length_drop]; omega
    rw [he2] at hvc
    refine WC.drawn 23 (fun wx => VBlk nodeT wx b (rowOf (ndF nb pb)) ∧ VBlk nodeT wx c (rowOf (ndF { nc with es := es2 } pc))) fun w2 hd => ?_
    have hS : VBlk nodeT w2 b (rowOf (ndF nb pb)) ∧ VBlk nodeT w2 c (rowOf (ndF { nc with es := es2 } pc)) := ⟨hvb.below (hd.below _) hvb.lt, hvc.below (hd.below _) hvc.lt⟩
    have hk2 := hk.trans (Keep.ofDrew hd _)
    (((first | refine WD.free 0 rfl (by kernel_rfl) rfl rfl (fun _ _ _ _ _ h => h) rfl rfl (.inr hS) ?_ | refine WD.skip 0 rfl (by kernel_rfl) rfl rfl (fun _ _ _ _ _ h => h) rfl (.inr hS) ?_); try (first | ((with_reducible refine WD.topT ?_ ?_); omega) | ((with_reducible refine WD.topF ?_ ?_); omega) | ((with_reducible refine WD.top64 ?_ ?_); omega))); ((first | refine WD.free 1 rfl (by kernel_rfl) rfl rfl (fun _ _ _ _ _ h => h) rfl rfl (.inr hS) ?_ | refine WD.skip 1 rfl (by kernel_rfl) rfl rfl (fun _ _ _ _ _ h => h) rfl (.inr hS) ?_); try (first | ((with_reducible refine WD.topT ?_ ?_); omega) | ((with_reducible refine WD.topF ?_ ?_); omega) | ((with_reducible refine WD.top64 ?_ ?_); omega))); ((first | refine WD.free 2 rfl (by kernel_rfl) rfl rfl (fun _ _ _ _ _ h => h) rfl rfl (.inr hS) ?_ | refine WD.skip 2 rfl (by kernel_rfl) rfl rfl (fun _ _ _ _ _ h => h) rfl (.inr hS) ?_); try (first | ((with_reducible refine WD.topT ?_ ?_); omega) | ((with_reducible refine WD.topF ?_ ?_); omega) | ((with_reducible refine WD.top64 ?_ ?_); omega))); ((first | refine WD.free 3 rfl (by kernel_rfl) rfl rfl (fun _ _ _ _ _ h => h) rfl rfl (.inr hS) ?_ | refine WD.skip 3 rfl (by kernel_rfl) rfl rfl (fun _ _ _ _ _ h => h) rfl (.inr hS) ?_); try (first | ((with_reducible refine WD.topT ?_ ?_); omega) | ((with_reducible refine WD.topF ?_ ?_); omega) | ((with_reducible refine WD.top64 ?_ ?_); omega))))
    refine WD.load 4 [23] rfl (by kernel_rfl) rfl rfl (fun _ _ _ _ _ h => h) rfl rfl rfl rfl (fun wx hx => cellR hx.2 (j := 1) (by omega)) hS ?_
    (((first | refine WD.free 5 rfl (by kernel_rfl) rfl rfl (fun _ _ _ _ _ h => h) rfl rfl (.inr hS) ?_ | refine WD.skip 5 rfl (by kernel_rfl) rfl rfl (fun _ _ _ _ _ h => h) rfl (.inr hS) ?_); try (first | ((with_reducible refine WD.topT ?_ ?_); omega) | ((with_reducible refine WD.topF ?_ ?_); omega) | ((with_reducible refine WD.top64 ?_ ?_); omega))); ((first | refine WD.free 6 rfl (by kernel_rfl) rfl rfl (fun _ _ _ _ _ h => h) rfl rfl (.inr hS) ?_ | refine WD.skip 6 rfl (by kernel_rfl) rfl rfl (fun _ _ _ _ _ h => h) rfl (.inr hS) ?_); try (first | ((with_reducible refine WD.topT ?_ ?_); omega) | ((with_reducible refine WD.topF ?_ ?_); omega) | ((with_reducible refine WD.top64 ?_ ?_); omega))); ((first | refine WD.free 7 rfl (by kernel_rfl) rfl rfl (fun _ _ _ _ _ h => h) rfl rfl (.inr hS) ?_ | refine WD.skip 7 rfl (by kernel_rfl) rfl rfl (fun _ _ _ _ _ h => h) rfl (.inr hS) ?_); try (first | ((with_reducible refine WD.topT ?_ ?_); omega) | ((with_reducible refine WD.topF ?_ ?_); omega) | ((with_reducible refine WD.top64 ?_ ?_); omega))); ((first | refine WD.free 8 rfl (by kernel_rfl) rfl rfl (fun _ _ _ _ _ h => h) rfl rfl (.inr hS) ?_ | refine WD.skip 8 rfl (by kernel_rfl) rfl rfl (fun _ _ _ _ _ h => h) rfl (.inr hS) ?_); try (first | ((with_reducible refine WD.topT ?_ ?_); omega) | ((with_reducible refine WD.topF ?_ ?_); omega) | ((with_reducible refine WD.top64 ?_ ?_); omega))))
    refine WD.idxA 9 i (2 + i) rfl (by kernel_rfl) rfl rfl (fun _ _ _ _ _ h => h) rfl rfl rfl rfl rfl rfl (by omega) (by omega) (.inr hS) ?_
    refine WD.load 10 [23] rfl (by kernel_rfl) rfl rfl (fun _ _ _ _ _ h => h) rfl rfl rfl rfl (fun wx hx => (cellR hx.1 (by omega)).trans (congrArg some (ndF_key _ _ (by omega)))) hS ?_
    (((first | refine WD.free 11 rfl (by kernel_rfl) rfl rfl (fun _ _ _ _ _ h => h) rfl rfl (.inr hS) ?_ | refine WD.skip 11 rfl (by kernel_rfl) rfl rfl (fun _ _ _ _ _ h => h) rfl (.inr hS) ?_); try (first | ((with_reducible refine WD.topT ?_ ?_); omega) | ((with_reducible refine WD.topF ?_ ?_); omega) | ((with_reducible refine WD.top64 ?_ ?_); omega))); ((first | refine WD.free 12 rfl (by kernel_rfl) rfl rfl (fun _ _ _ _ _ h => h) rfl rfl (.inr hS) ?_ | refine WD.skip 12 rfl (by kernel_rfl) rfl rfl (fun _ _ _ _ _ h => h) rfl (.inr hS) ?_); try (first | ((with_reducible refine WD.topT ?_ ?_); omega) | ((with_reducible refine WD.topF ?_ ?_); omega) | ((with_reducible refine WD.top64 ?_ ?_); omega))); ((first | refine WD.free 13 rfl (by kernel_rfl) rfl rfl (fun _ _ _ _ _ h => h) rfl rfl (.inr hS) ?_ | refine WD.skip 13 rfl (by kernel_rfl) rfl rfl (fun _ _ _ _ _ h => h) rfl (.inr hS) ?_); try (first | ((with_reducible refine WD.topT ?_ ?_); omega) | ((with_reducible refine WD.topF ?_ ?_); omega) | ((with_reducible refine WD.top64 ?_ ?_); omega))); ((first | refine WD.free 14 rfl (by kernel_rfl) rfl rfl (fun _ _ _ _ _ h => h) rfl rfl (.inr hS) ?_ | refine WD.skip 14 rfl (by kernel_rfl) rfl rfl (fun _ _ _ _ _ h => h) rfl (.inr hS) ?_); try (first | ((with_reducible refine WD.topT ?_ ?_); omega) | ((with_reducible refine WD.topF ?_ ?_); omega) | ((with_reducible refine WD.top64 ?_ ?_); omega))))
    refine WD.idxA 15 i (10 + i) rfl (by kernel_rfl) rfl rfl (fun _ _ _ _ _ h => h) rfl rfl rfl rfl rfl rfl (by omega) (by omega) (.inr hS) ?_
    refine WD.load 16 [23] rfl (by kernel_rfl) rfl rfl (fun _ _ _ _ _ h => h) rfl rfl rfl rfl (fun wx hx => (cellR hx.1 (by omega)).trans (congrArg some (ndF_num _ _ (by omega)))) hS ?_
    (((first | refine WD.free 17 rfl (by kernel_rfl) rfl rfl (fun _ _ _ _ _ h => h) rfl rfl (.inr hS) ?_ | refine WD.skip 17 rfl (by kernel_rfl) rfl rfl (fun _ _ _ _ _ h => h) rfl (.inr hS) ?_); try (first | ((with_reducible refine WD.topT ?_ ?_); omega) | ((with_reducible refine WD.topF ?_ ?_); omega) | ((with_reducible refine WD.top64 ?_ ?_); omega))); ((first | refine WD.free 18 rfl (by kernel_rfl) rfl rfl (fun _ _ _ _ _ h => h) rfl rfl (.inr hS) ?_ | refine WD.skip 18 rfl (by kernel_rfl) rfl rfl (fun _ _ _ _ _ h => h) rfl (.inr hS) ?_); try (first | ((with_reducible refine WD.topT ?_ ?_); omega) | ((with_reducible refine WD.topF ?_ ?_); omega) | ((with_reducible refine WD.top64 ?_ ?_); omega))); ((first | refine WD.free 19 rfl (by kernel_rfl) rfl rfl (fun _ _ _ _ _ h => h) rfl rfl (.inr hS) ?_ | refine WD.skip 19 rfl (by kernel_rfl) rfl rfl (fun _ _ _ _ _ h => h) rfl (.inr hS) ?_); try (first | ((with_reducible refine WD.topT ?_ ?_); omega) | ((with_reducible refine WD.topF ?_ ?_); omega) | ((with_reducible refine WD.top64 ?_ ?_); omega))); ((first | refine WD.free 20 rfl (by kernel_rfl) rfl rfl (fun _ _ _ _ _ h => h) rfl rfl (.inr hS) ?_ | refine WD.skip 20 rfl (by kernel_rfl) rfl rfl (fun _ _ _ _ _ h => h) rfl (.inr hS) ?_); try (first | ((with_reducible refine WD.topT ?_ ?_); omega) | ((with_reducible refine WD.topF ?_ ?_); omega) | ((with_reducible refine WD.top64 ?_ ?_); omega))))
    refine WD.idxA 21 i (18 + i) rfl (by kernel_rfl) rfl rfl (fun _ _ _ _ _ h => h) rfl rfl rfl rfl rfl rfl (by omega) (by omega) (.inr hS) ?_
    refine WD.load 22 [23] rfl (by kernel_rfl) rfl rfl (fun _ _ _ _ _ h => h) rfl rfl rfl rfl (fun wx hx => (cellR hx.1 (by omega)).trans (congrArg some (ndF_kid _ _ (by omega)))) hS ?_
    refine WD.one 23 (by kernel_rfl) rfl ?_
    refine WL.call rfl rfl rfl rfl rfl Try.func24 rfl (by kernel_rfl) (nput_any (i := es2.length) hS.2 (Nat.le_refl _) (by show es2.length < 8; omega)) ?_
    rintro _ w3 ⟨rfl, hk3, hv3⟩
    refine ⟨_, rfl, ?_⟩
    refine WL.nil (WQ.dk (.inl rfl) ?_)
    refine WD.done (by kernel_rfl) ?_
    repeat (first | ((with_reducible refine WL.topT ?_ ?_); omega) | ((with_reducible refine WL.topF ?_ ?_); omega) | ((with_reducible refine WL.top64 ?_ ?_); omega) | refine WC.seq ?_ | refine WC.block ?_ | refine WC.region ?_ | refine WL.nil ?_ | refine WC.skip ?_ | refine WC.exit ?_ | refine WC.ret ?_ | refine WQ.then rfl ?_ | refine WQ.thenExit ?_ | refine WQ.thenRet ?_ | refine WQ.blk ?_ | refine WQ.blkRet ?_ | refine WQ.blkHere rfl ?_ | refine WQ.blkOther rfl ?_ | refine WL.pure rfl rfl rfl rfl ?_ | refine WL.on rfl rfl ?_ | refine WL.off rfl rfl rfl ?_ | refine WC.condTrue rfl ?_ | refine WC.condFalse rfl ?_)
    refine WQ.again (i + 1) ⟨rfl, rfl, rfl, rfl, trivial⟩ ⟨by omega, hlt, hk2.trans (hk3.mono fun x hx => hx.2), hS.1.keep hk3 hbc, ?_⟩ (by show N - (i + 1) < N - i; omega)
    have e5 : ins es2 es2.length ⟨(nb.es.getD i noE).key, (nb.es.getD i noE).num, (nb.es.getD i noE).kid⟩ = nc.es ++ (nb.es.drop f).take (i + 1 - f) := by
      rw [ins_end, getD_elem _ (by omega), ← he2, List.append_assoc]
      congr 1
      rw [show i + 1 - f = (i - f) + 1 by omega, List.take_add_one, List.getElem?_drop, show f + (i - f) = i by omega, List.getElem?_eq_getElem (by omega)]
      rfl
    simp only at hv3
    rw [e5] at hv3
    exact hv3
  · obtain rfl : i = N := by omega
    rw [List.take_of_length_le (by rw [List.length_drop]; omega)] at hvc
    repeat (first | ((with_reducible refine WL.topT ?_ ?_); omega) | ((with_reducible refine WL.topF ?_ ?_); omega) | ((with_reducible refine WL.top64 ?_ ?_); omega) | refine WC.seq ?_ | refine WC.region ?_ | refine WL.nil ?_ | refine WC.skip ?_ | refine WC.exit ?_ | refine WC.ret ?_ | refine WQ.then rfl ?_ | refine WQ.thenExit ?_ | refine WQ.thenRet ?_ | refine WQ.blk ?_ | refine WQ.blkRet ?_ | refine WQ.blkHere rfl ?_ | refine WQ.blkOther rfl ?_ | refine WL.pure rfl rfl rfl rfl ?_ | refine WL.on rfl rfl ?_ | refine WL.off rfl rfl rfl ?_ | refine WL.load rfl rfl rfl rfl rfl rfl (by assumption) ?_ | refine WC.condTrue rfl ?_ | refine WC.condFalse rfl ?_)
    refine WC.block ?_
    refine WC.loop (fun j : Nat => [(0, .pointer (some ⟨b, 0, none⟩)), (1, .int .i64 f)])
      (fun j w' => f ≤ j ∧ j ≤ i ∧ Keep (fun x => x ≠ b ∧ x ≠ c) w w' ∧ VBlk nodeT w' b (rowOf (ndF { nb with es := nb.es.take j } pb)) ∧ VBlk nodeT w' c (rowOf (ndF { nc with es := nc.es ++ nb.es.drop f } pc))) (fun j => j) i ⟨rfl, rfl, trivial⟩
      ⟨hf, Nat.le_refl _, hk, by rw [List.take_of_length_le (by omega)]; exact hvb, hvc⟩ ?_
    rintro j wq ⟨hfj, hji, hkj, hvbj, hvcj⟩
    have hcnt2 := cellR hvbj (j := 1) (by omega)
    have hlj : (nb.es.take j).length = j := by rw [List.length_take]; omega
    rw [ndF_cnt] at hcnt2
    simp only [hlj] at hcnt2
    by_cases hjf : f < j
    · obtain ⟨j', rfl⟩ : ∃ j', j = j' + 1 := ⟨j - 1, by omega⟩
      have hw1 : ((j' + 1 : Nat) : Int) - 1 = j' := by omega
      repeat (first | ((with_reducible refine WL.topT ?_ ?_); omega) | ((with_reducible refine WL.topF ?_ ?_); omega) | ((with_reducible refine WL.top64 ?_ ?_); omega) | refine WC.seq ?_ | refine WC.block ?_ | refine WC.region ?_ | refine WL.nil ?_ | refine WC.skip ?_ | refine WC.exit ?_ | refine WC.ret ?_ | refine WQ.then rfl ?_ | refine WQ.thenExit ?_ | refine WQ.thenRet ?_ | refine WQ.blk ?_ | refine WQ.blkRet ?_ | refine WQ.blkHere rfl ?_ | refine WQ.blkOther rfl ?_ | refine WL.pure rfl rfl rfl rfl ?_ | refine WL.on rfl rfl ?_ | refine WL.off rfl rfl rfl ?_ | refine WL.load rfl rfl rfl rfl rfl rfl (by assumption) ?_ | refine WC.condTrue rfl ?_ | refine WC.condFalse rfl ?_)
      refine WL.as 51 (.int .i64 j') rfl (congrArg (Value.int .i64) hw1) ?_
      refine WL.call rfl rfl rfl rfl rfl Try.func38 rfl (by kernel_rfl) (ncut_any (i := j') hvbj (by show j' < (nb.es.take (j' + 1)).length; omega) (by show (nb.es.take (j' + 1)).length ≤ 8; omega)) ?_
      rintro _ w3 ⟨rfl, hk3, hv3⟩
      refine ⟨_, rfl, ?_⟩
      repeat (first | ((with_reducible refine WL.topT ?_ ?_); omega) | ((with_reducible refine WL.topF ?_ ?_); omega) | ((with_reducible refine WL.top64 ?_ ?_); omega) | refine WC.seq ?_ | refine WC.block ?_ | refine WC.region ?_ | refine WL.nil ?_ | refine WC.skip ?_ | refine WC.exit ?_ | refine WC.ret ?_ | refine WQ.then rfl ?_ | refine WQ.thenExit ?_ | refine WQ.thenRet ?_ | refine WQ.blk ?_ | refine WQ.blkRet ?_ | refine WQ.blkHere rfl ?_ | refine WQ.blkOther rfl ?_ | refine WL.pure rfl rfl rfl rfl ?_ | refine WL.on rfl rfl ?_ | refine WL.off rfl rfl rfl ?_ | refine WC.condTrue rfl ?_ | refine WC.condFalse rfl ?_)
      refine WQ.again j' ⟨rfl, rfl, trivial⟩ ⟨by omega, by omega, hkj.trans (hk3.mono fun x hx => hx.1), ?_, hvcj.keep hk3 hbc.symm⟩ (by show j' < j' + 1; omega)
      simp only at hv3
      rw [era_end _ hlj, List.take_take, show min j' (j' + 1) = j' by omega] at hv3
      exact hv3
    · obtain rfl : j = f := by omega
      repeat (first | ((with_reducible refine WL.topT ?_ ?_); omega) | ((with_reducible refine WL.topF ?_ ?_); omega) | ((with_reducible refine WL.top64 ?_ ?_); omega) | refine WC.seq ?_ | refine WC.block ?_ | refine WC.region ?_ | refine WL.nil ?_ | refine WC.skip ?_ | refine WC.exit ?_ | refine WC.ret ?_ | refine WQ.then rfl ?_ | refine WQ.thenExit ?_ | refine WQ.thenRet ?_ | refine WQ.blk ?_ | refine WQ.blkRet ?_ | refine WQ.blkHere rfl ?_ | refine WQ.blkOther rfl ?_ | refine WL.pure rfl rfl rfl rfl ?_ | refine WL.on rfl rfl ?_ | refine WL.off rfl rfl rfl ?_ | refine WL.load rfl rfl rfl rfl rfl rfl (by assumption) ?_ | refine WC.condTrue rfl ?_ | refine WC.condFalse rfl ?_)
      exact WQ.end0 rfl ⟨rfl, hkj, hvbj, hvcj⟩
end K
end Go.Proofs.Ytilmfnlaenneeaa

/- Trees (chapter 13): split. -/
namespace Go.Proofs.Ytilmfnlaenneeaa
open Go.RowKit
namespace K
open Tre
abbrev treeT : Nat := 55
theorem built_node (lf : Bool) : Try.prog.built nodeT [(0, .bool lf)] = some (rowOf (ndF ⟨lf, [], none⟩ none)).toArray := by cases lf <;> kernel_rfl
theorem row_next (nd : Nd) (pv x : Option Nat) : rowOf (fun i => if i = 26 then ptrV x else ndF nd pv i) = rowOf (ndF { nd with next := x } pv) := rowOf_ext fun j hj => by
  by_cases h : j = 26
  · subst h; rfl
  · show (if j = 26 then _ else _) = _
    rw [if_neg h]
    unfold ndF
    simp only [h, if_false]
theorem row_prev (nd : Nd) (pv x : Option Nat) : rowOf (fun i => if i = 27 then ptrV x else ndF nd pv i) = rowOf (ndF nd x) := rowOf_ext fun j hj => by
  by_cases h : j = 27
  · subst h; rfl
  · show (if j = 27 then _ else _) = _
    rw [if_neg h]
    unfold ndF
    by_cases h2 : j = 26
    · subst h2; rfl
    · simp only [h2, if_false]
      repeat' split
      all_goals first | rfl | omega
theorem Mem.setPrev {w : World} {st : St} (h : Mem w st) {q : Nat} (hq : st q ≠ none) (x : Option Nat) : Mem (w.setCell ⟨q, 27, none⟩ (ptrV x)) st := fun b nd e => by
  obtain ⟨h1, pv, h2⟩ := h b nd e
  by_cases hb : b = q
  · subst hb
    refine ⟨h1, x, ?_⟩
    have := setR h2 27 (ptrV x)
    rwa [row_prev] at this
  · exact ⟨h1, pv, h2.keep ((Keep.refl (fun y => y ≠ q) w).setCell (fun hk => hk rfl) _) hb⟩
theorem Mem.upd2 {w w' : World} {st : St} {b g : Nat} {nb ng : Nd} {pb pg : Option Nat} (h : Mem w st) (hk : Keep (fun x => x < w.heap.size ∧ x ≠ b) w w') (hbl : nb.es.length ≤ 8) (hgl : ng.es.length ≤ 8) (hb : VBlk nodeT w' b (rowOf (ndF nb pb))) (hg : VBlk nodeT w' g (rowOf (ndF ng pg))) :
    Mem w' (Tre.upd (Tre.upd st b nb) g ng) := fun x nd e => by
  by_cases hx : x = g
  · subst hx; rw [upd_eq] at e; obtain rfl := Option.some.inj e; exact ⟨hgl, pg, hg⟩
  · rw [upd_ne hx] at e
    by_cases hx2 : x = b
    · subst hx2; rw [upd_eq] at e; obtain rfl := Option.some.inj e; exact ⟨hbl, pb, hb⟩
    · rw [upd_ne hx2] at e
      obtain ⟨h1, pv, h2⟩ := h x nd e
      exact ⟨h1, pv, h2.keep hk ⟨h2.lt, hx2⟩⟩
/-- What is no node and not the tree stays. -/
def Out (st : St) (tb : Nat) (w : World) : Nat → Prop := fun x => x < w.heap.size ∧ st x = none ∧ x ≠ tb
def trC (root : Option Nat) (size nodes : Nat) : List Value := [ptrV root, .int .i64 size, .int .i64 nodes]
set_option maxRecDepth 20000 in
set_option maxHeartbeats 2000000 in
theorem split_any {w : World} {st : St} {tb b : Nat} {nd : Nd} {root : Option Nat} {size n : Nat} (hm : Mem w st) (hb : st b = some nd) (h8 : nd.es.length = 8) (hnx : ∀ q, nd.next = some q → st q ≠ none) (hlf : nd.leaf = false → nd.next = none)
    (ht : VBlk treeT w tb (trC root size n)) (htb : st tb = none) (hn : n < 4611686018427387904) :
    Calls Try.prog 25 #[.pointer (some ⟨tb, 0, none⟩), .pointer (some ⟨b, 0, none⟩)] w fun e w' => ∃ g, e = .returned (.pointer (some ⟨g, 0, none⟩)) ∧ w.heap.size ≤ g ∧
      Mem w' (upd (upd st b ⟨nd.leaf, nd.es.take 4, if nd.leaf then some g else none⟩) g ⟨nd.leaf, nd.es.drop 4, nd.next⟩) ∧ VBlk treeT w' tb (trC root size (n + 1)) ∧ Keep (Out st tb w) w w' := by
  refine enter (args := [.pointer (some ⟨tb, 0, none⟩), .pointer (some ⟨b, 0, none⟩)]) Try.func25 rfl Try.ntmps25 rfl ?_
  have hbt : b ≠ tb := fun e => by rw [e, htb] at hb; cases hb
  obtain ⟨-, pb, vb⟩ := hm b nd hb
  have hl0 : w.cell? ⟨b, 0, none⟩ = some (.bool nd.leaf) := cellR vb (by omega)
  repeat (first | ((with_reducible refine WL.topT ?_ ?_); omega) | ((with_reducible refine WL.topF ?_ ?_); omega) | ((with_reducible refine WL.top64 ?_ ?_); omega) | refine WC.seq ?_ | refine WC.block ?_ | refine WC.region ?_ | refine WL.nil ?_ | refine WC.skip ?_ | refine WC.exit ?_ | refine WC.ret ?_ | refine WQ.then rfl ?_ | refine WQ.thenExit ?_ | refine WQ.thenRet ?_ | refine WQ.blk ?_ | refine WQ.blkRet ?_ | refine WQ.blkHere rfl ?_ | refine WQ.blkOther rfl ?_ | refine WL.pure rfl rfl rfl rfl ?_ | refine WL.on rfl rfl ?_ | refine WL.off rfl rfl rfl ?_ | refine WL.load rfl rfl rfl rfl rfl rfl (by assumption) ?_ | refine WC.condTrue rfl ?_ | refine WC.condFalse rfl ?_)
  refine WL.build (rowOf (ndF ⟨nd.leaf, [], none⟩ none)) rfl rfl rfl rfl rfl (built_node _) ?_
  refine WL.box rfl rfl rfl rfl rfl fun g w1 hf0 => ?_
  have hf : Fresh w g w1 nodeT (rowOf (ndF ⟨nd.leaf, [], none⟩ none)) := hf0
  clear hf0 hl0
  have hgs := hf.eq
  have vb1 := vb.below hf.below vb.lt
  have vt1 := ht.below hf.below ht.lt
  have vg1 := hf.blk
  have hbg : b ≠ g := by have := vb.lt; omega
  have htg : tb ≠ g := by have := ht.lt; omega
  have K1 : Keep (fun x => x < w.heap.size ∧ x ≠ b) w w1 := (Keep.of_below hf.below).mono fun x hx => hx.1
  have KT1 : Keep (fun x => x < w.heap.size ∧ st x = none) w w1 := (Keep.of_below hf.below).mono fun x hx => hx.1
  clear hf vb
  repeat (first | ((with_reducible refine WL.topT ?_ ?_); omega) | ((with_reducible refine WL.topF ?_ ?_); omega) | ((with_reducible refine WL.top64 ?_ ?_); omega) | refine WC.seq ?_ | refine WC.block ?_ | refine WC.region ?_ | refine WL.nil ?_ | refine WC.skip ?_ | refine WC.exit ?_ | refine WC.ret ?_ | refine WQ.then rfl ?_ | refine WQ.thenExit ?_ | refine WQ.thenRet ?_ | refine WQ.blk ?_ | refine WQ.blkRet ?_ | refine WQ.blkHere rfl ?_ | refine WQ.blkOther rfl ?_ | refine WL.pure rfl rfl rfl rfl ?_ | refine WL.on rfl rfl ?_ | refine WL.off rfl rfl rfl ?_ | refine WC.condTrue rfl ?_ | refine WC.condFalse rfl ?_)
  refine WL.call rfl rfl rfl rfl rfl Try.func37 rfl (by kernel_rfl) (moves_any (f := 4) vb1 vg1 hbg (by omega) (by omega) (by show ([] : List En).length + (nd.es.length - 4) ≤ 8; simp; omega)) ?_
  rintro _ w2 ⟨rfl, hk2, vb2, vg2⟩
  refine ⟨_, rfl, ?_⟩
  simp only [List.nil_append] at vg2
  have vt2 := vt1.keep hk2 ⟨hbt.symm, htg⟩
  have K2 := K1.trans (hk2.mono fun x hx => ⟨hx.2, by omega⟩)
  have KT2 : Keep (fun x => x < w.heap.size ∧ st x = none ∧ x ≠ b) w w2 := (KT1.mono fun x hx => ⟨hx.1, hx.2.1⟩).trans (hk2.mono fun x hx => ⟨hx.2.2, by omega⟩)
  clear hk2 vb1 vg1 vt1 K1 KT1
  have hl2 : w2.cell? ⟨b, 0, none⟩ = some (.bool nd.leaf) := cellR vb2 (by omega)
  have hx2 : w2.cell? ⟨b, 26, none⟩ = some (ptrV nd.next) := cellR vb2 (by omega)
  -- the end: one more node
  have fin : ∀ {wz : World}, VBlk treeT wz tb (trC root size n) → VBlk treeT (wz.setCell ⟨tb, 2, none⟩ (.int .i64 ((n : Int) + 1))) tb (trC root size (n + 1)) := fun h => h.set 2 _
  cases hleaf : nd.leaf with
  | false =>
    rw [hleaf] at hl2 vb2 vg2
    have hn0 := hlf hleaf
    have M2 : Mem w2 (upd (upd st b ⟨false, nd.es.take 4, none⟩) g ⟨false, nd.es.drop 4, nd.next⟩) := by
      rw [hn0] at vb2 ⊢
      exact hm.upd2 K2 (by simp; omega) (by simp; omega) vb2 vg2
    have hc2 : w2.cell? ⟨tb, 2, none⟩ = some (.int .i64 n) := vt2.cell 2 (by simp [trC])
    repeat (first | ((with_reducible refine WL.topT ?_ ?_); omega) | ((with_reducible refine WL.topF ?_ ?_); omega) | ((with_reducible refine WL.top64 ?_ ?_); omega) | refine WC.seq ?_ | refine WC.block ?_ | refine WC.region ?_ | refine WL.nil ?_ | refine WC.skip ?_ | refine WC.exit ?_ | refine WC.ret ?_ | refine WQ.then rfl ?_ | refine WQ.thenExit ?_ | refine WQ.thenRet ?_ | refine WQ.blk ?_ | refine WQ.blkRet ?_ | refine WQ.blkHere rfl ?_ | refine WQ.blkOther rfl ?_ | refine WL.pure rfl rfl rfl rfl ?_ | refine WL.on rfl rfl ?_ | refine WL.off rfl rfl rfl ?_ | refine WL.load rfl rfl rfl rfl rfl rfl (by assumption) ?_ | refine WC.condTrue rfl ?_ | refine WC.condFalse rfl ?_)
    refine WL.store rfl rfl rfl rfl rfl rfl (by kernel_rfl) hc2 (vt2.free 2) ?_
    have vt3 := fin vt2
    have M3 : Mem (w2.setCell ⟨tb, 2, none⟩ (.int .i64 ((n : Int) + 1))) _ := M2.keep ((Keep.refl (fun y => y ≠ tb) w2).setCell (fun hk => hk rfl) _) fun x hx e => by
      subst e
      rw [upd_ne htg, upd_ne hbt.symm] at hx
      exact hx htb
    have K3 : Keep (Out st tb w) w (w2.setCell ⟨tb, 2, none⟩ (.int .i64 ((n : Int) + 1))) := (KT2.mono fun x hx => ⟨hx.1, hx.2.1, fun e => by have := hx.2.1; rw [e, hb] at this; cases this⟩).setCell (fun hk => hk.2.2 rfl) _
    generalize w2.setCell ⟨tb, 2, none⟩ (.int .i64 ((n : Int) + 1)) = w3 at vt3 M3 K3 ⊢
    repeat (first | ((with_reducible refine WL.topT ?_ ?_); omega) | ((with_reducible refine WL.topF ?_ ?_); omega) | ((with_reducible refine WL.top64 ?_ ?_); omega) | refine WC.seq ?_ | refine WC.block ?_ | refine WC.region ?_ | refine WL.nil ?_ | refine WC.skip ?_ | refine WC.exit ?_ | refine WC.ret ?_ | refine WQ.then rfl ?_ | refine WQ.thenExit ?_ | refine WQ.thenRet ?_ | refine WQ.blk ?_ | refine WQ.blkRet ?_ | refine WQ.blkHere rfl ?_ | refine WQ.blkOther rfl ?_ | refine WL.pure rfl rfl rfl rfl ?_ | refine WL.on rfl rfl ?_ | refine WL.off rfl rfl rfl ?_ | refine WC.condTrue rfl ?_ | refine WC.condFalse rfl ?_)
    refine WQ.ret1 rfl rfl ⟨g, rfl, by omega, ?_, vt3, K3⟩
    simpa using M3
  | true =>
    rw [hleaf] at hl2 vb2 vg2
    repeat (first | ((with_reducible refine WL.topT ?_ ?_); omega) | ((with_reducible refine WL.topF ?_ ?_); omega) | ((with_reducible refine WL.top64 ?_ ?_); omega) | refine WC.seq ?_ | refine WC.block ?_ | refine WC.region ?_ | refine WL.nil ?_ | refine WC.skip ?_ | refine WC.exit ?_ | refine WC.ret ?_ | refine WQ.then rfl ?_ | refine WQ.thenExit ?_ | refine WQ.thenRet ?_ | refine WQ.blk ?_ | refine WQ.blkRet ?_ | refine WQ.blkHere rfl ?_ | refine WQ.blkOther rfl ?_ | refine WL.pure rfl rfl rfl rfl ?_ | refine WL.on rfl rfl ?_ | refine WL.off rfl rfl rfl ?_ | refine WL.load rfl rfl rfl rfl rfl rfl (by assumption) ?_ | refine WC.condTrue rfl ?_ | refine WC.condFalse rfl ?_)
    refine WL.store rfl rfl rfl rfl rfl (ptrV_one _) (by kernel_rfl) (cellR vg2 (by omega)) (vg2.free 26) ?_
    have vg3 := setR vg2 26 (ptrV nd.next)
    rw [row_next] at vg3
    have s3 : Keep (fun y => y ≠ g) w2 (w2.setCell ⟨g, 26, none⟩ (ptrV nd.next)) := (Keep.refl _ _).setCell (fun hk => hk rfl) _
    have vb3 := vb2.keep s3 hbg
    have vt3 := vt2.keep s3 htg
    have K3 := K2.trans (s3.mono fun x hx => by omega)
    have KT3 := KT2.trans (s3.mono fun x hx => by omega)
    generalize w2.setCell ⟨g, 26, none⟩ (ptrV nd.next) = w3 at vg3 vb3 vt3 K3 KT3 ⊢
    clear s3 vg2 vb2 vt2 K2 KT2 hl2 hx2
    repeat (first | ((with_reducible refine WL.topT ?_ ?_); omega) | ((with_reducible refine WL.topF ?_ ?_); omega) | ((with_reducible refine WL.top64 ?_ ?_); omega) | refine WC.seq ?_ | refine WC.block ?_ | refine WC.region ?_ | refine WL.nil ?_ | refine WC.skip ?_ | refine WC.exit ?_ | refine WC.ret ?_ | refine WQ.then rfl ?_ | refine WQ.thenExit ?_ | refine WQ.thenRet ?_ | refine WQ.blk ?_ | refine WQ.blkRet ?_ | refine WQ.blkHere rfl ?_ | refine WQ.blkOther rfl ?_ | refine WL.pure rfl rfl rfl rfl ?_ | refine WL.on rfl rfl ?_ | refine WL.off rfl rfl rfl ?_ | refine WC.condTrue rfl ?_ | refine WC.condFalse rfl ?_)
    refine WL.store rfl rfl rfl rfl rfl rfl (by kernel_rfl) (cellR vg3 (by omega)) (vg3.free 27) ?_
    have vg4 := setR vg3 27 (ptrV (some b))
    rw [row_prev] at vg4
    have s4 : Keep (fun y => y ≠ g) w3 (w3.setCell ⟨g, 27, none⟩ (ptrV (some b))) := (Keep.refl _ _).setCell (fun hk => hk rfl) _
    have vb4 := vb3.keep s4 hbg
    have vt4 := vt3.keep s4 htg
    have K4 := K3.trans (s4.mono fun x hx => by omega)
    have KT4 := KT3.trans (s4.mono fun x hx => by omega)
    rw [show Value.pointer (some ⟨b, 0, none⟩) = ptrV (some b) from rfl]
    generalize w3.setCell ⟨g, 27, none⟩ (ptrV (some b)) = w4 at vg4 vb4 vt4 K4 KT4 ⊢
    clear s4 vg3 vb3 vt3 K3 KT3
    repeat (first | ((with_reducible refine WL.topT ?_ ?_); omega) | ((with_reducible refine WL.topF ?_ ?_); omega) | ((with_reducible refine WL.top64 ?_ ?_); omega) | refine WC.seq ?_ | refine WC.block ?_ | refine WC.region ?_ | refine WL.nil ?_ | refine WC.skip ?_ | refine WC.exit ?_ | refine WC.ret ?_ | refine WQ.then rfl ?_ | refine WQ.thenExit ?_ | refine WQ.thenRet ?_ | refine WQ.blk ?_ | refine WQ.blkRet ?_ | refine WQ.blkHere rfl ?_ | refine WQ.blkOther rfl ?_ | refine WL.pure rfl rfl rfl rfl ?_ | refine WL.on rfl rfl ?_ | refine WL.off rfl rfl rfl ?_ | refine WC.condTrue rfl ?_ | refine WC.condFalse rfl ?_)
    refine WL.store rfl rfl rfl rfl rfl rfl (by kernel_rfl) (cellR vb4 (by omega)) (vb4.free 26) ?_
    have vb5 := setR vb4 26 (ptrV (some g))
    rw [row_next] at vb5
    have s5 : Keep (fun y => y ≠ b) w4 (w4.setCell ⟨b, 26, none⟩ (ptrV (some g))) := (Keep.refl _ _).setCell (fun hk => hk rfl) _
    have vg5 := vg4.keep s5 hbg.symm
    have vt5 := vt4.keep s5 hbt.symm
    have K5 := K4.trans (s5.mono fun x hx => hx.2)
    have KT5 := KT4.trans (s5.mono fun x hx => hx.2.2)
    rw [show Value.pointer (some ⟨g, 0, none⟩) = ptrV (some g) from rfl]
    generalize w4.setCell ⟨b, 26, none⟩ (ptrV (some g)) = w5 at vg5 vb5 vt5 K5 KT5 ⊢
    clear s5 vg4 vb4 vt4 K4 KT4
    have M5 : Mem w5 (upd (upd st b ⟨true, nd.es.take 4, some g⟩) g ⟨true, nd.es.drop 4, nd.next⟩) := hm.upd2 K5 (by simp; omega) (by simp; omega) vb5 vg5
    have hn5 : w5.cell? ⟨g, 26, none⟩ = some (ptrV nd.next) := cellR vg5 (by omega)
    have K5' : Keep (fun x => x < w.heap.size ∧ st x = none ∧ x ≠ tb) w w5 := KT5.mono fun x hx => ⟨hx.1, hx.2.1, fun e => by have := hx.2.1; rw [e, hb] at this; cases this⟩
    clear K5 KT5 vb5 vg5
    repeat (first | ((with_reducible refine WL.topT ?_ ?_); omega) | ((with_reducible refine WL.topF ?_ ?_); omega) | ((with_reducible refine WL.top64 ?_ ?_); omega) | refine WC.seq ?_ | refine WC.block ?_ | refine WC.region ?_ | refine WL.nil ?_ | refine WC.skip ?_ | refine WC.exit ?_ | refine WC.ret ?_ | refine WQ.then rfl ?_ | refine WQ.thenExit ?_ | refine WQ.thenRet ?_ | refine WQ.blk ?_ | refine WQ.blkRet ?_ | refine WQ.blkHere rfl ?_ | refine WQ.blkOther rfl ?_ | refine WL.pure rfl rfl rfl rfl ?_ | refine WL.on rfl rfl ?_ | refine WL.off rfl rfl rfl ?_ | refine WL.load rfl rfl rfl rfl rfl rfl (by assumption) ?_ | refine WC.condTrue rfl ?_ | refine WC.condFalse rfl ?_)
    cases hnext : nd.next with
    | none =>
      rw [hnext] at M5
      refine WL.as 37 (.pointer none) rfl rfl ?_
      refine WL.notNilP rfl rfl rfl rfl rfl rfl (by kernel_rfl) ?_
      have hc5 : w5.cell? ⟨tb, 2, none⟩ = some (.int .i64 n) := vt5.cell 2 (by simp [trC])
      repeat (first | ((with_reducible refine WL.topT ?_ ?_); omega) | ((with_reducible refine WL.topF ?_ ?_); omega) | ((with_reducible refine WL.top64 ?_ ?_); omega) | refine WC.seq ?_ | refine WC.block ?_ | refine WC.region ?_ | refine WL.nil ?_ | refine WC.skip ?_ | refine WC.exit ?_ | refine WC.ret ?_ | refine WQ.then rfl ?_ | refine WQ.thenExit ?_ | refine WQ.thenRet ?_ | refine WQ.blk ?_ | refine WQ.blkRet ?_ | refine WQ.blkHere rfl ?_ | refine WQ.blkOther rfl ?_ | refine WL.pure rfl rfl rfl rfl ?_ | refine WL.on rfl rfl ?_ | refine WL.off rfl rfl rfl ?_ | refine WL.load rfl rfl rfl rfl rfl rfl (by assumption) ?_ | refine WC.condTrue rfl ?_ | refine WC.condFalse rfl ?_)
      refine WL.store rfl rfl rfl rfl rfl rfl (by kernel_rfl) hc5 (vt5.free 2) ?_
      have vt6 := fin vt5
      have M6 : Mem (w5.setCell ⟨tb, 2, none⟩ (.int .i64 ((n : Int) + 1))) _ := M5.keep ((Keep.refl (fun y => y ≠ tb) w5).setCell (fun hk => hk rfl) _) fun x hx e => by
        subst e
        rw [upd_ne htg, upd_ne hbt.symm] at hx
        exact hx htb
      have K6 : Keep (Out st tb w) w (w5.setCell ⟨tb, 2, none⟩ (.int .i64 ((n : Int) + 1))) := K5'.setCell (fun hk => hk.2.2 rfl) _
      generalize w5.setCell ⟨tb, 2, none⟩ (.int .i64 ((n : Int) + 1)) = w6 at vt6 M6 K6 ⊢
      repeat (first | ((with_reducible refine WL.topT ?_ ?_); omega) | ((with_reducible refine WL.topF ?_ ?_); omega) | ((with_reducible refine WL.top64 ?_ ?_); omega) | refine WC.seq ?_ | refine WC.block ?_ | refine WC.region ?_ | refine WL.nil ?_ | refine WC.skip ?_ | refine WC.exit ?_ | refine WC.ret ?_ | refine WQ.then rfl ?_ | refine WQ.thenExit ?_ | refine WQ.thenRet ?_ | refine WQ.blk ?_ | refine WQ.blkRet ?_ | refine WQ.blkHere rfl ?_ | refine WQ.blkOther rfl ?_ | refine WL.pure rfl rfl rfl rfl ?_ | refine WL.on rfl rfl ?_ | refine WL.off rfl rfl rfl ?_ | refine WC.condTrue rfl ?_ | refine WC.condFalse rfl ?_)
      refine WQ.ret1 rfl rfl ⟨g, rfl, by omega, ?_, vt6, K6⟩
      simpa using M6
    | some q =>
      have hq := hnx q hnext
      have hqt : q ≠ tb := fun e => hq (by rw [e]; exact htb)
      have hq5 : upd (upd st b ⟨true, nd.es.take 4, some g⟩) g ⟨true, nd.es.drop 4, nd.next⟩ q ≠ none := by
        unfold upd; split
        · simp
        · split
          · simp
          · exact hq
      obtain ⟨ndq, hndq⟩ := Option.ne_none_iff_exists'.1 hq5
      obtain ⟨-, pq, vq⟩ := M5 q ndq hndq
      rw [hnext] at hn5
      refine WL.as 37 (.pointer (some ⟨q, 0, none⟩)) rfl rfl ?_
      refine WL.notNilP rfl rfl rfl rfl rfl rfl (by kernel_rfl) ?_
      have hn5' : w5.cell? ⟨g, 26, none⟩ = some (.pointer (some ⟨q, 0, none⟩)) := hn5
      clear hn5
      repeat (first | ((with_reducible refine WL.topT ?_ ?_); omega) | ((with_reducible refine WL.topF ?_ ?_); omega) | ((with_reducible refine WL.top64 ?_ ?_); omega) | refine WC.seq ?_ | refine WC.block ?_ | refine WC.region ?_ | refine WL.nil ?_ | refine WC.skip ?_ | refine WC.exit ?_ | refine WC.ret ?_ | refine WQ.then rfl ?_ | refine WQ.thenExit ?_ | refine WQ.thenRet ?_ | refine WQ.blk ?_ | refine WQ.blkRet ?_ | refine WQ.blkHere rfl ?_ | refine WQ.blkOther rfl ?_ | refine WL.pure rfl rfl rfl rfl ?_ | refine WL.on rfl rfl ?_ | refine WL.off rfl rfl rfl ?_ | refine WL.load rfl rfl rfl rfl rfl rfl (by assumption) ?_ | refine WC.condTrue rfl ?_ | refine WC.condFalse rfl ?_)
      refine WL.store rfl rfl rfl rfl rfl rfl (by kernel_rfl) (cellR vq (by omega)) (vq.free 27) ?_
      rw [show Value.pointer (some ⟨g, 0, none⟩) = ptrV (some g) from rfl]
      have M6 := M5.setPrev hq5 (some g)
      have s6 : Keep (fun y => y ≠ q) w5 (w5.setCell ⟨q, 27, none⟩ (ptrV (some g))) := (Keep.refl _ _).setCell (fun hk => hk rfl) _
      have vt6 := vt5.keep s6 hqt.symm
      have K6 := K5'.trans (s6.mono fun x hx e => hq (by rw [← e]; exact hx.2.1))
      generalize w5.setCell ⟨q, 27, none⟩ (ptrV (some g)) = w6 at M6 vt6 K6 ⊢
      clear s6 M5 vt5 K5' vq
      have hc6 : w6.cell? ⟨tb, 2, none⟩ = some (.int .i64 n) := vt6.cell 2 (by simp [trC])
      repeat (first | ((with_reducible refine WL.topT ?_ ?_); omega) | ((with_reducible refine WL.topF ?_ ?_); omega) | ((with_reducible refine WL.top64 ?_ ?_); omega) | refine WC.seq ?_ | refine WC.block ?_ | refine WC.region ?_ | refine WL.nil ?_ | refine WC.skip ?_ | refine WC.exit ?_ | refine WC.ret ?_ | refine WQ.then rfl ?_ | refine WQ.thenExit ?_ | refine WQ.thenRet ?_ | refine WQ.blk ?_ | refine WQ.blkRet ?_ | refine WQ.blkHere rfl ?_ | refine WQ.blkOther rfl ?_ | refine WL.pure rfl rfl rfl rfl ?_ | refine WL.on rfl rfl ?_ | refine WL.off rfl rfl rfl ?_ | refine WL.load rfl rfl rfl rfl rfl rfl (by assumption) ?_ | refine WC.condTrue rfl ?_ | refine WC.condFalse rfl ?_)
      refine WL.store rfl rfl rfl rfl rfl rfl (by kernel_rfl) hc6 (vt6.free 2) ?_
      have vt7 := fin vt6
      have M7 : Mem (w6.setCell ⟨tb, 2, none⟩ (.int .i64 ((n : Int) + 1))) _ := M6.keep ((Keep.refl (fun y => y ≠ tb) w6).setCell (fun hk => hk rfl) _) fun x hx e => by
        subst e
        rw [upd_ne htg, upd_ne hbt.symm] at hx
        exact hx htb
      have K7 : Keep (Out st tb w) w (w6.setCell ⟨tb, 2, none⟩ (.int .i64 ((n : Int) + 1))) := K6.setCell (fun hk => hk.2.2 rfl) _
      generalize w6.setCell ⟨tb, 2, none⟩ (.int .i64 ((n : Int) + 1)) = w7 at vt7 M7 K7 ⊢
      repeat (first | ((with_reducible refine WL.topT ?_ ?_); omega) | ((with_reducible refine WL.topF ?_ ?_); omega) | ((with_reducible refine WL.top64 ?_ ?_); omega) | refine WC.seq ?_ | refine WC.block ?_ | refine WC.region ?_ | refine WL.nil ?_ | refine WC.skip ?_ | refine WC.exit ?_ | refine WC.ret ?_ | refine WQ.then rfl ?_ | refine WQ.thenExit ?_ | refine WQ.thenRet ?_ | refine WQ.blk ?_ | refine WQ.blkRet ?_ | refine WQ.blkHere rfl ?_ | refine WQ.blkOther rfl ?_ | refine WL.pure rfl rfl rfl rfl ?_ | refine WL.on rfl rfl ?_ | refine WL.off rfl rfl rfl ?_ | refine WC.condTrue rfl ?_ | refine WC.condFalse rfl ?_)
      refine WQ.ret1 rfl rfl ⟨g, rfl, by omega, ?_, vt7, K7⟩
      rw [hnext] at M7
      simpa using M7
end K
end Go.Proofs.Ytilmfnlaenneeaa

/- Trees (chapter 13): a tree in memory; what a step does to it. -/
namespace Go.Proofs.Ytilmfnlaenneeaa
open Go.RowKit
namespace K
open Tre
theorem Good_congr {st st' : St} {D : Nat} {T : Tr D} {l : List KV} (h : Tre.Good st D T l) (hc : ∀ b ∈ bks D T, st' b = st b) : Tre.Good st' D T l :=
  ⟨h.rep.congr hc, h.lnk.congr fun x hx => hc _ (lvs_bks D T x hx), h.nodup, h.el, h.srt, h.mn, h.root⟩
theorem spl_of {d : Nat} {st : St} {t : Tr d} {g : Nat} {nx : Option Nat} (h : st (blk d t) = some ⟨d == 0, ents d t, nx⟩) (hg : g ≠ blk d t) :
    Spl st (upd (upd st (blk d t) ⟨d == 0, (ents d t).take 4, if (d == 0) = true then some g else none⟩) g ⟨d == 0, (ents d t).drop 4, nx⟩) d t g := by
  refine ⟨⟨nx, h, ?_, upd_eq _ _ _⟩, fun x h1 h2 => by rw [upd_ne h2, upd_ne h1]⟩
  rw [upd_ne hg.symm, upd_eq]
  cases d <;> rfl
theorem kidE_spl {d g : Nat} {s : Tr d} (hc : cnt d s = 8) (hm : Mn d s) : kidE d (spl d s g).1 = kidE d s := by
  unfold kidE fk
  have h1 := els_ne (spl_mn d s g hc hm).1 (by rw [(spl_cnt d s g hc).1]; omega)
  have h2 := spl_els d s g
  rw [(spl_blk d s g).1, ← h2, fst_app h1]
theorem ins_kids {d g : Nat} {l r : List (Tr d)} {s : Tr d} (hc : cnt d s = 8) (hm : Mn d s) :
    ins ((l ++ s :: r).map (kidE d)) (l.length + 1) ⟨fk d (spl d s g).2, 0, some g⟩ = (l ++ (spl d s g).1 :: (spl d s g).2 :: r).map (kidE d) := by
  unfold ins
  simp only [List.map_append, List.map_cons]
  rw [kidE_spl hc hm]
  have e : kidE d (spl d s g).2 = ⟨fk d (spl d s g).2, 0, some g⟩ := by unfold kidE; rw [(spl_blk d s g).2]
  rw [e]
  have hl : (l.map (kidE d)).length = l.length := List.length_map ..
  rw [List.take_append, List.drop_append]
  simp [hl, List.take_of_length_le (show (l.map (kidE d)).length ≤ l.length + 1 by omega), List.drop_eq_nil_of_le (show (l.map (kidE d)).length ≤ l.length + 1 by omega)]
theorem key2 {d g : Nat} {s : Tr d} (hc : cnt d s = 8) (hm : Mn d s) : (((ents d s).drop 4).getD 0 noE).key = fk d (spl d s g).2 := by
  rw [← (spl_ents d s g).2]
  exact ents_key0 (spl_mn d s g hc hm).2 (by rw [(spl_cnt d s g hc).2]; omega) _
theorem insL_length {k : Ky} {n : Int} {l : List KV} (h : Srt l) : (insL k n l).length = if (getL k l).isSome then l.length else l.length + 1 := by
  have hp := plc_le k (l.map Prod.fst)
  rw [List.length_map] at hp
  rw [ins_at h, getL_at h]
  by_cases c : (l.map Prod.fst)[plc k (l.map Prod.fst)]? = some k
  · have hlt : plc k (l.map Prod.fst) < l.length := by
      rcases Nat.lt_or_ge (plc k (l.map Prod.fst)) l.length with h | h
      · exact h
      · rw [List.getElem?_eq_none (by simpa using h)] at c; cases c
    rw [if_pos c, if_pos c, List.getElem?_eq_getElem hlt]
    simp only [List.length_append, List.length_take, List.length_cons, List.length_drop, Option.map_some, Option.isSome_some, if_true]
    omega
  · rw [if_neg c, if_neg c]
    simp only [List.length_append, List.length_take, List.length_cons, List.length_drop, Option.isSome_none, Bool.false_eq_true, if_false]
    omega
theorem row_num (nd : Nd) (pv : Option Nat) {p : Nat} (hp : p < nd.es.length) (h8 : nd.es.length ≤ 8) (n : Int) :
    rowOf (fun j => if j = 10 + p then Value.int .i64 n else ndF nd pv j) = rowOf (ndF { nd with es := nd.es.set p ⟨(nd.es.getD p noE).key, n, (nd.es.getD p noE).kid⟩ } pv) := rowOf_ext fun j hj => by
  have hset : ∀ q, (nd.es.set p ⟨(nd.es.getD p noE).key, n, (nd.es.getD p noE).kid⟩).getD q noE = if q = p then ⟨(nd.es.getD p noE).key, n, (nd.es.getD p noE).kid⟩ else nd.es.getD q noE := fun q => by
    simp only [List.getD_eq_getElem?_getD, List.getElem?_set]
    by_cases e : p = q
    · subst e; simp [hp]
    · rw [if_neg e, if_neg (fun h => e h.symm)]
  show (if j = 10 + p then Value.int .i64 n else ndF nd pv j) = _
  unfold ndF
  simp only [hset, List.length_set]
  by_cases j0 : j = 0
  · subst j0; rw [if_neg (by omega)]; rfl
  by_cases j1 : j = 1
  · subst j1; rw [if_neg (by omega)]; rfl
  by_cases j2 : j < 10
  · rw [if_neg (by omega), if_neg j0, if_neg j1, if_pos j2, if_neg j0, if_neg j1, if_pos j2]
    split
    · rename_i e; rw [e]
    · rfl
  by_cases j3 : j < 18
  · rw [if_neg j0, if_neg j1, if_neg j2, if_pos j3, if_neg j0, if_neg j1, if_neg j2, if_pos j3]
    by_cases e : j = 10 + p
    · rw [if_pos e, if_pos (by omega)]
    · rw [if_neg e, if_neg (by omega)]
  · rw [if_neg (by omega)]
    rw [if_neg j0, if_neg j1, if_neg j2, if_neg j3, if_neg j0, if_neg j1, if_neg j2, if_neg j3]
    by_cases j4 : j < 26
    · rw [if_pos j4, if_pos j4]
      split
      · rename_i e; rw [e]
      · rfl
    · rw [if_neg j4, if_neg j4]
theorem row_key (nd : Nd) (pv : Option Nat) {p : Nat} (hp : p < nd.es.length) (h8 : nd.es.length ≤ 8) (k : ByteArray) :
    rowOf (fun j => if j = 2 + p then Value.string k else ndF nd pv j) = rowOf (ndF { nd with es := nd.es.set p ⟨k, (nd.es.getD p noE).num, (nd.es.getD p noE).kid⟩ } pv) := rowOf_ext fun j hj => by
  have hset : ∀ q, (nd.es.set p ⟨k, (nd.es.getD p noE).num, (nd.es.getD p noE).kid⟩).getD q noE = if q = p then ⟨k, (nd.es.getD p noE).num, (nd.es.getD p noE).kid⟩ else nd.es.getD q noE := fun q => by
    simp only [List.getD_eq_getElem?_getD, List.getElem?_set]
    by_cases e : p = q
    · subst e; simp [hp]
    · rw [if_neg e, if_neg (fun h => e h.symm)]
  show (if j = 2 + p then Value.string k else ndF nd pv j) = _
  unfold ndF
  simp only [hset, List.length_set]
  by_cases j0 : j = 0
  · subst j0; rw [if_neg (by omega)]; rfl
  by_cases j1 : j = 1
  · subst j1; rw [if_neg (by omega)]; rfl
  by_cases j2 : j < 10
  · rw [if_neg j0, if_neg j1, if_pos j2, if_neg j0, if_neg j1, if_pos j2]
    by_cases e : j = 2 + p
    · rw [if_pos e, if_pos (by omega)]
    · rw [if_neg e, if_neg (by omega)]
  rw [if_neg (by omega), if_neg j0, if_neg j1, if_neg j2, if_neg j0, if_neg j1, if_neg j2]
  by_cases j3 : j < 18
  · rw [if_pos j3, if_pos j3]
    split
    · rename_i e; rw [e]
    · rfl
  · rw [if_neg j3, if_neg j3]
    by_cases j4 : j < 26
    · rw [if_pos j4, if_pos j4]
      split
      · rename_i e; rw [e]
      · rfl
    · rw [if_neg j4, if_neg j4]

def New (st0 : St) (w0 : World) (st' : St) : Prop := ∀ x, st' x ≠ none → st0 x ≠ none ∨ w0.heap.size ≤ x
/-- What stands while the tree is worked at. -/
structure PS (w0 : World) (st0 : St) (tb : Nat) (w' : World) (st' : St) : Prop where
  mem : Mem w' st'
  no : st' tb = none
  keep : Keep (Out st0 tb w0) w0 w'
  new : New st0 w0 st'
theorem PS.out {w0 w' : World} {st0 st' : St} {tb : Nat} (h : PS w0 st0 tb w' st') {x : Nat} (hx : Out st0 tb w0 x) : Out st' tb w' x :=
  ⟨Nat.lt_of_lt_of_le hx.1 h.keep.size, by
    cases e : st' x with
    | none => rfl
    | some nd => exact (h.new x (by rw [e]; simp)).elim (fun h1 => absurd hx.2.1 h1) (fun h1 => absurd hx.1 (by omega)), hx.2.2⟩
theorem PS.start {w : World} {st : St} {tb : Nat} (hm : Mem w st) (ht : st tb = none) : PS w st tb w st := ⟨hm, ht, Keep.refl _ _, fun _ h => .inl h⟩
theorem PS.step {w0 w' w2 : World} {st0 st' st2 : St} {tb : Nat} (h : PS w0 st0 tb w' st') (hm : Mem w2 st2) (ht : st2 tb = none) (hk : Keep (Out st' tb w') w' w2) (hn : New st' w' st2) : PS w0 st0 tb w2 st2 :=
  ⟨hm, ht, h.keep.trans (hk.mono fun _ hx => h.out hx), fun x hx => (hn x hx).elim (h.new x) fun h1 => .inr (Nat.le_trans h.keep.size h1)⟩
theorem PS.node {w0 w' w2 : World} {st0 st' : St} {tb b : Nat} {nd : Nd} {pv : Option Nat} (h : PS w0 st0 tb w' st') (hb : st' b ≠ none) (hk : Keep (fun x => x ≠ b) w' w2) (hl : nd.es.length ≤ 8) (hv : VBlk nodeT w2 b (rowOf (ndF nd pv))) : PS w0 st0 tb w2 (upd st' b nd) := by
  have hne : tb ≠ b := fun e => hb (by rw [← e]; exact h.no)
  refine h.step (h.mem.upd hk hl hv) (by rw [upd_ne hne]; exact h.no) (hk.mono fun x hx e => hb (by rw [← e]; exact hx.2.1)) fun x hx => ?_
  by_cases e : x = b
  · rw [e]; exact .inl hb
  · rw [upd_ne e] at hx; exact .inl hx
theorem PS.hdr {w0 w' : World} {st0 st' : St} {tb : Nat} (h : PS w0 st0 tb w' st') (j : Nat) (v : Value) : PS w0 st0 tb (w'.setCell ⟨tb, j, none⟩ v) st' :=
  h.step (h.mem.keep ((Keep.refl (fun y => y ≠ tb) w').setCell (fun hk => hk rfl) _) fun x hx e => hx (by rw [e]; exact h.no)) h.no (Keep.setCell (Keep.refl _ _) (fun hk => hk.2.2 rfl) _) fun x hx => .inl hx
/-- A new node. -/
theorem PS.fresh {w0 w' w2 : World} {st0 st' : St} {tb g : Nat} {nd : Nd} {pv : Option Nat} (h : PS w0 st0 tb w' st') (htb : tb < w'.heap.size) (hf : Fresh w' g w2 nodeT (rowOf (ndF nd pv))) (hl : nd.es.length ≤ 8) : PS w0 st0 tb w2 (upd st' g nd) ∧ st' g = none := by
  have hg := hf.eq
  have hgn : st' g = none := by
    cases e : st' g with
    | none => rfl
    | some nd2 => have := h.mem.lt (b := g) (by rw [e]; simp); omega
  refine ⟨h.step (fun x n e => ?_) (by rw [upd_ne (by omega)]; exact h.no) ((Keep.of_below hf.below).mono fun x hx => hx.1) fun x hx => ?_, hgn⟩
  · by_cases hx : x = g
    · subst hx; rw [upd_eq] at e; obtain rfl := Option.some.inj e; exact ⟨hl, pv, hf.blk⟩
    · rw [upd_ne hx] at e; exact h.mem.below hf.below x n e
  · by_cases e : x = g
    · right; omega
    · rw [upd_ne e] at hx; exact .inl hx
/-- What the tree's block says. -/
def TOk (st : St) (root : Option Nat) (n : Nat) (l : List KV) : Prop := (root = none ∧ l = [] ∧ n = 0) ∨ ∃ D T, root = some (blk D T) ∧ Tre.Good st D T l ∧ n = (bks D T).length ∧ 1 ≤ cnt D T
structure IsT (w : World) (st : St) (tb : Nat) (l : List KV) : Prop where
  mem : Mem w st
  no : st tb = none
  ex : ∃ root n, VBlk treeT w tb (trC root l.length n) ∧ TOk st root n l
theorem TOk.srt {st : St} {root : Option Nat} {n : Nat} {l : List KV} (h : TOk st root n l) : Srt l := by
  rcases h with ⟨-, rfl, -⟩ | ⟨D, T, -, h, -⟩
  · exact List.Pairwise.nil
  · exact h.srt
theorem IsT.keep {w w' : World} {st : St} {tb : Nat} {l : List KV} (h : IsT w st tb l) {K : Nat → Prop} (hk : Keep K w w') (hK : ∀ b, st b ≠ none → K b) (ht : K tb) : IsT w' st tb l := by
  obtain ⟨root, n, h1, h2⟩ := h.ex
  exact ⟨h.mem.keep hk hK, h.no, root, n, h1.keep hk ht, h2⟩
theorem IsT.below {w w' : World} {st : St} {tb : Nat} {l : List KV} (h : IsT w st tb l) (hk : Below w.heap.size w w') : IsT w' st tb l := by
  obtain ⟨root, n, h1, -⟩ := h.ex
  exact h.keep (Keep.of_below hk) (fun b hb => h.mem.lt hb) h1.lt
end K
end Go.Proofs.Ytilmfnlaenneeaa
