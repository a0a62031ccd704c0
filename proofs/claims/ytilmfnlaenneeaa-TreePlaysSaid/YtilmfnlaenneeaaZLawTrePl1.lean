/- Texts for LawTrePl, part 1 of 2. -/
import Derived.Test.YtilmfnlaenneeaaZLawTreNo6
/- The document's tree (scrivenerref13), a plain sorted list: where a text stands; Get; Ends. -/
namespace Go.Proofs.Ytilmfnlaenneeaa
open Go.RowKit
namespace K
open Tre
abbrev refT : Nat := 46
abbrev ksT : Nat := 9
abbrev nsT : Nat := 3
def kV (e : KV) : Value := .string e.1
def nV (e : KV) : Value := .int .i64 e.2
def zKV : KV := (ByteArray.empty, 0)
/-- The document's tree in memory; its blocks are none below B. -/
def RT (B : Nat) (w : World) (rb : Nat) (L : List KV) : Prop := B ≤ rb ∧ ∃ vk vn, VBlk refT w rb [vk, vn] ∧ OwnV ksT 1 w (fun b => B ≤ b) vk L.length (L.map kV) ∧ OwnV nsT 1 w (fun b => B ≤ b) vn L.length (L.map nV)
/-- Nothing but draws. -/
structure Same (w w' : World) : Prop where
  heap : w'.heap = w.heap
  below : ∀ B, Below B w w'
theorem Same.refl (w : World) : Same w w := ⟨rfl, fun B => Below.refl B w⟩
theorem Same.trans {a b c : World} (h : Same a b) (k : Same b c) : Same a c := ⟨k.heap.trans h.heap, fun B => (h.below B).trans (k.below B)⟩
theorem Drew.same {w w' : World} (h : Drew w w') : Same w w' := ⟨h.heap, h.below⟩
theorem Same.block {w w' : World} (h : Same w w') (k : Nat) : w'.heap[k]? = w.heap[k]? := by rw [h.heap]
theorem Same.cell {w w' : World} (h : Same w w') (p : Addr) : w'.cell? p = w.cell? p := World.cell?_of_block (h.block p.block)
theorem Same.keep {w w' : World} (h : Same w w') (K : Nat → Prop) : Keep K w w' := ⟨(h.below 0).os, (h.below 0).tape, (h.below 0).output, (h.below 0).size, fun k _ => h.block k⟩
theorem RT.same {B : Nat} {w w' : World} {rb : Nat} {L : List KV} (h : RT B w rb L) (hs : Same w w') : RT B w' rb L := by
  obtain ⟨h0, vk, vn, h1, h2, h3⟩ := h
  exact ⟨h0, vk, vn, h1.of_block (hs.block rb), h2.of_block fun g _ => hs.block g, h3.of_block fun g _ => hs.block g⟩
theorem mapk_getD (L : List KV) {j : Nat} (hj : j < L.length) : (L.map kV).getD j undef = .string (L.getD j zKV).1 := by
  simp [List.getD_eq_getElem?_getD, hj, kV]
theorem mapn_getD (L : List KV) {j : Nat} (hj : j < L.length) : (L.map nV).getD j undef = .int .i64 (L.getD j zKV).2 := by
  simp [List.getD_eq_getElem?_getD, hj, nV]
theorem fst_getD (L : List KV) (j : Nat) : (L.map Prod.fst).getD j ByteArray.empty = (L.getD j zKV).1 := by
  by_cases hj : j < L.length
  · simp [List.getD_eq_getElem?_getD, hj]
  · simp [List.getD_eq_getElem?_getD, hj, zKV]
theorem srt_lt {L : List KV} (h : Srt L) {i j : Nat} (hij : i < j) (hj : j < L.length) : kl (L.getD i zKV).1 (L.getD j zKV).1 = true := by
  have hi : i < L.length := by omega
  have := List.pairwise_iff_getElem.1 h i j hi hj hij
  simpa [List.getD_eq_getElem?_getD, hi, hj] using this
theorem eqv (a b : Ky) : (a.toList == b.toList) = decide (a = b) := by
  by_cases h : a = b
  · subst h; simp
  · rw [decide_eq_false h]
    cases he : a.toList == b.toList with
    | false => rfl
    | true => exact absurd (ky_eq (eq_of_beq he)) h
def spotB (k : Ky) (L : List KV) : Bool := decide ((L.map Prod.fst)[plc k (L.map Prod.fst)]? = some k)
theorem own_form {e : TypeId} {w : World} {O : Nat → Prop} {v : Value} {n : Nat} {l : List Value} (h : OwnV e 1 w O v n l) (hn : 0 < n) : ∃ g cap, v = .slice (some ⟨g, 0, none⟩) n cap := by
  rcases h.form with ⟨-, h, -⟩ | ⟨g, cap, cur, h, -⟩
  · omega
  · exact ⟨g, cap, h⟩
set_option maxRecDepth 20000 in
theorem spot_any {B : Nat} {w : World} {rb : Nat} {L : List KV} (h : RT B w rb L) (hs : Srt L) (hl : L.length < 1000000000) (k : Ky) : Calls Try.prog 40 #[.pointer (some ⟨rb, 0, none⟩), .string k] w fun e w' => e = .returned (.tuple #[.int .i64 (plc k (L.map Prod.fst)), .bool (spotB k L)]) ∧ Same w w' := by
  obtain ⟨h0, vk, vn, hv, hk, -⟩ := h
  obtain ⟨sp, cap, rfl, -, -⟩ := hk.slice
  have c0 : w.cell? ⟨rb, 0, none⟩ = some (.slice sp L.length cap) := hv.cell 0 (by simp)
  refine enter (args := [.pointer (some ⟨rb, 0, none⟩), .string k]) Try.func40 rfl Try.ntmps40 rfl ?_
  repeat (first | ((with_reducible refine WL.topT ?_ ?_); omega) | ((with_reducible refine WL.topF ?_ ?_); omega) | ((with_reducible refine WL.top64 ?_ ?_); omega) | refine WC.seq ?_ | refine WC.region ?_ | refine WL.nil ?_ | refine WC.skip ?_ | refine WC.exit ?_ | refine WC.ret ?_ | refine WQ.then rfl ?_ | refine WQ.thenExit ?_ | refine WQ.thenRet ?_ | refine WQ.blk ?_ | refine WQ.blkRet ?_ | refine WQ.blkHere rfl ?_ | refine WQ.blkOther rfl ?_ | refine WL.pure rfl rfl rfl rfl ?_ | refine WL.on rfl rfl ?_ | refine WL.off rfl rfl rfl ?_ | refine WL.load rfl rfl rfl rfl rfl rfl (by assumption) ?_ | refine WC.condTrue rfl ?_ | refine WC.condFalse rfl ?_)
  refine WC.drawn 6 (fun wx => wx.heap = w.heap) fun w2 hd => ?_
  have hS : w2.heap = w.heap := hd.heap
  (((first | refine WD.free 0 rfl (by kernel_rfl) rfl rfl (fun _ _ _ _ _ h => h) rfl rfl (.inr hS) ?_ | refine WD.skip 0 rfl (by kernel_rfl) rfl rfl (fun _ _ _ _ _ h => h) rfl (.inr hS) ?_); try (first | ((with_reducible refine WD.topT ?_ ?_); omega) | ((with_reducible refine WD.topF ?_ ?_); omega) | ((with_reducible refine WD.top64 ?_ ?_); omega))); ((first | refine WD.free 1 rfl (by kernel_rfl) rfl rfl (fun _ _ _ _ _ h => h) rfl rfl (.inr hS) ?_ | refine WD.skip 1 rfl (by kernel_rfl) rfl rfl (fun _ _ _ _ _ h => h) rfl (.inr hS) ?_); try (first | ((with_reducible refine WD.topT ?_ ?_); omega) | ((with_reducible refine WD.topF ?_ ?_); omega) | ((with_reducible refine WD.top64 ?_ ?_); omega))); ((first | refine WD.free 2 rfl (by kernel_rfl) rfl rfl (fun _ _ _ _ _ h => h) rfl rfl (.inr hS) ?_ | refine WD.skip 2 rfl (by kernel_rfl) rfl rfl (fun _ _ _ _ _ h => h) rfl (.inr hS) ?_); try (first | ((with_reducible refine WD.topT ?_ ?_); omega) | ((with_reducible refine WD.topF ?_ ?_); omega) | ((with_reducible refine WD.top64 ?_ ?_); omega))))
  refine WD.load 3 [4, 6] rfl (by kernel_rfl) rfl rfl (fun _ _ _ _ _ h => h) rfl rfl rfl rfl (fun wx hx => (heap_cell hx _).trans c0) hS ?_
  (((first | refine WD.free 4 rfl (by kernel_rfl) rfl rfl (fun _ _ _ _ _ h => h) rfl rfl (.inr hS) ?_ | refine WD.skip 4 rfl (by kernel_rfl) rfl rfl (fun _ _ _ _ _ h => h) rfl (.inr hS) ?_); try (first | ((with_reducible refine WD.topT ?_ ?_); omega) | ((with_reducible refine WD.topF ?_ ?_); omega) | ((with_reducible refine WD.top64 ?_ ?_); omega))); ((first | refine WD.free 5 rfl (by kernel_rfl) rfl rfl (fun _ _ _ _ _ h => h) rfl rfl (.inr hS) ?_ | refine WD.skip 5 rfl (by kernel_rfl) rfl rfl (fun _ _ _ _ _ h => h) rfl (.inr hS) ?_); try (first | ((with_reducible refine WD.topT ?_ ?_); omega) | ((with_reducible refine WD.topF ?_ ?_); omega) | ((with_reducible refine WD.top64 ?_ ?_); omega))))
  refine WD.one 6 (by kernel_rfl) rfl ?_
  refine WL.pure rfl rfl rfl rfl ?_
  refine WL.nil (WQ.dk (.inl rfl) ?_)
  refine WD.done (by kernel_rfl) ?_
  have hsm := hd.same
  repeat (first | ((with_reducible refine WL.topT ?_ ?_); omega) | ((with_reducible refine WL.topF ?_ ?_); omega) | ((with_reducible refine WL.top64 ?_ ?_); omega) | refine WC.seq ?_ | refine WC.block ?_ | refine WC.region ?_ | refine WL.nil ?_ | refine WC.skip ?_ | refine WC.exit ?_ | refine WC.ret ?_ | refine WQ.then rfl ?_ | refine WQ.thenExit ?_ | refine WQ.thenRet ?_ | refine WQ.blk ?_ | refine WQ.blkRet ?_ | refine WQ.blkHere rfl ?_ | refine WQ.blkOther rfl ?_ | refine WL.pure rfl rfl rfl rfl ?_ | refine WL.on rfl rfl ?_ | refine WL.off rfl rfl rfl ?_ | refine WC.condTrue rfl ?_ | refine WC.condFalse rfl ?_)
  refine WC.loop (fun x : Nat × Nat => [(0, .pointer (some ⟨rb, 0, none⟩)), (1, .string k), (6, .int .i64 x.1), (7, .int .i64 x.2)])
    (fun x w' => Same w w' ∧ x.1 ≤ x.2 ∧ x.2 ≤ L.length ∧ (∀ j, j < x.1 → kl (L.getD j zKV).1 k = true) ∧ (x.2 < L.length → kl (L.getD x.2 zKV).1 k = false)) (fun x => x.2 - x.1) (0, L.length) ⟨rfl, rfl, rfl, rfl, trivial⟩
    ⟨hsm, Nat.zero_le _, Nat.le_refl _, (fun j hj => absurd hj (by simp)), fun h => absurd h (by simp)⟩ ?_
  clear hsm hS hd
  rintro ⟨lo, hi⟩ wr ⟨hsm, h1, h2, h3, h4⟩
  simp only at h1 h2 h3 h4
  have c0' := (hsm.cell ⟨rb, 0, none⟩).trans c0
  by_cases hlt : lo < hi
  · obtain ⟨g, cap', e⟩ := own_form hk (by omega)
    obtain ⟨rfl, -, rfl⟩ : sp = some ⟨g, 0, none⟩ ∧ L.length = L.length ∧ cap = cap' := by injection e with a b c; exact ⟨a, b, c⟩
    obtain ⟨m, hm⟩ : ∃ m, m = (lo + hi) / 2 := ⟨_, rfl⟩
    have hml : m < hi := by omega
    have hlm : lo ≤ m := by omega
    have cm := hk.at m (by rw [List.length_map]; omega)
    rw [mapk_getD L (by omega)] at cm
    have cm' := (hsm.cell ⟨g, m, none⟩).trans cm
    have hq : IntKind.i64.wrap (((lo : Int) + hi).tdiv 2) = m := by
      rw [hm, show ((lo : Int) + hi).tdiv 2 = (((lo + hi) / 2 : Nat) : Int) from rfl]
      exact IntWalk.i64_in _ (by omega)
    repeat (first | ((with_reducible refine WL.topT ?_ ?_); omega) | ((with_reducible refine WL.topF ?_ ?_); omega) | ((with_reducible refine WL.top64 ?_ ?_); omega) | refine WC.seq ?_ | refine WC.block ?_ | refine WC.region ?_ | refine WL.nil ?_ | refine WC.skip ?_ | refine WC.exit ?_ | refine WC.ret ?_ | refine WQ.then rfl ?_ | refine WQ.thenExit ?_ | refine WQ.thenRet ?_ | refine WQ.blk ?_ | refine WQ.blkRet ?_ | refine WQ.blkHere rfl ?_ | refine WQ.blkOther rfl ?_ | refine WL.pure rfl rfl rfl rfl ?_ | refine WL.on rfl rfl ?_ | refine WL.off rfl rfl rfl ?_ | refine WC.condTrue rfl ?_ | refine WC.condFalse rfl ?_)
    refine WL.as 8 (.int .i64 m) rfl (congrArg (Value.int .i64) hq) ?_
    refine WL.load rfl rfl rfl rfl rfl rfl c0' ?_
    repeat (first | ((with_reducible refine WL.topT ?_ ?_); omega) | ((with_reducible refine WL.topF ?_ ?_); omega) | ((with_reducible refine WL.top64 ?_ ?_); omega) | refine WC.seq ?_ | refine WC.block ?_ | refine WC.region ?_ | refine WL.nil ?_ | refine WC.skip ?_ | refine WC.exit ?_ | refine WC.ret ?_ | refine WQ.then rfl ?_ | refine WQ.thenExit ?_ | refine WQ.thenRet ?_ | refine WQ.blk ?_ | refine WQ.blkRet ?_ | refine WQ.blkHere rfl ?_ | refine WQ.blkOther rfl ?_ | refine WL.pure rfl rfl rfl rfl ?_ | refine WL.on rfl rfl ?_ | refine WL.off rfl rfl rfl ?_ | refine WC.condTrue rfl ?_ | refine WC.condFalse rfl ?_)
    refine WL.idx m m rfl rfl rfl rfl rfl rfl rfl rfl (by omega) (by omega) ?_
    refine WL.load rfl rfl rfl rfl rfl rfl cm' ?_
    repeat (first | ((with_reducible refine WL.topT ?_ ?_); omega) | ((with_reducible refine WL.topF ?_ ?_); omega) | ((with_reducible refine WL.top64 ?_ ?_); omega) | refine WC.seq ?_ | refine WC.block ?_ | refine WC.region ?_ | refine WL.nil ?_ | refine WC.skip ?_ | refine WC.exit ?_ | refine WC.ret ?_ | refine WQ.then rfl ?_ | refine WQ.thenExit ?_ | refine WQ.thenRet ?_ | refine WQ.blk ?_ | refine WQ.blkRet ?_ | refine WQ.blkHere rfl ?_ | refine WQ.blkOther rfl ?_ | refine WL.pure rfl rfl rfl rfl ?_ | refine WL.on rfl rfl ?_ | refine WL.off rfl rfl rfl ?_ | refine WC.condTrue rfl ?_ | refine WC.condFalse rfl ?_)
    cases hkl : Op.bytesLess (L.getD m zKV).1.toList k.toList with
    | true =>
      repeat (first | ((with_reducible refine WL.topT ?_ ?_); omega) | ((with_reducible refine WL.topF ?_ ?_); omega) | ((with_reducible refine WL.top64 ?_ ?_); omega) | refine WC.seq ?_ | refine WC.block ?_ | refine WC.region ?_ | refine WL.nil ?_ | refine WC.skip ?_ | refine WC.exit ?_ | refine WC.ret ?_ | refine WQ.then rfl ?_ | refine WQ.thenExit ?_ | refine WQ.thenRet ?_ | refine WQ.blk ?_ | refine WQ.blkRet ?_ | refine WQ.blkHere rfl ?_ | refine WQ.blkOther rfl ?_ | refine WL.pure rfl rfl rfl rfl ?_ | refine WL.on rfl rfl ?_ | refine WL.off rfl rfl rfl ?_ | refine WC.condTrue rfl ?_ | refine WC.condFalse rfl ?_)
      refine WQ.again (m + 1, hi) ⟨rfl, rfl, rfl, rfl, trivial⟩ ⟨hsm, hml, h2, fun j hj => ?_, h4⟩ (by show hi - (m + 1) < hi - lo; omega)
      simp only at hj
      rcases Nat.lt_or_ge j m with hjm | hjm
      · exact kl_trans (srt_lt hs hjm (by omega)) hkl
      · obtain rfl : j = m := by omega
        exact hkl
    | false =>
      repeat (first | ((with_reducible refine WL.topT ?_ ?_); omega) | ((with_reducible refine WL.topF ?_ ?_); omega) | ((with_reducible refine WL.top64 ?_ ?_); omega) | refine WC.seq ?_ | refine WC.block ?_ | refine WC.region ?_ | refine WL.nil ?_ | refine WC.skip ?_ | refine WC.exit ?_ | refine WC.ret ?_ | refine WQ.then rfl ?_ | refine WQ.thenExit ?_ | refine WQ.thenRet ?_ | refine WQ.blk ?_ | refine WQ.blkRet ?_ | refine WQ.blkHere rfl ?_ | refine WQ.blkOther rfl ?_ | refine WL.pure rfl rfl rfl rfl ?_ | refine WL.on rfl rfl ?_ | refine WL.off rfl rfl rfl ?_ | refine WC.condTrue rfl ?_ | refine WC.condFalse rfl ?_)
      exact WQ.again (lo, m) ⟨rfl, rfl, rfl, rfl, trivial⟩ ⟨hsm, hlm, by show m ≤ L.length; omega, h3, fun _ => hkl⟩ (by show m - lo < hi - lo; omega)
  · obtain rfl : lo = hi := by omega
    have hp : plc k (L.map Prod.fst) = lo := plc_at (by rw [List.length_map]; exact h2) (fun j hj => by rw [fst_getD]; exact h3 j hj) (fun hh => by rw [fst_getD]; exact h4 (by rw [List.length_map] at hh; exact hh))
    have hsp : spotB k L = decide (lo < L.length ∧ (L.getD lo zKV).1 = k) := by
      unfold spotB
      rw [hp]
      by_cases hl2 : lo < L.length
      · simp [List.getD_eq_getElem?_getD, hl2]
      · simp [hl2]
    repeat (first | ((with_reducible refine WL.topT ?_ ?_); omega) | ((with_reducible refine WL.topF ?_ ?_); omega) | ((with_reducible refine WL.top64 ?_ ?_); omega) | refine WC.seq ?_ | refine WC.region ?_ | refine WL.nil ?_ | refine WC.skip ?_ | refine WC.exit ?_ | refine WC.ret ?_ | refine WQ.then rfl ?_ | refine WQ.thenExit ?_ | refine WQ.thenRet ?_ | refine WQ.blk ?_ | refine WQ.blkRet ?_ | refine WQ.blkHere rfl ?_ | refine WQ.blkOther rfl ?_ | refine WL.pure rfl rfl rfl rfl ?_ | refine WL.on rfl rfl ?_ | refine WL.off rfl rfl rfl ?_ | refine WL.load rfl rfl rfl rfl rfl rfl (by assumption) ?_ | refine WC.condTrue rfl ?_ | refine WC.condFalse rfl ?_)
    refine WC.drawn 20 (fun wx => wx.heap = w.heap) fun w3 hd => ?_
    have hsm3 := hsm.trans hd.same
    have hS : w3.heap = w.heap := hsm3.heap
    (((first | refine WD.free 0 rfl (by kernel_rfl) rfl rfl (fun _ _ _ _ _ h => h) rfl rfl (.inr hS) ?_ | refine WD.skip 0 rfl (by kernel_rfl) rfl rfl (fun _ _ _ _ _ h => h) rfl (.inr hS) ?_); try (first | ((with_reducible refine WD.topT ?_ ?_); omega) | ((with_reducible refine WD.topF ?_ ?_); omega) | ((with_reducible refine WD.top64 ?_ ?_); omega))); ((first | refine WD.free 1 rfl (by kernel_rfl) rfl rfl (fun _ _ _ _ _ h => h) rfl rfl (.inr hS) ?_ | refine WD.skip 1 rfl (by kernel_rfl) rfl rfl (fun _ _ _ _ _ h => h) rfl (.inr hS) ?_); try (first | ((with_reducible refine WD.topT ?_ ?_); omega) | ((with_reducible refine WD.topF ?_ ?_); omega) | ((with_reducible refine WD.top64 ?_ ?_); omega))); ((first | refine WD.free 2 rfl (by kernel_rfl) rfl rfl (fun _ _ _ _ _ h => h) rfl rfl (.inr hS) ?_ | refine WD.skip 2 rfl (by kernel_rfl) rfl rfl (fun _ _ _ _ _ h => h) rfl (.inr hS) ?_); try (first | ((with_reducible refine WD.topT ?_ ?_); omega) | ((with_reducible refine WD.topF ?_ ?_); omega) | ((with_reducible refine WD.top64 ?_ ?_); omega))); ((first | refine WD.free 3 rfl (by kernel_rfl) rfl rfl (fun _ _ _ _ _ h => h) rfl rfl (.inr hS) ?_ | refine WD.skip 3 rfl (by kernel_rfl) rfl rfl (fun _ _ _ _ _ h => h) rfl (.inr hS) ?_); try (first | ((with_reducible refine WD.topT ?_ ?_); omega) | ((with_reducible refine WD.topF ?_ ?_); omega) | ((with_reducible refine WD.top64 ?_ ?_); omega))); ((first | refine WD.free 4 rfl (by kernel_rfl) rfl rfl (fun _ _ _ _ _ h => h) rfl rfl (.inr hS) ?_ | refine WD.skip 4 rfl (by kernel_rfl) rfl rfl (fun _ _ _ _ _ h => h) rfl (.inr hS) ?_); try (first | ((with_reducible refine WD.topT ?_ ?_); omega) | ((with_reducible refine WD.topF ?_ ?_); omega) | ((with_reducible refine WD.top64 ?_ ?_); omega))))
    refine WD.load 5 [6, 7, 8, 18, 20] rfl (by kernel_rfl) rfl rfl (fun _ _ _ _ _ h => h) rfl rfl rfl rfl (fun wx hx => (heap_cell hx _).trans c0) hS ?_
    (((first | refine WD.free 6 rfl (by kernel_rfl) rfl rfl (fun _ _ _ _ _ h => h) rfl rfl (.inr hS) ?_ | refine WD.skip 6 rfl (by kernel_rfl) rfl rfl (fun _ _ _ _ _ h => h) rfl (.inr hS) ?_); try (first | ((with_reducible refine WD.topT ?_ ?_); omega) | ((with_reducible refine WD.topF ?_ ?_); omega) | ((with_reducible refine WD.top64 ?_ ?_); omega))))
    by_cases hl2 : lo < L.length
    · obtain ⟨g, cap', e⟩ := own_form hk (by omega)
      obtain ⟨rfl, -, rfl⟩ : sp = some ⟨g, 0, none⟩ ∧ L.length = L.length ∧ cap = cap' := by injection e with a b c; exact ⟨a, b, c⟩
      have cm := hk.at lo (by rw [List.length_map]; omega)
      rw [mapk_getD L (by omega)] at cm
      (((first | refine WD.free 7 rfl (by kernel_rfl) rfl rfl (fun _ _ _ _ _ h => h) rfl rfl (.inr hS) ?_ | refine WD.skip 7 rfl (by kernel_rfl) rfl rfl (fun _ _ _ _ _ h => h) rfl (.inr hS) ?_); try (first | ((with_reducible refine WD.topT ?_ ?_); omega) | ((with_reducible refine WD.topF ?_ ?_); omega) | ((with_reducible refine WD.top64 ?_ ?_); omega))); ((first | refine WD.free 8 rfl (by kernel_rfl) rfl rfl (fun _ _ _ _ _ h => h) rfl rfl (.inr hS) ?_ | refine WD.skip 8 rfl (by kernel_rfl) rfl rfl (fun _ _ _ _ _ h => h) rfl (.inr hS) ?_); try (first | ((with_reducible refine WD.topT ?_ ?_); omega) | ((with_reducible refine WD.topF ?_ ?_); omega) | ((with_reducible refine WD.top64 ?_ ?_); omega))); ((first | refine WD.free 9 rfl (by kernel_rfl) rfl rfl (fun _ _ _ _ _ h => h) rfl rfl (.inr hS) ?_ | refine WD.skip 9 rfl (by kernel_rfl) rfl rfl (fun _ _ _ _ _ h => h) rfl (.inr hS) ?_); try (first | ((with_reducible refine WD.topT ?_ ?_); omega) | ((with_reducible refine WD.topF ?_ ?_); omega) | ((with_reducible refine WD.top64 ?_ ?_); omega))); ((first | refine WD.free 10 rfl (by kernel_rfl) rfl rfl (fun _ _ _ _ _ h => h) rfl rfl (.inr hS) ?_ | refine WD.skip 10 rfl (by kernel_rfl) rfl rfl (fun _ _ _ _ _ h => h) rfl (.inr hS) ?_); try (first | ((with_reducible refine WD.topT ?_ ?_); omega) | ((with_reducible refine WD.topF ?_ ?_); omega) | ((with_reducible refine WD.top64 ?_ ?_); omega))); ((first | refine WD.free 11 rfl (by kernel_rfl) rfl rfl (fun _ _ _ _ _ h => h) rfl rfl (.inr hS) ?_ | refine WD.skip 11 rfl (by kernel_rfl) rfl rfl (fun _ _ _ _ _ h => h) rfl (.inr hS) ?_); try (first | ((with_reducible refine WD.topT ?_ ?_); omega) | ((with_reducible refine WD.topF ?_ ?_); omega) | ((with_reducible refine WD.top64 ?_ ?_); omega))))
      refine WD.load 12 [14, 15, 17, 18, 20] rfl (by kernel_rfl) rfl rfl (fun _ _ _ _ _ h => h) rfl rfl rfl rfl (fun wx hx => (heap_cell hx _).trans c0) hS ?_
      (((first | refine WD.free 13 rfl (by kernel_rfl) rfl rfl (fun _ _ _ _ _ h => h) rfl rfl (.inr hS) ?_ | refine WD.skip 13 rfl (by kernel_rfl) rfl rfl (fun _ _ _ _ _ h => h) rfl (.inr hS) ?_); try (first | ((with_reducible refine WD.topT ?_ ?_); omega) | ((with_reducible refine WD.topF ?_ ?_); omega) | ((with_reducible refine WD.top64 ?_ ?_); omega))))
      refine WD.idx 14 lo lo rfl (by kernel_rfl) rfl rfl (fun _ _ _ _ _ h => h) rfl rfl rfl rfl rfl rfl hl2 (by omega) (.inr hS) ?_
      refine WD.load 15 [17, 18, 20] rfl (by kernel_rfl) rfl rfl (fun _ _ _ _ _ h => h) rfl rfl rfl rfl (fun wx hx => (heap_cell hx _).trans cm) hS ?_
      (((first | refine WD.free 16 rfl (by kernel_rfl) rfl rfl (fun _ _ _ _ _ h => h) rfl rfl (.inr hS) ?_ | refine WD.skip 16 rfl (by kernel_rfl) rfl rfl (fun _ _ _ _ _ h => h) rfl (.inr hS) ?_); try (first | ((with_reducible refine WD.topT ?_ ?_); omega) | ((with_reducible refine WD.topF ?_ ?_); omega) | ((with_reducible refine WD.top64 ?_ ?_); omega))); ((first | refine WD.free 17 rfl (by kernel_rfl) rfl rfl (fun _ _ _ _ _ h => h) rfl rfl (.inr hS) ?_ | refine WD.skip 17 rfl (by kernel_rfl) rfl rfl (fun _ _ _ _ _ h => h) rfl (.inr hS) ?_); try (first | ((with_reducible refine WD.topT ?_ ?_); omega) | ((with_reducible refine WD.topF ?_ ?_); omega) | ((with_reducible refine WD.top64 ?_ ?_); omega))); ((first | refine WD.free 18 rfl (by kernel_rfl) rfl rfl (fun _ _ _ _ _ h => h) rfl rfl (.inr hS) ?_ | refine WD.skip 18 rfl (by kernel_rfl) rfl rfl (fun _ _ _ _ _ h => h) rfl (.inr hS) ?_); try (first | ((with_reducible refine WD.topT ?_ ?_); omega) | ((with_reducible refine WD.topF ?_ ?_); omega) | ((with_reducible refine WD.top64 ?_ ?_); omega))); ((first | refine WD.free 19 rfl (by kernel_rfl) rfl rfl (fun _ _ _ _ _ h => h) rfl rfl (.inr hS) ?_ | refine WD.skip 19 rfl (by kernel_rfl) rfl rfl (fun _ _ _ _ _ h => h) rfl (.inr hS) ?_); try (first | ((with_reducible refine WD.topT ?_ ?_); omega) | ((with_reducible refine WD.topF ?_ ?_); omega) | ((with_reducible refine WD.top64 ?_ ?_); omega))))
      refine WD.one 20 (by kernel_rfl) rfl ?_
      refine WL.pure rfl rfl rfl rfl ?_
      refine WL.nil (WQ.dk (.inl rfl) ?_)
      refine WD.done (by kernel_rfl) ?_
      repeat (first | ((with_reducible refine WL.topT ?_ ?_); omega) | ((with_reducible refine WL.topF ?_ ?_); omega) | ((with_reducible refine WL.top64 ?_ ?_); omega) | refine WC.seq ?_ | refine WC.block ?_ | refine WC.region ?_ | refine WL.nil ?_ | refine WC.skip ?_ | refine WC.exit ?_ | refine WC.ret ?_ | refine WQ.then rfl ?_ | refine WQ.thenExit ?_ | refine WQ.thenRet ?_ | refine WQ.blk ?_ | refine WQ.blkRet ?_ | refine WQ.blkHere rfl ?_ | refine WQ.blkOther rfl ?_ | refine WL.pure rfl rfl rfl rfl ?_ | refine WL.on rfl rfl ?_ | refine WL.off rfl rfl rfl ?_ | refine WC.condTrue rfl ?_ | refine WC.condFalse rfl ?_)
      refine WQ.ret2 rfl rfl rfl ⟨?_, hsm3⟩
      rw [hp, hsp, eqv]
      simp [hl2]
    · (((first | refine WD.free 7 rfl (by kernel_rfl) rfl rfl (fun _ _ _ _ _ h => h) rfl rfl (.inr hS) ?_ | refine WD.skip 7 rfl (by kernel_rfl) rfl rfl (fun _ _ _ _ _ h => h) rfl (.inr hS) ?_); try (first | ((with_reducible refine WD.topT ?_ ?_); omega) | ((with_reducible refine WD.topF ?_ ?_); omega) | ((with_reducible refine WD.top64 ?_ ?_); omega))); ((first | refine WD.free 8 rfl (by kernel_rfl) rfl rfl (fun _ _ _ _ _ h => h) rfl rfl (.inr hS) ?_ | refine WD.skip 8 rfl (by kernel_rfl) rfl rfl (fun _ _ _ _ _ h => h) rfl (.inr hS) ?_); try (first | ((with_reducible refine WD.topT ?_ ?_); omega) | ((with_reducible refine WD.topF ?_ ?_); omega) | ((with_reducible refine WD.top64 ?_ ?_); omega))); ((first | refine WD.free 9 rfl (by kernel_rfl) rfl rfl (fun _ _ _ _ _ h => h) rfl rfl (.inr hS) ?_ | refine WD.skip 9 rfl (by kernel_rfl) rfl rfl (fun _ _ _ _ _ h => h) rfl (.inr hS) ?_); try (first | ((with_reducible refine WD.topT ?_ ?_); omega) | ((with_reducible refine WD.topF ?_ ?_); omega) | ((with_reducible refine WD.top64 ?_ ?_); omega))); ((first | refine WD.free 10 rfl (by kernel_rfl) rfl rfl (fun _ _ _ _ _ h => h) rfl rfl (.inr hS) ?_ | refine WD.skip 10 rfl (by kernel_rfl) rfl rfl (fun _ _ _ _ _ h => h) rfl (.inr hS) ?_); try (first | ((with_reducible refine WD.topT ?_ ?_); omega) | ((with_reducible refine WD.topF ?_ ?_); omega) | ((with_reducible refine WD.top64 ?_ ?_); omega))); ((first | refine WD.free 11 rfl (by kernel_rfl) rfl rfl (fun _ _ _ _ _ h => h) rfl rfl (.inr hS) ?_ | refine WD.skip 11 rfl (by kernel_rfl) rfl rfl (fun _ _ _ _ _ h => h) rfl (.inr hS) ?_); try (first | ((with_reducible refine WD.topT ?_ ?_); omega) | ((with_reducible refine WD.topF ?_ ?_); omega) | ((with_reducible refine WD.top64 ?_ ?_); omega))); ((first | refine WD.free 12 rfl (by kernel_rfl) rfl rfl (fun _ _ _ _ _ h => h) rfl rfl (.inr hS) ?_ | refine WD.skip 12 rfl (by kernel_rfl) rfl rfl (fun _ _ _ _ _ h => h) rfl (.inr hS) ?_); try (first | ((with_reducible refine WD.topT ?_ ?_); omega) | ((with_reducible refine WD.topF ?_ ?_); omega) | ((with_reducible refine WD.top64 ?_ ?_); omega))); ((first | refine WD.free 13 rfl (by kernel_rfl) rfl rfl (fun _ _ _ _ _ h => h) rfl rfl (.inr hS) ?_ | refine WD.skip 13 rfl (by kernel_rfl) rfl rfl (fun _ _ _ _ _ h => h) rfl (.inr hS) ?_); try (first | ((with_reducible refine WD.topT ?_ ?_); omega) | ((with_reducible refine WD.topF ?_ ?_); omega) | ((with_reducible refine WD.top64 ?_ ?_); omega))); ((first | refine WD.free 14 rfl (by kernel_rfl) rfl rfl (fun _ _ _ _ _ h => h) rfl rfl (.inr hS) ?_ | refine WD.skip 14 rfl (by kernel_rfl) rfl rfl (fun _ _ _ _ _ h => h) rfl (.inr hS) ?_); try (first | ((with_reducible refine WD.topT ?_ ?_); omega) | ((with_reducible refine WD.topF ?_ ?_); omega) | ((with_reducible refine WD.top64 ?_ ?_); omega))); ((first | refine WD.free 15 rfl (by kernel_rfl) rfl rfl (fun _ _ _ _ _ h => h) rfl rfl (.inr hS) ?_ | refine WD.skip 15 rfl (by kernel_rfl) rfl rfl (fun _ _ _ _ _ h => h) rfl (.inr hS) ?_); try (first | ((with_reducible refine WD.topT ?_ ?_); omega) | ((with_reducible refine WD.topF ?_ ?_); omega) | ((with_reducible refine WD.top64 ?_ ?_); omega))); ((first | refine WD.free 16 rfl (by kernel_rfl) rfl rfl (fun _ _ _ _ _ h => h) rfl rfl (.inr hS) ?_ | refine WD.skip 16 rfl (by kernel_rfl) rfl rfl (fun _ _ _ _ _ h => h) rfl (.inr hS) ?_); try (first | ((with_reducible refine WD.topT ?_ ?_); omega) | ((with_reducible refine WD.topF ?_ ?_); omega) | ((with_reducible refine WD.top64 ?_ ?_); omega))); ((first | refine WD.free 17 rfl (by kernel_rfl) rfl rfl (fun _ _ _ _ _ h => h) rfl rfl (.inr hS) ?_ | refine WD.skip 17 rfl (by kernel_rfl) rfl rfl (fun _ _ _ _ _ h => h) rfl (.inr hS) ?_); try (first | ((with_reducible refine WD.topT ?_ ?_); omega) | ((with_reducible refine WD.topF ?_ ?_); omega) | ((with_reducible refine WD.top64 ?_ ?_); omega))); ((first | refine WD.free 18 rfl (by kernel_rfl) rfl rfl (fun _ _ _ _ _ h => h) rfl rfl (.inr hS) ?_ | refine WD.skip 18 rfl (by kernel_rfl) rfl rfl (fun _ _ _ _ _ h => h) rfl (.inr hS) ?_); try (first | ((with_reducible refine WD.topT ?_ ?_); omega) | ((with_reducible refine WD.topF ?_ ?_); omega) | ((with_reducible refine WD.top64 ?_ ?_); omega))); ((first | refine WD.free 19 rfl (by kernel_rfl) rfl rfl (fun _ _ _ _ _ h => h) rfl rfl (.inr hS) ?_ | refine WD.skip 19 rfl (by kernel_rfl) rfl rfl (fun _ _ _ _ _ h => h) rfl (.inr hS) ?_); try (first | ((with_reducible refine WD.topT ?_ ?_); omega) | ((with_reducible refine WD.topF ?_ ?_); omega) | ((with_reducible refine WD.top64 ?_ ?_); omega))))
      refine WD.one 20 (by kernel_rfl) rfl ?_
      refine WL.pure rfl rfl rfl rfl ?_
      refine WL.nil (WQ.dk (.inl rfl) ?_)
      refine WD.done (by kernel_rfl) ?_
      repeat (first | ((with_reducible refine WL.topT ?_ ?_); omega) | ((with_reducible refine WL.topF ?_ ?_); omega) | ((with_reducible refine WL.top64 ?_ ?_); omega) | refine WC.seq ?_ | refine WC.block ?_ | refine WC.region ?_ | refine WL.nil ?_ | refine WC.skip ?_ | refine WC.exit ?_ | refine WC.ret ?_ | refine WQ.then rfl ?_ | refine WQ.thenExit ?_ | refine WQ.thenRet ?_ | refine WQ.blk ?_ | refine WQ.blkRet ?_ | refine WQ.blkHere rfl ?_ | refine WQ.blkOther rfl ?_ | refine WL.pure rfl rfl rfl rfl ?_ | refine WL.on rfl rfl ?_ | refine WL.off rfl rfl rfl ?_ | refine WC.condTrue rfl ?_ | refine WC.condFalse rfl ?_)
      refine WQ.ret2 rfl rfl rfl ⟨?_, hsm3⟩
      rw [hp, hsp]
      simp [hl2]
theorem spot_get {k : Ky} {L : List KV} (hs : Srt L) : getL k L = if spotB k L then some (L.getD (plc k (L.map Prod.fst)) zKV).2 else none := by
  rw [getL_at hs]
  unfold spotB
  by_cases h : (L.map Prod.fst)[plc k (L.map Prod.fst)]? = some k
  · rw [if_pos h, decide_eq_true h, if_pos rfl]
    have hl : plc k (L.map Prod.fst) < L.length := by
      have := (List.getElem?_eq_some_iff.1 h).1
      rwa [List.length_map] at this
    simp [List.getD_eq_getElem?_getD, hl]
  · rw [if_neg h, decide_eq_false h]; rfl
theorem spot_lt {k : Ky} {L : List KV} (h : spotB k L = true) : plc k (L.map Prod.fst) < L.length := by
  unfold spotB at h
  have := (List.getElem?_eq_some_iff.1 (of_decide_eq_true h)).1
  rwa [List.length_map] at this
theorem rget_any {B : Nat} {w : World} {rb : Nat} {L : List KV} (h : RT B w rb L) (hs : Srt L) (hl : L.length < 1000000000) (k : Ky) : Calls Try.prog 33 #[.pointer (some ⟨rb, 0, none⟩), .string k] w fun e w' => e = .returned (.tuple #[.int .i64 ((getL k L).getD 0), .bool (getL k L).isSome]) ∧ Same w w' := by
  rw [spot_get hs]
  refine enter (args := [.pointer (some ⟨rb, 0, none⟩), .string k]) Try.func33 rfl Try.ntmps33 rfl ?_
  repeat (first | ((with_reducible refine WL.topT ?_ ?_); omega) | ((with_reducible refine WL.topF ?_ ?_); omega) | ((with_reducible refine WL.top64 ?_ ?_); omega) | refine WC.seq ?_ | refine WC.block ?_ | refine WC.region ?_ | refine WL.nil ?_ | refine WC.skip ?_ | refine WC.exit ?_ | refine WC.ret ?_ | refine WQ.then rfl ?_ | refine WQ.thenExit ?_ | refine WQ.thenRet ?_ | refine WQ.blk ?_ | refine WQ.blkRet ?_ | refine WQ.blkHere rfl ?_ | refine WQ.blkOther rfl ?_ | refine WL.pure rfl rfl rfl rfl ?_ | refine WL.on rfl rfl ?_ | refine WL.off rfl rfl rfl ?_ | refine WC.condTrue rfl ?_ | refine WC.condFalse rfl ?_)
  refine WL.call rfl rfl rfl rfl rfl Try.func40 rfl (by kernel_rfl) (spot_any h hs hl k) ?_
  rintro _ w1 ⟨rfl, s1⟩
  refine ⟨_, rfl, ?_⟩
  cases hsp : spotB k L with
  | false =>
    repeat (first | ((with_reducible refine WL.topT ?_ ?_); omega) | ((with_reducible refine WL.topF ?_ ?_); omega) | ((with_reducible refine WL.top64 ?_ ?_); omega) | refine WC.seq ?_ | refine WC.block ?_ | refine WC.region ?_ | refine WL.nil ?_ | refine WC.skip ?_ | refine WC.exit ?_ | refine WC.ret ?_ | refine WQ.then rfl ?_ | refine WQ.thenExit ?_ | refine WQ.thenRet ?_ | refine WQ.blk ?_ | refine WQ.blkRet ?_ | refine WQ.blkHere rfl ?_ | refine WQ.blkOther rfl ?_ | refine WL.pure rfl rfl rfl rfl ?_ | refine WL.on rfl rfl ?_ | refine WL.off rfl rfl rfl ?_ | refine WC.condTrue rfl ?_ | refine WC.condFalse rfl ?_)
    exact WQ.ret2 rfl rfl rfl ⟨rfl, s1⟩
  | true =>
    have hpl := spot_lt hsp
    obtain ⟨h0, vk, vn, hv, -, hn⟩ := h.same s1
    obtain ⟨g, cap, rfl⟩ := own_form hn (by omega)
    have cm := hn.at (plc k (L.map Prod.fst)) (by rw [List.length_map]; exact hpl)
    rw [mapn_getD L hpl] at cm
    generalize plc k (L.map Prod.fst) = p at hpl cm
    repeat (first | ((with_reducible refine WL.topT ?_ ?_); omega) | ((with_reducible refine WL.topF ?_ ?_); omega) | ((with_reducible refine WL.top64 ?_ ?_); omega) | refine WC.seq ?_ | refine WC.block ?_ | refine WC.region ?_ | refine WL.nil ?_ | refine WC.skip ?_ | refine WC.exit ?_ | refine WC.ret ?_ | refine WQ.then rfl ?_ | refine WQ.thenExit ?_ | refine WQ.thenRet ?_ | refine WQ.blk ?_ | refine WQ.blkRet ?_ | refine WQ.blkHere rfl ?_ | refine WQ.blkOther rfl ?_ | refine WL.pure rfl rfl rfl rfl ?_ | refine WL.on rfl rfl ?_ | refine WL.off rfl rfl rfl ?_ | refine WC.condTrue rfl ?_ | refine WC.condFalse rfl ?_)
    refine WL.load rfl rfl rfl rfl rfl rfl (hv.cell 1 (by simp)) ?_
    repeat (first | ((with_reducible refine WL.topT ?_ ?_); omega) | ((with_reducible refine WL.topF ?_ ?_); omega) | ((with_reducible refine WL.top64 ?_ ?_); omega) | refine WC.seq ?_ | refine WC.block ?_ | refine WC.region ?_ | refine WL.nil ?_ | refine WC.skip ?_ | refine WC.exit ?_ | refine WC.ret ?_ | refine WQ.then rfl ?_ | refine WQ.thenExit ?_ | refine WQ.thenRet ?_ | refine WQ.blk ?_ | refine WQ.blkRet ?_ | refine WQ.blkHere rfl ?_ | refine WQ.blkOther rfl ?_ | refine WL.pure rfl rfl rfl rfl ?_ | refine WL.on rfl rfl ?_ | refine WL.off rfl rfl rfl ?_ | refine WC.condTrue rfl ?_ | refine WC.condFalse rfl ?_)
    refine WL.idx p p rfl rfl rfl rfl rfl rfl rfl rfl hpl (by omega) ?_
    refine WL.load rfl rfl rfl rfl rfl rfl cm ?_
    repeat (first | ((with_reducible refine WL.topT ?_ ?_); omega) | ((with_reducible refine WL.topF ?_ ?_); omega) | ((with_reducible refine WL.top64 ?_ ?_); omega) | refine WC.seq ?_ | refine WC.block ?_ | refine WC.region ?_ | refine WL.nil ?_ | refine WC.skip ?_ | refine WC.exit ?_ | refine WC.ret ?_ | refine WQ.then rfl ?_ | refine WQ.thenExit ?_ | refine WQ.thenRet ?_ | refine WQ.blk ?_ | refine WQ.blkRet ?_ | refine WQ.blkHere rfl ?_ | refine WQ.blkOther rfl ?_ | refine WL.pure rfl rfl rfl rfl ?_ | refine WL.on rfl rfl ?_ | refine WL.off rfl rfl rfl ?_ | refine WC.condTrue rfl ?_ | refine WC.condFalse rfl ?_)
    exact WQ.ret2 rfl rfl rfl ⟨rfl, s1⟩
theorem maxI (a b : Nat) : (bif false then (if (b : Int) < a then (b : Int) else a) else (if (b : Int) > a then (b : Int) else a)) = ((max a b : Nat) : Int) := by
  show (if (b : Int) > a then (b : Int) else a) = _
  split <;> omega
def endK (t : Ky) (L : List KV) : Nat := if t.toList == (⟨#[]⟩ : ByteArray).toList then L.length else plc t (L.map Prod.fst)
theorem rends_any {B : Nat} {w : World} {rb : Nat} {L : List KV} (h : RT B w rb L) (hs : Srt L) (hl : L.length < 1000000000) (f t : Ky) : Calls Try.prog 35 #[.pointer (some ⟨rb, 0, none⟩), .string f, .string t] w fun e w' =>
    e = .returned (.tuple #[.int .i64 (plc f (L.map Prod.fst)), .int .i64 (max (plc f (L.map Prod.fst)) (endK t L) : Nat)]) ∧ Same w w' := by
  refine enter (args := [.pointer (some ⟨rb, 0, none⟩), .string f, .string t]) Try.func35 rfl Try.ntmps35 rfl ?_
  repeat (first | ((with_reducible refine WL.topT ?_ ?_); omega) | ((with_reducible refine WL.topF ?_ ?_); omega) | ((with_reducible refine WL.top64 ?_ ?_); omega) | refine WC.seq ?_ | refine WC.block ?_ | refine WC.region ?_ | refine WL.nil ?_ | refine WC.skip ?_ | refine WC.exit ?_ | refine WC.ret ?_ | refine WQ.then rfl ?_ | refine WQ.thenExit ?_ | refine WQ.thenRet ?_ | refine WQ.blk ?_ | refine WQ.blkRet ?_ | refine WQ.blkHere rfl ?_ | refine WQ.blkOther rfl ?_ | refine WL.pure rfl rfl rfl rfl ?_ | refine WL.on rfl rfl ?_ | refine WL.off rfl rfl rfl ?_ | refine WC.condTrue rfl ?_ | refine WC.condFalse rfl ?_)
  refine WL.call rfl rfl rfl rfl rfl Try.func40 rfl (by kernel_rfl) (spot_any h hs hl f) ?_
  rintro _ w1 ⟨rfl, s1⟩
  refine ⟨_, rfl, ?_⟩
  have h' := h.same s1
  have hpl := plc_le f (L.map Prod.fst)
  have hpt := plc_le t (L.map Prod.fst)
  rw [List.length_map] at hpl hpt
  obtain ⟨h0, vk, vn, hv, hk, -⟩ := id h'
  obtain ⟨sp, cap, rfl, -, -⟩ := hk.slice
  have c0 : w1.cell? ⟨rb, 0, none⟩ = some (.slice sp L.length cap) := hv.cell 0 (by simp)
  have he : endK t L = if t.toList == (⟨#[]⟩ : ByteArray).toList then L.length else plc t (L.map Prod.fst) := rfl
  generalize plc f (L.map Prod.fst) = p at hpl
  repeat (first | ((with_reducible refine WL.topT ?_ ?_); omega) | ((with_reducible refine WL.topF ?_ ?_); omega) | ((with_reducible refine WL.top64 ?_ ?_); omega) | refine WC.seq ?_ | refine WC.block ?_ | refine WC.region ?_ | refine WL.nil ?_ | refine WC.skip ?_ | refine WC.exit ?_ | refine WC.ret ?_ | refine WQ.then rfl ?_ | refine WQ.thenExit ?_ | refine WQ.thenRet ?_ | refine WQ.blk ?_ | refine WQ.blkRet ?_ | refine WQ.blkHere rfl ?_ | refine WQ.blkOther rfl ?_ | refine WL.pure rfl rfl rfl rfl ?_ | refine WL.on rfl rfl ?_ | refine WL.off rfl rfl rfl ?_ | refine WL.load rfl rfl rfl rfl rfl rfl (by assumption) ?_ | refine WC.condTrue rfl ?_ | refine WC.condFalse rfl ?_)
  cases htz : (t.toList == (⟨#[]⟩ : ByteArray).toList) with
  | true =>
    rw [htz, if_pos rfl] at he
    rw [he]
    repeat (first | ((with_reducible refine WL.topT ?_ ?_); omega) | ((with_reducible refine WL.topF ?_ ?_); omega) | ((with_reducible refine WL.top64 ?_ ?_); omega) | refine WC.seq ?_ | refine WC.block ?_ | refine WC.region ?_ | refine WL.nil ?_ | refine WC.skip ?_ | refine WC.exit ?_ | refine WC.ret ?_ | refine WQ.then rfl ?_ | refine WQ.thenExit ?_ | refine WQ.thenRet ?_ | refine WQ.blk ?_ | refine WQ.blkRet ?_ | refine WQ.blkHere rfl ?_ | refine WQ.blkOther rfl ?_ | refine WL.pure rfl rfl rfl rfl ?_ | refine WL.on rfl rfl ?_ | refine WL.off rfl rfl rfl ?_ | refine WC.condTrue rfl ?_ | refine WC.condFalse rfl ?_)
    exact WQ.ret2 rfl rfl rfl ⟨congrArg (fun z => Ending.returned (.tuple #[.int .i64 p, .int .i64 z])) (maxI p L.length), s1⟩
  | false =>
    rw [htz, if_neg Bool.false_ne_true] at he
    rw [he]
    repeat (first | ((with_reducible refine WL.topT ?_ ?_); omega) | ((with_reducible refine WL.topF ?_ ?_); omega) | ((with_reducible refine WL.top64 ?_ ?_); omega) | refine WC.seq ?_ | refine WC.block ?_ | refine WC.region ?_ | refine WL.nil ?_ | refine WC.skip ?_ | refine WC.exit ?_ | refine WC.ret ?_ | refine WQ.then rfl ?_ | refine WQ.thenExit ?_ | refine WQ.thenRet ?_ | refine WQ.blk ?_ | refine WQ.blkRet ?_ | refine WQ.blkHere rfl ?_ | refine WQ.blkOther rfl ?_ | refine WL.pure rfl rfl rfl rfl ?_ | refine WL.on rfl rfl ?_ | refine WL.off rfl rfl rfl ?_ | refine WC.condTrue rfl ?_ | refine WC.condFalse rfl ?_)
    refine WL.call rfl rfl rfl rfl rfl Try.func40 rfl (by kernel_rfl) (spot_any h' hs hl t) ?_
    rintro _ w2 ⟨rfl, s2⟩
    refine ⟨_, rfl, ?_⟩
    generalize plc t (L.map Prod.fst) = q at hpt
    repeat (first | ((with_reducible refine WL.topT ?_ ?_); omega) | ((with_reducible refine WL.topF ?_ ?_); omega) | ((with_reducible refine WL.top64 ?_ ?_); omega) | refine WC.seq ?_ | refine WC.block ?_ | refine WC.region ?_ | refine WL.nil ?_ | refine WC.skip ?_ | refine WC.exit ?_ | refine WC.ret ?_ | refine WQ.then rfl ?_ | refine WQ.thenExit ?_ | refine WQ.thenRet ?_ | refine WQ.blk ?_ | refine WQ.blkRet ?_ | refine WQ.blkHere rfl ?_ | refine WQ.blkOther rfl ?_ | refine WL.pure rfl rfl rfl rfl ?_ | refine WL.on rfl rfl ?_ | refine WL.off rfl rfl rfl ?_ | refine WC.condTrue rfl ?_ | refine WC.condFalse rfl ?_)
    exact WQ.ret2 rfl rfl rfl ⟨congrArg (fun z => Ending.returned (.tuple #[.int .i64 p, .int .i64 z])) (maxI p q), s1.trans s2⟩
end K
end Go.Proofs.Ytilmfnlaenneeaa

/- The law's ranges (chapter 13): plain laws. -/
namespace Go.Proofs.Ytilmfnlaenneeaa
open Go.RowKit
namespace K
open Tre
theorem seq_below {α : Type} {F : Fence} {n : Nat} {P : Program} {g : Nat} {lb : Array Value} {encs : α → Array Value} {Kp : World → World → Prop} {S Sp : List α → Prop} {N : Nat} {w w2 : World} (h : SeqStopsK F n P g lb encs Kp S Sp N w) (hb : Below w.heap.size w w2) :
    SeqStopsK F n P g lb encs Kp S Sp N w2 := fun l J Jx W hW => h l J Jx W (hb.trans (hW.mono hb.size))
/-- What stands ahead of a text's place is below it; what stands from there on is not. -/
theorem plc_lo {k : Ky} : ∀ {L : List KV} {j : Nat}, j < plc k (L.map Prod.fst) → kl (L.getD j zKV).1 k = true
  | [], j, h => by simp [plc] at h
  | e :: r, j, h => by
    rw [List.map_cons] at h
    unfold plc at h
    by_cases hk : kl e.1 k = true
    · rw [if_pos hk] at h
      cases j with
      | zero => exact hk
      | succ j => exact plc_lo (L := r) (by omega)
    · rw [if_neg hk] at h; omega
theorem plc_hi {k : Ky} : ∀ {L : List KV} {j : Nat}, Srt L → plc k (L.map Prod.fst) ≤ j → j < L.length → kl (L.getD j zKV).1 k = false
  | [], j, _, _, h => by simp at h
  | e :: r, j, hs, h, hl => by
    rw [List.map_cons] at h
    unfold plc at h
    obtain ⟨h1, h2⟩ := List.pairwise_cons.1 hs
    by_cases hk : kl e.1 k = true
    · rw [if_pos hk] at h
      cases j with
      | zero => omega
      | succ j => exact plc_hi (L := r) h2 (by omega) (by simpa using hl)
    · rw [if_neg hk] at h
      have hk' : kl e.1 k = false := by simpa using hk
      cases j with
      | zero => exact hk'
      | succ j =>
        have hj : j < r.length := by simpa using hl
        have hm : r.getD j zKV ∈ r := by rw [List.getD_eq_getElem?_getD, List.getElem?_eq_getElem hj]; exact List.getElem_mem hj
        exact kl_le_le hk' (kl_asymm (h1 _ hm))
/-- A range is a piece of the list. -/
theorem flt_piece {f t : Ky} {L : List KV} (hs : Srt L) : flt f t L = (L.drop (plc f (L.map Prod.fst))).take (max (plc f (L.map Prod.fst)) (endK t L) - plc f (L.map Prod.fst)) := by
  have hi := plc_le f (L.map Prod.fst)
  have hk := plc_le t (L.map Prod.fst)
  rw [List.length_map] at hi hk
  have hlo := fun j => plc_lo (k := f) (L := L) (j := j)
  have hhi := fun j => plc_hi (k := f) (L := L) (j := j) hs
  have hlo2 := fun j => plc_lo (k := t) (L := L) (j := j)
  have hhi2 := fun j => plc_hi (k := t) (L := L) (j := j) hs
  have hE : endK t L = if isE t then L.length else plc t (L.map Prod.fst) := rfl
  generalize plc f (L.map Prod.fst) = i at hi hlo hhi
  have hEk : endK t L ≤ L.length := by rw [hE]; split <;> omega
  have hm : ∀ e : KV, ∀ j, L[j]? = some e → L.getD j zKV = e := fun e j h => by rw [List.getD_eq_getElem?_getD, h]; rfl
  obtain ⟨m, hmm⟩ : ∃ m, m = max i (endK t L) - i := ⟨_, rfl⟩
  rw [← hmm]
  have hsp : L = L.take i ++ ((L.drop i).take m ++ (L.drop i).drop m) := by rw [List.take_append_drop, List.take_append_drop]
  have hA : (L.take i).filter (inR f t) = [] := by
    rw [List.filter_eq_nil_iff]
    intro e he
    obtain ⟨j, hj⟩ := List.getElem?_of_mem he
    have hji : j < i := by
      have := (List.getElem?_eq_some_iff.1 hj).1
      rw [List.length_take] at this; omega
    rw [List.getElem?_take_of_lt hji] at hj
    have := hlo j hji
    rw [hm e j hj] at this
    unfold inR
    rw [this]
    simp
  have hM : ((L.drop i).take m).filter (inR f t) = (L.drop i).take m := by
    rw [List.filter_eq_self]
    intro e he
    obtain ⟨j, hj⟩ := List.getElem?_of_mem he
    have hjm : j < m := by
      have := (List.getElem?_eq_some_iff.1 hj).1
      rw [List.length_take] at this; omega
    rw [List.getElem?_take_of_lt hjm, List.getElem?_drop] at hj
    have hlt := (List.getElem?_eq_some_iff.1 hj).1
    have h1 := hhi (i + j) (by omega) hlt
    rw [hm e _ hj] at h1
    unfold inR
    rw [h1]
    cases hz : isE t with
    | true => rfl
    | false =>
      rw [hz, if_neg Bool.false_ne_true] at hE
      have h2 := hlo2 (i + j) (by omega)
      rw [hm e _ hj] at h2
      rw [h2]
      rfl
  have hZ : ((L.drop i).drop m).filter (inR f t) = [] := by
    rw [List.filter_eq_nil_iff]
    intro e he
    obtain ⟨j, hj⟩ := List.getElem?_of_mem he
    rw [List.getElem?_drop, List.getElem?_drop] at hj
    have hlt := (List.getElem?_eq_some_iff.1 hj).1
    unfold inR
    cases hz : isE t with
    | true => rw [hz, if_pos rfl] at hE; omega
    | false =>
      rw [hz, if_neg Bool.false_ne_true] at hE
      have h2 := hhi2 (i + (m + j)) (by omega) hlt
      rw [hm e _ hj] at h2
      rw [h2]
      simp
  unfold flt
  conv => lhs; rw [hsp]
  rw [List.filter_append, List.filter_append, hA, hM, hZ]
  simp
end K
end Go.Proofs.Ytilmfnlaenneeaa

/- The document's tree (scrivenerref13): Put. -/
namespace Go.Proofs.Ytilmfnlaenneeaa
open Go.RowKit
namespace K
open Tre
section
variable {n : NN} {Q : Exit → Act → World → Prop} {l : Env} {w w' : World} {ops : Array Oper} {o : Oper} {rest : List Oper} {d : Nat} {S : World → Prop} {m fuel : Nat} {listed : Array Bool}
theorem slice1 {t e : Nat} (ht : tyOf ty t = some (.slice e 1)) (w : World) : Try.prog.underlying t = some (.slice (Try.prog.elem t)) ∧ (sizeOf (Try.prog.elem t)).run Try.prog w = .ok 1 w := by
  obtain ⟨hu, hsz⟩ := TyOk.of tyOk ht
  have he : Try.prog.elem t = e := by simp [Program.elem, hu]
  refine ⟨by rw [he]; exact hu, ?_⟩
  rw [he]
  cases hq : Try.prog.info? e with
  | none => rw [hq] at hsz; cases hsz
  | some q => rw [hq] at hsz; simp at hsz; simp [sizeOf, typeInfo, hq, hsz]
theorem fromS_run {a : Act} {t e g len cap : Nat} {x lo : Operand} {k1 : IntKind} {y : Int} {i : Nat} (ho : o.op = .slice t x (some lo) none none) (ht : tyOf ty t = some (.slice e 1)) (hx : a.eval x = .slice (some ⟨g, 0, none⟩) len cap)
    (hlo : a.eval lo = .int k1 y) (hy : y = (i : Int)) (h1 : i ≤ len) : (execOp a.eval o).run Try.prog w = .ok (.value (.slice (some ⟨g, cutOff cap i 0 1, none⟩) (len - i) (cap - i))) w := by
  obtain ⟨hu', hs⟩ := slice1 ht w
  unfold execOp
  rw [ho]
  subst hy
  have hr := run_slice_l w t (some ⟨g, 0, none⟩) len cap hu' k1 (i : Int) (by omega) (by omega)
  simp only [hx, hlo, Option.map_some, Option.map_none, run_sliceAt_slice w t _ _ _ _ hu', hr, Sem.run_bind, hs, Result.andThen_ok, Int.toNat_natCast, Sem.run_pure]
  unfold sliced cutOff
  by_cases hc : cap = i
  · simp [hc]
  · simp [hc, Addr.add_mid]
theorem uptoS_run {a : Act} {t e g len cap : Nat} {x hi : Operand} {k1 : IntKind} {y : Int} {j : Nat} (ho : o.op = .slice t x none (some hi) none) (ht : tyOf ty t = some (.slice e 1)) (hx : a.eval x = .slice (some ⟨g, 0, none⟩) len cap)
    (hhi : a.eval hi = .int k1 y) (hy : y = (j : Int)) (h1 : j ≤ cap) : (execOp a.eval o).run Try.prog w = .ok (.value (.slice (some ⟨g, 0, none⟩) j cap)) w := by
  obtain ⟨hu', hs⟩ := slice1 ht w
  unfold execOp
  rw [ho]
  subst hy
  have hr := run_slice_h w t (some ⟨g, 0, none⟩) len cap hu' k1 (j : Int) (by omega) (by omega)
  simp only [hx, hhi, Option.map_some, Option.map_none, run_sliceAt_slice w t _ _ _ _ hu', hr, Sem.run_bind, hs, Result.andThen_ok, Int.toNat_natCast, Sem.run_pure]
  unfold sliced
  by_cases hc : cap = 0
  · simp [hc]
  · simp [hc, Addr.add_mid]
theorem WD.fromS {oi : Oper} {t e g len cap : Nat} {x lo : Operand} {k1 : IntKind} {y : Int} (i p : Nat) (hi0 : ops[i]? = some oi) (hs : mayB ops listed i m = true) (hd : oi.dst = some d) (hn : Nat.blt d n.n = true) (hQ : Passes Q) (hw : wants ops l oi = some true)
    (ho : oi.op = .slice t x (some lo) none none) (ht : tyOf ty t = some (.slice e 1)) (hx : evl l x = some (.slice (some ⟨g, 0, none⟩) len cap)) (hlo : evl l lo = some (.int k1 y)) (hy : y = (p : Int)) (h1 : p ≤ len)
    (hS : listed.getD m false = true ∨ S w) (h : WD n ops Q S m fuel (listed.setIfInBounds i true) ((d, .slice (some ⟨g, cutOff cap p 0 1, none⟩) (len - p) (cap - p)) :: l) w) : WD n ops Q S m (fuel + 1) listed l w :=
  WD.first i hi0 hs hd hn hQ (fun _ ha => .inl ⟨wants_run ha hw, fun _ _ => fromS_run ho ht (ha.eval hx) (ha.eval hlo) hy h1⟩) hS h
theorem WD.uptoS {oi : Oper} {t e g len cap : Nat} {x hi : Operand} {k1 : IntKind} {y : Int} (i p : Nat) (hi0 : ops[i]? = some oi) (hs : mayB ops listed i m = true) (hd : oi.dst = some d) (hn : Nat.blt d n.n = true) (hQ : Passes Q) (hw : wants ops l oi = some true)
    (ho : oi.op = .slice t x none (some hi) none) (ht : tyOf ty t = some (.slice e 1)) (hx : evl l x = some (.slice (some ⟨g, 0, none⟩) len cap)) (hhi : evl l hi = some (.int k1 y)) (hy : y = (p : Int)) (h1 : p ≤ cap)
    (hS : listed.getD m false = true ∨ S w) (h : WD n ops Q S m fuel (listed.setIfInBounds i true) ((d, .slice (some ⟨g, 0, none⟩) p cap) :: l) w) : WD n ops Q S m (fuel + 1) listed l w :=
  WD.first i hi0 hs hd hn hQ (fun _ ha => .inl ⟨wants_run ha hw, fun _ _ => uptoS_run ho ht (ha.eval hx) (ha.eval hhi) hy h1⟩) hS h
end
theorem vblk_of {w : World} {g T : Nat} {cur : Array Value} (h : w.heap[g]? = some (.cells cur T (0, 0))) : VBlk T w g cur.toList := by
  show w.heap[g]? = some (.cells cur.toList.toArray T (0, 0))
  rw [Array.toArray_toList]; exact h
/-- A row whose elements from i on are copied one place up. -/
theorem OwnV.up {e : TypeId} {w : World} {O : Nat → Prop} {g n cap : Nat} {l : List Value} {cur : Array Value} (h : OwnV e 1 w O (.slice (some ⟨g, 0, none⟩) (n + 1) cap) (n + 1) l) (hc : w.heap[g]? = some (.cells cur e (0, 0))) {i : Nat} (hi : i ≤ n) :
    (∀ vs : List Value, vs = (l.drop i).take (n - i) → OwnV e 1 (w.setRow g (cur.toList.take (cutOff cap (i + 1) 0 1) ++ vs ++ cur.toList.drop (cutOff cap (i + 1) 0 1 + vs.length)).toArray) O (.slice (some ⟨g, 0, none⟩) (n + 1) cap) (n + 1) (l.take (i + 1) ++ (l.drop i).take (n - i)) ∧
      vs.length = min (n + 1 - i) (n + 1 - (i + 1)) ∧ cutOff cap (i + 1) 0 1 + vs.length ≤ cur.toList.length ∧ Ones vs ∧ w.rangeAt g (cutOff cap i 0 1) vs) := by
  rintro vs rfl
  have hat := fun j hj => h.at j hj
  obtain ⟨⟨hl, hx⟩, h1, h2⟩ := h
  rcases hx with ⟨he, -⟩ | ⟨g', cap', cur', he, -, hg, hnc, hcm, hsz, htk⟩
  · cases he
  obtain ⟨rfl, rfl⟩ : g = g' ∧ cap = cap' := by
    injection he with a b c
    injection a with a
    injection a with a
    exact ⟨a, c⟩
  rw [hc] at hg
  injection hg with hg
  injection hg with hg _ _
  subst hg
  rw [Nat.mul_one] at hl hsz htk
  have hcl : cur.toList.length = cap := by simpa using hsz
  have hvl : ((l.drop i).take (n - i)).length = n - i := by rw [List.length_take, List.length_drop]; omega
  have hones : Ones ((l.drop i).take (n - i)) := fun x hx => h1 x (List.mem_of_mem_drop (List.mem_of_mem_take hx))
  have hcut : cutOff cap i 0 1 = i := by unfold cutOff; rw [if_neg (by omega)]; omega
  refine ⟨⟨⟨?_, .inr ⟨g, cap, _, rfl, Nat.zero_le _, VBlk.setRow (T := e) (l := cur.toList) (vblk_of hc) _, hnc, hcm, ?_, ?_⟩⟩, ?_, h2⟩, by omega, ?_, hones, ?_⟩
  · rw [List.length_append, hvl, List.length_take]; omega
  · rw [Nat.mul_one, List.size_toArray, List.length_append, List.length_append, List.length_take, List.length_drop, hcl, hvl]
    unfold cutOff
    split <;> omega
  · rw [Nat.mul_one]
    show List.take (n + 1) (_ ++ _ ++ _) = _
    rcases Nat.lt_or_ge i n with hlt | hge
    · have hod : cutOff cap (i + 1) 0 1 = i + 1 := by unfold cutOff; rw [if_neg (by omega)]; omega
      rw [hod, List.take_append_of_le_length (by rw [List.length_append, List.length_take, hcl, hvl]; omega), List.take_of_length_le (by rw [List.length_append, List.length_take, hcl, hvl]; omega)]
      congr 1
      rw [← htk, List.take_take, Nat.min_eq_left (by omega)]
    · obtain rfl : i = n := by omega
      simp only [Nat.sub_self, List.take_zero, List.append_nil, List.length_nil, Nat.add_zero, List.take_append_drop]
      rw [htk, List.take_of_length_le (by omega)]
  · intro x hx
    rcases List.mem_append.1 hx with hx | hx
    · exact h1 x (List.mem_of_mem_take hx)
    · exact hones x hx
  · rw [hvl, hcl]
    unfold cutOff
    split <;> omega
  · rw [hcut]
    intro j u hu
    have hj : j < n - i := by
      rcases Nat.lt_or_ge j (n - i) with hj | hj
      · exact hj
      · rw [List.getElem?_eq_none (by rw [hvl]; exact hj)] at hu; cases hu
    rw [List.getElem?_take_of_lt hj, List.getElem?_drop] at hu
    have := hat (i + j) (by omega)
    rw [this, List.getD_eq_getElem?_getD, hu]
    rfl
/-- Blocks of the document's tree's kinds. -/
def IsR (w : World) (b : Nat) : Prop := ∃ cur T x, w.heap[b]? = some (.cells cur T x) ∧ (T = refT ∨ T = ksT ∨ T = nsT)
/-- What a step at the document's tree leaves. -/
def RK (B : Nat) (w w' : World) : Prop := Keep (fun b => b < w.heap.size ∧ (b < B ∨ ¬ IsR w b)) w w'
theorem RK.refl (B : Nat) (w : World) : RK B w w := Keep.refl _ _
theorem RK.trans {B : Nat} {a b c : World} (h : RK B a b) (k : RK B b c) : RK B a c :=
  Keep.trans h (k.mono fun x hx => ⟨Nat.lt_of_lt_of_le hx.1 h.size, hx.2.imp id fun hn ⟨cur, T, y, e, ht⟩ => hn ⟨cur, T, y, (h.block x hx).symm.trans e, ht⟩⟩)
theorem RK.same {B : Nat} {w w' : World} (h : Same w w') : RK B w w' := h.keep _
theorem RK.of_below {B : Nat} {w w' : World} (h : Below w.heap.size w w') : RK B w w' := (Keep.of_below h).mono fun _ hx => hx.1
structure RS (B : Nat) (w : World) (rb : Nat) (vk : Value) (nk : Nat) (lk : List Value) (vn : Value) (nn : Nat) (ln : List Value) : Prop where
  hB : B ≤ rb
  hv : VBlk refT w rb [vk, vn]
  hk : OwnV ksT 1 w (fun b => B ≤ b) vk nk lk
  hn : OwnV nsT 1 w (fun b => B ≤ b) vn nn ln
section
variable {B : Nat} {w : World} {rb : Nat} {vk : Value} {nk : Nat} {lk : List Value} {vn : Value} {nn : Nat} {ln : List Value}
theorem RS.kr (h : RS B w rb vk nk lk vn nn ln) {g : Nat} (hg : vk.ownBlock = some g) : g ≠ rb := fun e => by
  obtain ⟨cur, hc⟩ := h.hk.tag hg
  have h2 : w.heap[rb]? = some (.cells [vk, vn].toArray refT (0, 0)) := h.hv
  rw [← e, hc] at h2
  injection h2 with h2
  injection h2 with _ h2 _
  exact absurd h2 (by decide)
theorem RS.nr (h : RS B w rb vk nk lk vn nn ln) {g : Nat} (hg : vn.ownBlock = some g) : g ≠ rb := fun e => by
  obtain ⟨cur, hc⟩ := h.hn.tag hg
  have h2 : w.heap[rb]? = some (.cells [vk, vn].toArray refT (0, 0)) := h.hv
  rw [← e, hc] at h2
  injection h2 with h2
  injection h2 with _ h2 _
  exact absurd h2 (by decide)
theorem RS.kn (h : RS B w rb vk nk lk vn nn ln) {g g' : Nat} (hg : vk.ownBlock = some g) (hg' : vn.ownBlock = some g') : g ≠ g' := fun e => by
  obtain ⟨cur, hc⟩ := h.hk.tag hg
  obtain ⟨cur', hc'⟩ := h.hn.tag hg'
  rw [← e, hc] at hc'
  injection hc' with h2
  injection h2 with _ h2 _
  exact absurd h2 (by decide)
theorem RS.rk (h : RS B w rb vk nk lk vn nn ln) {b : Nat} (hb : b < w.heap.size ∧ (b < B ∨ ¬ IsR w b)) : b ≠ rb ∧ vk.ownBlock ≠ some b ∧ vn.ownBlock ≠ some b := by
  refine ⟨fun e => ?_, fun e => ?_, fun e => ?_⟩
  · rcases hb.2 with h1 | h1
    · have := h.hB; omega
    · exact h1 (e ▸ ⟨_, _, _, h.hv, .inl rfl⟩)
  · rcases hb.2 with h1 | h1
    · have := h.hk.own e; omega
    · obtain ⟨cur, hc⟩ := h.hk.tag e; exact h1 ⟨_, _, _, hc, .inr (.inl rfl)⟩
  · rcases hb.2 with h1 | h1
    · have := h.hn.own e; omega
    · obtain ⟨cur, hc⟩ := h.hn.tag e; exact h1 ⟨_, _, _, hc, .inr (.inr rfl)⟩
theorem RS.below {w' : World} (h : RS B w rb vk nk lk vn nn ln) (hb : Below w.heap.size w w') : RS B w' rb vk nk lk vn nn ln :=
  ⟨h.hB, h.hv.below hb h.hv.lt, h.hk.keep (Keep.of_below hb) (fun _ hg => h.hk.lt hg), h.hn.keep (Keep.of_below hb) (fun _ hg => h.hn.lt hg)⟩
theorem RS.same {w' : World} (h : RS B w rb vk nk lk vn nn ln) (hs : Same w w') : RS B w' rb vk nk lk vn nn ln :=
  ⟨h.hB, h.hv.of_block (hs.block rb), h.hk.of_block fun g _ => hs.block g, h.hn.of_block fun g _ => hs.block g⟩
/-- The row has grown, and lies in the tree again. -/
theorem RS.appK {w2 : World} {v2 : Value} {m2 : Nat} {l2 : List Value} (h : RS B w rb vk nk lk vn nn ln) (ho : OwnV ksT 1 w2 (fun b => B ≤ b ∨ b = w.heap.size) v2 m2 l2) (hg : Grow w vk w2 v2) (hBw : B ≤ w.heap.size) :
    RS B (w2.setCell ⟨rb, 0, none⟩ v2) rb v2 m2 l2 vn nn ln ∧ RK B w (w2.setCell ⟨rb, 0, none⟩ v2) := by
  have hlt := h.hv.lt
  have hne : vk.ownBlock ≠ some rb := fun e => h.kr e rfl
  have hv2 : VBlk refT w2 rb [vk, vn] := h.hv.keep hg.1 ⟨hlt, hne⟩
  have ho' : OwnV ksT 1 w2 (fun b => B ≤ b) v2 m2 l2 := ho.mono fun b hb => hb.elim id fun e => by omega
  have hr2 : ∀ q, v2.ownBlock = some q → q ≠ rb := fun q hq => by
    rcases hg.2 q hq with e | e
    · exact h.kr e
    · omega
  have kc : Keep (fun b => b ≠ rb) w2 (w2.setCell ⟨rb, 0, none⟩ v2) := (Keep.refl _ _).setCell (p := ⟨rb, 0, none⟩) (by simp) _
  have hother : OwnV nsT 1 w2 (fun b => B ≤ b) vn nn ln := h.hn.keep hg.1 fun q hq => ⟨h.hn.lt hq, fun e => h.kn e hq rfl⟩
  refine ⟨⟨h.hB, VBlk.set hv2 0 v2, ho'.keep kc hr2, hother.keep kc (fun q hq => h.nr hq)⟩, ?_⟩
  exact Keep.trans (hg.1.mono fun b hb => ⟨hb.1, (h.rk hb).2.1⟩) (kc.mono fun b hb => (h.rk hb).1)
theorem RS.setK {w2 : World} {l2 : List Value} (h : RS B w rb vk nk lk vn nn ln) {g : Nat} (hgv : vk.ownBlock = some g) (hk : Keep (fun b => b ≠ g) w w2) (ho : OwnV ksT 1 w2 (fun b => B ≤ b) vk nk l2) : RS B w2 rb vk nk l2 vn nn ln ∧ RK B w w2 := by
  have hv2 : VBlk refT w2 rb [vk, vn] := h.hv.keep hk (fun e => h.kr hgv e.symm)
  have hother : OwnV nsT 1 w2 (fun b => B ≤ b) vn nn ln := h.hn.keep hk fun q hq e => h.kn hgv hq e.symm
  exact ⟨⟨h.hB, hv2, ho, hother⟩, hk.mono fun b hb e => by rw [← e] at hgv; exact (h.rk hb).2.1 hgv⟩
/-- The row has grown, and lies in the tree again. -/
theorem RS.appN {w2 : World} {v2 : Value} {m2 : Nat} {l2 : List Value} (h : RS B w rb vk nk lk vn nn ln) (ho : OwnV nsT 1 w2 (fun b => B ≤ b ∨ b = w.heap.size) v2 m2 l2) (hg : Grow w vn w2 v2) (hBw : B ≤ w.heap.size) :
    RS B (w2.setCell ⟨rb, 1, none⟩ v2) rb vk nk lk v2 m2 l2 ∧ RK B w (w2.setCell ⟨rb, 1, none⟩ v2) := by
  have hlt := h.hv.lt
  have hne : vn.ownBlock ≠ some rb := fun e => h.nr e rfl
  have hv2 : VBlk refT w2 rb [vk, vn] := h.hv.keep hg.1 ⟨hlt, hne⟩
  have ho' : OwnV nsT 1 w2 (fun b => B ≤ b) v2 m2 l2 := ho.mono fun b hb => hb.elim id fun e => by omega
  have hr2 : ∀ q, v2.ownBlock = some q → q ≠ rb := fun q hq => by
    rcases hg.2 q hq with e | e
    · exact h.nr e
    · omega
  have kc : Keep (fun b => b ≠ rb) w2 (w2.setCell ⟨rb, 1, none⟩ v2) := (Keep.refl _ _).setCell (p := ⟨rb, 1, none⟩) (by simp) _
  have hother : OwnV ksT 1 w2 (fun b => B ≤ b) vk nk lk := h.hk.keep hg.1 fun q hq => ⟨h.hk.lt hq, fun e => h.kn hq e rfl⟩
  refine ⟨⟨h.hB, VBlk.set hv2 1 v2, hother.keep kc (fun q hq => h.kr hq), ho'.keep kc hr2⟩, ?_⟩
  exact Keep.trans (hg.1.mono fun b hb => ⟨hb.1, (h.rk hb).2.2⟩) (kc.mono fun b hb => (h.rk hb).1)
theorem RS.setN {w2 : World} {l2 : List Value} (h : RS B w rb vk nk lk vn nn ln) {g : Nat} (hgv : vn.ownBlock = some g) (hk : Keep (fun b => b ≠ g) w w2) (ho : OwnV nsT 1 w2 (fun b => B ≤ b) vn nn l2) : RS B w2 rb vk nk lk vn nn l2 ∧ RK B w w2 := by
  have hv2 : VBlk refT w2 rb [vk, vn] := h.hv.keep hk (fun e => h.nr hgv e.symm)
  have hother : OwnV ksT 1 w2 (fun b => B ≤ b) vk nk lk := h.hk.keep hk fun q hq e => h.kn hq hgv e
  exact ⟨⟨h.hB, hv2, hother, ho⟩, hk.mono fun b hb e => by rw [← e] at hgv; exact (h.rk hb).2.2 hgv⟩
end
theorem elemK : ElemV Try.prog 31 ksT 1 16 := ElemV.mk' (z := .string ByteArray.empty) Try.underlying31 (by kernel_rfl) rfl (by omega)
theorem elemN : ElemV Try.prog 44 nsT 1 8 := ElemV.mk' (z := .int .i64 0) Try.underlying44 (by kernel_rfl) rfl (by omega)
theorem keepRow {K : Nat → Prop} {a w : World} (h : Keep K a w) {g : Nat} (hg : ¬ K g) (cs : Array Value) : Keep K a (w.setRow g cs) :=
  ⟨h.os, h.tape, h.output, by simpa using h.size, fun k hk => (setRow_other w g k cs (fun e => hg (e ▸ hk))).trans (h.block k hk)⟩
theorem up_set {l0 : List Value} {n p : Nat} (hl : l0.length = n) (hp : p ≤ n) (x u : Value) : (((l0 ++ [x]).take (p + 1) ++ ((l0 ++ [x]).drop p).take (n - p)).set p u) = l0.take p ++ u :: l0.drop p := by
  have h1 : ((l0 ++ [x]).drop p).take (n - p) = l0.drop p := by
    rw [List.drop_append_of_le_length (by omega), List.take_append_of_le_length (by rw [List.length_drop]; omega), List.take_of_length_le (by rw [List.length_drop]; omega)]
  have h2 : ∃ y, (l0 ++ [x]).take (p + 1) = l0.take p ++ [y] := by
    rw [List.take_add_one, List.take_append_of_le_length (by omega)]
    have : p < (l0 ++ [x]).length := by simp; omega
    exact ⟨_, by rw [List.getElem?_eq_getElem this]; rfl⟩
  obtain ⟨y, h2⟩ := h2
  have h3 : (l0.take p).length = p := by rw [List.length_take]; omega
  rw [h1, h2, List.append_assoc, List.set_append_right _ _ (by omega), h3, Nat.sub_self]
  rfl
theorem ins_set {k : Ky} {n : Int} {L : List KV} (hs : Srt L) (h : spotB k L = true) : insL k n L = L.set (plc k (L.map Prod.fst)) (k, n) := by
  rw [ins_at hs, if_pos (of_decide_eq_true h), List.set_eq_take_append_cons_drop, if_pos (spot_lt h)]
theorem spot_key {k : Ky} {L : List KV} (h : spotB k L = true) : (L.getD (plc k (L.map Prod.fst)) zKV).1 = k := by
  have h1 := of_decide_eq_true h
  have hl := spot_lt h
  rw [List.getElem?_map, List.getElem?_eq_getElem hl] at h1
  simp only [Option.map_some, Option.some.injEq] at h1
  rw [List.getD_eq_getElem?_getD, List.getElem?_eq_getElem hl]
  exact h1
theorem RS.rt {B : Nat} {w : World} {rb : Nat} {vk vn : Value} {nk nn : Nat} {lk ln : List Value} (h : RS B w rb vk nk lk vn nn ln) {L : List KV} (h1 : nk = L.length) (h2 : nn = L.length) (h3 : lk = L.map kV) (h4 : ln = L.map nV) : RT B w rb L := by
  subst h1; subst h2; subst h3; subst h4
  exact ⟨h.hB, vk, vn, h.hv, h.hk, h.hn⟩
theorem RT.rs {B : Nat} {w : World} {rb : Nat} {L : List KV} (h : RT B w rb L) : ∃ vk vn, RS B w rb vk L.length (L.map kV) vn L.length (L.map nV) := by
  obtain ⟨h0, vk, vn, h1, h2, h3⟩ := h
  exact ⟨vk, vn, h0, h1, h2, h3⟩
set_option maxRecDepth 20000 in
set_option maxHeartbeats 4000000 in
theorem rput_any {B : Nat} {w : World} {rb : Nat} {L : List KV} (h : RT B w rb L) (hs : Srt L) (hl : L.length < 1000000000) (hBw : B ≤ w.heap.size) (k : Ky) (n : Int) : Calls Try.prog 32 #[.pointer (some ⟨rb, 0, none⟩), .string k, .int .i64 n] w fun e w' => e = .returned (.tuple #[.int .i64 ((getL k L).getD 0), .bool (getL k L).isSome]) ∧ RT B w' rb (insL k n L) ∧ RK B w w' := by
  rw [spot_get hs]
  refine enter (args := [.pointer (some ⟨rb, 0, none⟩), .string k, .int .i64 n]) Try.func32 rfl Try.ntmps32 rfl ?_
  repeat (first | ((with_reducible refine WL.topT ?_ ?_); omega) | ((with_reducible refine WL.topF ?_ ?_); omega) | ((with_reducible refine WL.top64 ?_ ?_); omega) | refine WC.seq ?_ | refine WC.block ?_ | refine WC.region ?_ | refine WL.nil ?_ | refine WC.skip ?_ | refine WC.exit ?_ | refine WC.ret ?_ | refine WQ.then rfl ?_ | refine WQ.thenExit ?_ | refine WQ.thenRet ?_ | refine WQ.blk ?_ | refine WQ.blkRet ?_ | refine WQ.blkHere rfl ?_ | refine WQ.blkOther rfl ?_ | refine WL.pure rfl rfl rfl rfl ?_ | refine WL.on rfl rfl ?_ | refine WL.off rfl rfl rfl ?_ | refine WC.condTrue rfl ?_ | refine WC.condFalse rfl ?_)
  refine WL.call rfl rfl rfl rfl rfl Try.func40 rfl (by kernel_rfl) (spot_any h hs hl k) ?_
  rintro _ w1 ⟨rfl, s1⟩
  refine ⟨_, rfl, ?_⟩
  obtain ⟨vk, vn, rs⟩ := (h.same s1).rs
  have rk1 : RK B w w1 := RK.same s1
  have hB1 : B ≤ w1.heap.size := by rw [s1.heap]; exact hBw
  clear h s1
  cases hsp : spotB k L with
  | true =>
    have hpl := spot_lt hsp
    have hins := ins_set (n := n) hs hsp
    have hkey := spot_key hsp
    generalize plc k (L.map Prod.fst) = p at hpl hins hkey
    obtain ⟨g, cap, rfl⟩ := own_form rs.hn (by omega)
    have cm := rs.hn.at p (by rw [List.length_map]; exact hpl)
    rw [mapn_getD L hpl] at cm
    have c1 : w1.cell? ⟨rb, 1, none⟩ = some (.slice (some ⟨g, 0, none⟩) L.length cap) := rs.hv.cell 1 (by simp)
    repeat (first | ((with_reducible refine WL.topT ?_ ?_); omega) | ((with_reducible refine WL.topF ?_ ?_); omega) | ((with_reducible refine WL.top64 ?_ ?_); omega) | refine WC.seq ?_ | refine WC.block ?_ | refine WC.region ?_ | refine WL.nil ?_ | refine WC.skip ?_ | refine WC.exit ?_ | refine WC.ret ?_ | refine WQ.then rfl ?_ | refine WQ.thenExit ?_ | refine WQ.thenRet ?_ | refine WQ.blk ?_ | refine WQ.blkRet ?_ | refine WQ.blkHere rfl ?_ | refine WQ.blkOther rfl ?_ | refine WL.pure rfl rfl rfl rfl ?_ | refine WL.on rfl rfl ?_ | refine WL.off rfl rfl rfl ?_ | refine WC.condTrue rfl ?_ | refine WC.condFalse rfl ?_)
    refine WL.load rfl rfl rfl rfl rfl rfl c1 ?_
    repeat (first | ((with_reducible refine WL.topT ?_ ?_); omega) | ((with_reducible refine WL.topF ?_ ?_); omega) | ((with_reducible refine WL.top64 ?_ ?_); omega) | refine WC.seq ?_ | refine WC.block ?_ | refine WC.region ?_ | refine WL.nil ?_ | refine WC.skip ?_ | refine WC.exit ?_ | refine WC.ret ?_ | refine WQ.then rfl ?_ | refine WQ.thenExit ?_ | refine WQ.thenRet ?_ | refine WQ.blk ?_ | refine WQ.blkRet ?_ | refine WQ.blkHere rfl ?_ | refine WQ.blkOther rfl ?_ | refine WL.pure rfl rfl rfl rfl ?_ | refine WL.on rfl rfl ?_ | refine WL.off rfl rfl rfl ?_ | refine WC.condTrue rfl ?_ | refine WC.condFalse rfl ?_)
    refine WL.idx p p rfl rfl rfl rfl rfl rfl rfl rfl hpl (by omega) ?_
    refine WL.load rfl rfl rfl rfl rfl rfl cm ?_
    repeat (first | ((with_reducible refine WL.topT ?_ ?_); omega) | ((with_reducible refine WL.topF ?_ ?_); omega) | ((with_reducible refine WL.top64 ?_ ?_); omega) | refine WC.seq ?_ | refine WC.block ?_ | refine WC.region ?_ | refine WL.nil ?_ | refine WC.skip ?_ | refine WC.exit ?_ | refine WC.ret ?_ | refine WQ.then rfl ?_ | refine WQ.thenExit ?_ | refine WQ.thenRet ?_ | refine WQ.blk ?_ | refine WQ.blkRet ?_ | refine WQ.blkHere rfl ?_ | refine WQ.blkOther rfl ?_ | refine WL.pure rfl rfl rfl rfl ?_ | refine WL.on rfl rfl ?_ | refine WL.off rfl rfl rfl ?_ | refine WC.condTrue rfl ?_ | refine WC.condFalse rfl ?_)
    refine WL.load rfl rfl rfl rfl rfl rfl c1 ?_
    repeat (first | ((with_reducible refine WL.topT ?_ ?_); omega) | ((with_reducible refine WL.topF ?_ ?_); omega) | ((with_reducible refine WL.top64 ?_ ?_); omega) | refine WC.seq ?_ | refine WC.block ?_ | refine WC.region ?_ | refine WL.nil ?_ | refine WC.skip ?_ | refine WC.exit ?_ | refine WC.ret ?_ | refine WQ.then rfl ?_ | refine WQ.thenExit ?_ | refine WQ.thenRet ?_ | refine WQ.blk ?_ | refine WQ.blkRet ?_ | refine WQ.blkHere rfl ?_ | refine WQ.blkOther rfl ?_ | refine WL.pure rfl rfl rfl rfl ?_ | refine WL.on rfl rfl ?_ | refine WL.off rfl rfl rfl ?_ | refine WC.condTrue rfl ?_ | refine WC.condFalse rfl ?_)
    refine WL.idx p p rfl rfl rfl rfl rfl rfl rfl rfl hpl (by omega) ?_
    refine WL.store rfl rfl rfl rfl rfl rfl (by kernel_rfl) cm (rs.hn.free p) ?_
    obtain ⟨rs2, rk2⟩ := rs.setN (g := g) rfl ((Keep.refl (fun b => b ≠ g) w1).setCell (p := ⟨g, p, none⟩) (by simp) (.int .i64 n)) (rs.hn.stored p rfl)
    generalize w1.setCell ⟨g, p, none⟩ (.int .i64 n) = w2 at rs2 rk2 ⊢
    repeat (first | ((with_reducible refine WL.topT ?_ ?_); omega) | ((with_reducible refine WL.topF ?_ ?_); omega) | ((with_reducible refine WL.top64 ?_ ?_); omega) | refine WC.seq ?_ | refine WC.block ?_ | refine WC.region ?_ | refine WL.nil ?_ | refine WC.skip ?_ | refine WC.exit ?_ | refine WC.ret ?_ | refine WQ.then rfl ?_ | refine WQ.thenExit ?_ | refine WQ.thenRet ?_ | refine WQ.blk ?_ | refine WQ.blkRet ?_ | refine WQ.blkHere rfl ?_ | refine WQ.blkOther rfl ?_ | refine WL.pure rfl rfl rfl rfl ?_ | refine WL.on rfl rfl ?_ | refine WL.off rfl rfl rfl ?_ | refine WC.condTrue rfl ?_ | refine WC.condFalse rfl ?_)
    refine WQ.ret2 rfl rfl rfl ⟨rfl, rs2.rt (by rw [hins, List.length_set]) (by rw [hins, List.length_set]) ?_ ?_, rk1.trans rk2⟩
    · rw [hins, List.map_set]
      refine (List.ext_getElem? fun j => ?_).symm
      rw [List.getElem?_set]
      split
      · rename_i e
        subst e
        have : (L.map kV)[p]? = some (.string k) := by
          have h1 : L[p]? = some (L.getD p zKV) := by rw [List.getD_eq_getElem?_getD, List.getElem?_eq_getElem hpl]; rfl
          rw [List.getElem?_map, h1]
          show some (Value.string (L.getD p zKV).1) = _
          rw [hkey]
        rw [this, if_pos (by rw [List.length_map]; exact hpl)]
        rfl
      · rfl
    · rw [hins, List.map_set]; rfl
  | false =>
    have hpl := plc_le k (L.map Prod.fst)
    rw [List.length_map] at hpl
    have hins := ins_at (k := k) (n := n) hs
    rw [if_neg (of_decide_eq_false hsp)] at hins
    generalize plc k (L.map Prod.fst) = p at hpl hins
    have hmk : (insL k n L).map kV = (L.map kV).take p ++ .string k :: (L.map kV).drop p := by rw [hins, List.map_append, List.map_cons, List.map_take, List.map_drop]; rfl
    have hmn : (insL k n L).map nV = (L.map nV).take p ++ .int .i64 n :: (L.map nV).drop p := by rw [hins, List.map_append, List.map_cons, List.map_take, List.map_drop]; rfl
    have hln : L.length + 1 = (insL k n L).length := by rw [hins, List.length_append, List.length_cons, List.length_take, List.length_drop]; omega
    obtain ⟨spk, cpk, rfl, -, -⟩ := rs.hk.slice
    obtain ⟨spn, cpn, rfl, -, -⟩ := rs.hn.slice
    repeat (first | ((with_reducible refine WL.topT ?_ ?_); omega) | ((with_reducible refine WL.topF ?_ ?_); omega) | ((with_reducible refine WL.top64 ?_ ?_); omega) | refine WC.seq ?_ | refine WC.block ?_ | refine WC.region ?_ | refine WL.nil ?_ | refine WC.skip ?_ | refine WC.exit ?_ | refine WC.ret ?_ | refine WQ.then rfl ?_ | refine WQ.thenExit ?_ | refine WQ.thenRet ?_ | refine WQ.blk ?_ | refine WQ.blkRet ?_ | refine WQ.blkHere rfl ?_ | refine WQ.blkOther rfl ?_ | refine WL.pure rfl rfl rfl rfl ?_ | refine WL.on rfl rfl ?_ | refine WL.off rfl rfl rfl ?_ | refine WC.condTrue rfl ?_ | refine WC.condFalse rfl ?_)
    refine WL.load rfl rfl rfl rfl rfl rfl (rs.hv.cell 0 (by simp)) ?_
    refine WL.lit1 (cs := [.string ⟨#[]⟩]) rfl rfl rfl rfl rfl rfl rfl rfl (by decide) (by kernel_rfl) fun g1 w2 f2 => ?_
    have rs2 := rs.below f2.below
    have rk2 := rk1.trans (RK.of_below f2.below)
    have hB2 : B ≤ w2.heap.size := by have := f2.below.size; omega
    refine WL.appV rfl rfl rfl rfl elemK rfl rs2.hk rfl (SlV.fresh1 f2 (by intro v hv; simp at hv; subst hv; rfl)) (by omega) (by omega) fun v3 w3 o3 gr3 => ?_
    obtain ⟨gk, ck, rfl⟩ := own_form o3 (by omega)
    have hv3 : VBlk refT w3 rb _ := rs2.hv.keep gr3.1 ⟨rs2.hv.lt, fun e => rs2.kr e rfl⟩
    obtain ⟨rs4, rk4⟩ := rs2.appK o3 gr3 hB2
    have rk5 := rk2.trans rk4
    repeat (first | ((with_reducible refine WL.topT ?_ ?_); omega) | ((with_reducible refine WL.topF ?_ ?_); omega) | ((with_reducible refine WL.top64 ?_ ?_); omega) | refine WC.seq ?_ | refine WC.block ?_ | refine WC.region ?_ | refine WL.nil ?_ | refine WC.skip ?_ | refine WC.exit ?_ | refine WC.ret ?_ | refine WQ.then rfl ?_ | refine WQ.thenExit ?_ | refine WQ.thenRet ?_ | refine WQ.blk ?_ | refine WQ.blkRet ?_ | refine WQ.blkHere rfl ?_ | refine WQ.blkOther rfl ?_ | refine WL.pure rfl rfl rfl rfl ?_ | refine WL.on rfl rfl ?_ | refine WL.off rfl rfl rfl ?_ | refine WC.condTrue rfl ?_ | refine WC.condFalse rfl ?_)
    refine WL.store rfl rfl rfl rfl rfl rfl (by kernel_rfl) (hv3.cell 0 (by simp)) (hv3.free 0) ?_
    have hB4 : B ≤ (w3.setCell ⟨rb, 0, none⟩ (.slice (some ⟨gk, 0, none⟩) (L.length + 1) ck)).heap.size := by have := rk5.size; omega
    generalize w3.setCell ⟨rb, 0, none⟩ (.slice (some ⟨gk, 0, none⟩) (L.length + 1) ck) = w4 at rs4 rk5 hB4 ⊢
    clear rs rs2 rk1 rk2 rk4 hv3 o3 gr3 f2 hB1 hB2
    repeat (first | ((with_reducible refine WL.topT ?_ ?_); omega) | ((with_reducible refine WL.topF ?_ ?_); omega) | ((with_reducible refine WL.top64 ?_ ?_); omega) | refine WC.seq ?_ | refine WC.block ?_ | refine WC.region ?_ | refine WL.nil ?_ | refine WC.skip ?_ | refine WC.exit ?_ | refine WC.ret ?_ | refine WQ.then rfl ?_ | refine WQ.thenExit ?_ | refine WQ.thenRet ?_ | refine WQ.blk ?_ | refine WQ.blkRet ?_ | refine WQ.blkHere rfl ?_ | refine WQ.blkOther rfl ?_ | refine WL.pure rfl rfl rfl rfl ?_ | refine WL.on rfl rfl ?_ | refine WL.off rfl rfl rfl ?_ | refine WC.condTrue rfl ?_ | refine WC.condFalse rfl ?_)
    refine WL.load rfl rfl rfl rfl rfl rfl (rs4.hv.cell 1 (by simp)) ?_
    refine WL.lit1 (cs := [.int .i64 0]) rfl rfl rfl rfl rfl rfl rfl rfl (by decide) (by kernel_rfl) fun g2 w5 f5 => ?_
    have rs5 := rs4.below f5.below
    have rk6 := rk5.trans (RK.of_below f5.below)
    have hB5 : B ≤ w5.heap.size := by have := f5.below.size; omega
    refine WL.appV rfl rfl rfl rfl elemN rfl rs5.hn rfl (SlV.fresh1 f5 (by intro v hv; simp at hv; subst hv; rfl)) (by omega) (by omega) fun v6 w6 o6 gr6 => ?_
    obtain ⟨gn, cn, rfl⟩ := own_form o6 (by omega)
    have hv6 : VBlk refT w6 rb _ := rs5.hv.keep gr6.1 ⟨rs5.hv.lt, fun e => rs5.nr e rfl⟩
    obtain ⟨rs7, rk7⟩ := rs5.appN o6 gr6 hB5
    have rk8 := rk6.trans rk7
    repeat (first | ((with_reducible refine WL.topT ?_ ?_); omega) | ((with_reducible refine WL.topF ?_ ?_); omega) | ((with_reducible refine WL.top64 ?_ ?_); omega) | refine WC.seq ?_ | refine WC.block ?_ | refine WC.region ?_ | refine WL.nil ?_ | refine WC.skip ?_ | refine WC.exit ?_ | refine WC.ret ?_ | refine WQ.then rfl ?_ | refine WQ.thenExit ?_ | refine WQ.thenRet ?_ | refine WQ.blk ?_ | refine WQ.blkRet ?_ | refine WQ.blkHere rfl ?_ | refine WQ.blkOther rfl ?_ | refine WL.pure rfl rfl rfl rfl ?_ | refine WL.on rfl rfl ?_ | refine WL.off rfl rfl rfl ?_ | refine WC.condTrue rfl ?_ | refine WC.condFalse rfl ?_)
    refine WL.store rfl rfl rfl rfl rfl rfl (by kernel_rfl) (hv6.cell 1 (by simp)) (hv6.free 1) ?_
    generalize w6.setCell ⟨rb, 1, none⟩ (.slice (some ⟨gn, 0, none⟩) (L.length + 1) cn) = w7 at rs7 rk8 ⊢
    clear rs4 rs5 rk5 rk6 rk7 hv6 o6 gr6 f5 hB4 hB5
    have hlk : (L.map kV).length = L.length := List.length_map _
    have hlnn : (L.map nV).length = L.length := List.length_map _
    repeat (first | ((with_reducible refine WL.topT ?_ ?_); omega) | ((with_reducible refine WL.topF ?_ ?_); omega) | ((with_reducible refine WL.top64 ?_ ?_); omega) | refine WC.seq ?_ | refine WC.region ?_ | refine WL.nil ?_ | refine WC.skip ?_ | refine WC.exit ?_ | refine WC.ret ?_ | refine WQ.then rfl ?_ | refine WQ.thenExit ?_ | refine WQ.thenRet ?_ | refine WQ.blk ?_ | refine WQ.blkRet ?_ | refine WQ.blkHere rfl ?_ | refine WQ.blkOther rfl ?_ | refine WL.pure rfl rfl rfl rfl ?_ | refine WL.on rfl rfl ?_ | refine WL.off rfl rfl rfl ?_ | refine WL.load rfl rfl rfl rfl rfl rfl (by assumption) ?_ | refine WC.condTrue rfl ?_ | refine WC.condFalse rfl ?_)
    refine WC.drawn 13 (fun wx => wx.heap = w7.heap) fun w8 hd => ?_
    have hS : w8.heap = w7.heap := hd.heap
    have c7 : w7.cell? ⟨rb, 0, none⟩ = some (.slice (some ⟨gk, 0, none⟩) (L.length + 1) ck) := rs7.hv.cell 0 (by simp)
    have rs8 := rs7.same hd.same
    have rk9 := rk8.trans (RK.same hd.same)
    (((first | refine WD.free 0 rfl (by kernel_rfl) rfl rfl (fun _ _ _ _ _ h => h) rfl rfl (.inr hS) ?_ | refine WD.skip 0 rfl (by kernel_rfl) rfl rfl (fun _ _ _ _ _ h => h) rfl (.inr hS) ?_); try (first | ((with_reducible refine WD.topT ?_ ?_); omega) | ((with_reducible refine WD.topF ?_ ?_); omega) | ((with_reducible refine WD.top64 ?_ ?_); omega))); ((first | refine WD.free 1 rfl (by kernel_rfl) rfl rfl (fun _ _ _ _ _ h => h) rfl rfl (.inr hS) ?_ | refine WD.skip 1 rfl (by kernel_rfl) rfl rfl (fun _ _ _ _ _ h => h) rfl (.inr hS) ?_); try (first | ((with_reducible refine WD.topT ?_ ?_); omega) | ((with_reducible refine WD.topF ?_ ?_); omega) | ((with_reducible refine WD.top64 ?_ ?_); omega))); ((first | refine WD.free 2 rfl (by kernel_rfl) rfl rfl (fun _ _ _ _ _ h => h) rfl rfl (.inr hS) ?_ | refine WD.skip 2 rfl (by kernel_rfl) rfl rfl (fun _ _ _ _ _ h => h) rfl (.inr hS) ?_); try (first | ((with_reducible refine WD.topT ?_ ?_); omega) | ((with_reducible refine WD.topF ?_ ?_); omega) | ((with_reducible refine WD.top64 ?_ ?_); omega))))
    refine WD.load 3 [6, 13] rfl (by kernel_rfl) rfl rfl (fun _ _ _ _ _ h => h) rfl rfl rfl rfl (fun wx hx => (heap_cell hx _).trans c7) hS ?_
    (((first | refine WD.free 4 rfl (by kernel_rfl) rfl rfl (fun _ _ _ _ _ h => h) rfl rfl (.inr hS) ?_ | refine WD.skip 4 rfl (by kernel_rfl) rfl rfl (fun _ _ _ _ _ h => h) rfl (.inr hS) ?_); try (first | ((with_reducible refine WD.topT ?_ ?_); omega) | ((with_reducible refine WD.topF ?_ ?_); omega) | ((with_reducible refine WD.top64 ?_ ?_); omega))); ((first | refine WD.free 5 rfl (by kernel_rfl) rfl rfl (fun _ _ _ _ _ h => h) rfl rfl (.inr hS) ?_ | refine WD.skip 5 rfl (by kernel_rfl) rfl rfl (fun _ _ _ _ _ h => h) rfl (.inr hS) ?_); try (first | ((with_reducible refine WD.topT ?_ ?_); omega) | ((with_reducible refine WD.topF ?_ ?_); omega) | ((with_reducible refine WD.top64 ?_ ?_); omega))))
    refine WD.fromS 6 (p + 1) rfl (by kernel_rfl) rfl rfl (fun _ _ _ _ _ h => h) rfl rfl rfl rfl rfl (by omega) (by omega) (.inr hS) ?_
    (((first | refine WD.free 7 rfl (by kernel_rfl) rfl rfl (fun _ _ _ _ _ h => h) rfl rfl (.inr hS) ?_ | refine WD.skip 7 rfl (by kernel_rfl) rfl rfl (fun _ _ _ _ _ h => h) rfl (.inr hS) ?_); try (first | ((with_reducible refine WD.topT ?_ ?_); omega) | ((with_reducible refine WD.topF ?_ ?_); omega) | ((with_reducible refine WD.top64 ?_ ?_); omega))); ((first | refine WD.free 8 rfl (by kernel_rfl) rfl rfl (fun _ _ _ _ _ h => h) rfl rfl (.inr hS) ?_ | refine WD.skip 8 rfl (by kernel_rfl) rfl rfl (fun _ _ _ _ _ h => h) rfl (.inr hS) ?_); try (first | ((with_reducible refine WD.topT ?_ ?_); omega) | ((with_reducible refine WD.topF ?_ ?_); omega) | ((with_reducible refine WD.top64 ?_ ?_); omega))); ((first | refine WD.free 9 rfl (by kernel_rfl) rfl rfl (fun _ _ _ _ _ h => h) rfl rfl (.inr hS) ?_ | refine WD.skip 9 rfl (by kernel_rfl) rfl rfl (fun _ _ _ _ _ h => h) rfl (.inr hS) ?_); try (first | ((with_reducible refine WD.topT ?_ ?_); omega) | ((with_reducible refine WD.topF ?_ ?_); omega) | ((with_reducible refine WD.top64 ?_ ?_); omega))))
    refine WD.load 10 [12, 13] rfl (by kernel_rfl) rfl rfl (fun _ _ _ _ _ h => h) rfl rfl rfl rfl (fun wx hx => (heap_cell hx _).trans c7) hS ?_
    (((first | refine WD.free 11 rfl (by kernel_rfl) rfl rfl (fun _ _ _ _ _ h => h) rfl rfl (.inr hS) ?_ | refine WD.skip 11 rfl (by kernel_rfl) rfl rfl (fun _ _ _ _ _ h => h) rfl (.inr hS) ?_); try (first | ((with_reducible refine WD.topT ?_ ?_); omega) | ((with_reducible refine WD.topF ?_ ?_); omega) | ((with_reducible refine WD.top64 ?_ ?_); omega))))
    refine WD.fromS 12 p rfl (by kernel_rfl) rfl rfl (fun _ _ _ _ _ h => h) rfl rfl rfl rfl rfl rfl (by omega) (.inr hS) ?_
    refine WD.one 13 (by kernel_rfl) rfl ?_
    obtain ⟨curk, hck⟩ := rs8.hk.tag rfl
    obtain ⟨u1, u2, u3, u4, u5⟩ := OwnV.up rs8.hk hck hpl _ rfl
    refine WL.copyV (vs := _) rfl rfl rfl rfl rfl rfl rfl (vblk_of hck) u2 u5 u3 u4 ?_
    obtain ⟨rs9, rk10⟩ := rs8.setK (g := gk) rfl (keepRow (Keep.refl (fun b => b ≠ gk) w8) (by simp) _) u1
    have rk11 := rk9.trans rk10
    generalize w8.setRow gk _ = w9 at rs9 rk11 ⊢
    clear rs7 rs8 rk8 rk9 rk10 u1 u2 u3 u4 u5 hck hS hd c7
    refine WL.nil (WQ.dk (.inl rfl) ?_)
    refine WD.done (by kernel_rfl) ?_
    repeat (first | ((with_reducible refine WL.topT ?_ ?_); omega) | ((with_reducible refine WL.topF ?_ ?_); omega) | ((with_reducible refine WL.top64 ?_ ?_); omega) | refine WC.seq ?_ | refine WC.region ?_ | refine WL.nil ?_ | refine WC.skip ?_ | refine WC.exit ?_ | refine WC.ret ?_ | refine WQ.then rfl ?_ | refine WQ.thenExit ?_ | refine WQ.thenRet ?_ | refine WQ.blk ?_ | refine WQ.blkRet ?_ | refine WQ.blkHere rfl ?_ | refine WQ.blkOther rfl ?_ | refine WL.pure rfl rfl rfl rfl ?_ | refine WL.on rfl rfl ?_ | refine WL.off rfl rfl rfl ?_ | refine WL.load rfl rfl rfl rfl rfl rfl (by assumption) ?_ | refine WC.condTrue rfl ?_ | refine WC.condFalse rfl ?_)
    refine WC.drawn 13 (fun wx => wx.heap = w9.heap) fun w10 hd => ?_
    have hS : w10.heap = w9.heap := hd.heap
    have c9 : w9.cell? ⟨rb, 1, none⟩ = some (.slice (some ⟨gn, 0, none⟩) (L.length + 1) cn) := rs9.hv.cell 1 (by simp)
    have rs10 := rs9.same hd.same
    have rk12 := rk11.trans (RK.same hd.same)
    (((first | refine WD.free 0 rfl (by kernel_rfl) rfl rfl (fun _ _ _ _ _ h => h) rfl rfl (.inr hS) ?_ | refine WD.skip 0 rfl (by kernel_rfl) rfl rfl (fun _ _ _ _ _ h => h) rfl (.inr hS) ?_); try (first | ((with_reducible refine WD.topT ?_ ?_); omega) | ((with_reducible refine WD.topF ?_ ?_); omega) | ((with_reducible refine WD.top64 ?_ ?_); omega))); ((first | refine WD.free 1 rfl (by kernel_rfl) rfl rfl (fun _ _ _ _ _ h => h) rfl rfl (.inr hS) ?_ | refine WD.skip 1 rfl (by kernel_rfl) rfl rfl (fun _ _ _ _ _ h => h) rfl (.inr hS) ?_); try (first | ((with_reducible refine WD.topT ?_ ?_); omega) | ((with_reducible refine WD.topF ?_ ?_); omega) | ((with_reducible refine WD.top64 ?_ ?_); omega))); ((first | refine WD.free 2 rfl (by kernel_rfl) rfl rfl (fun _ _ _ _ _ h => h) rfl rfl (.inr hS) ?_ | refine WD.skip 2 rfl (by kernel_rfl) rfl rfl (fun _ _ _ _ _ h => h) rfl (.inr hS) ?_); try (first | ((with_reducible refine WD.topT ?_ ?_); omega) | ((with_reducible refine WD.topF ?_ ?_); omega) | ((with_reducible refine WD.top64 ?_ ?_); omega))))
    refine WD.load 3 [6, 13] rfl (by kernel_rfl) rfl rfl (fun _ _ _ _ _ h => h) rfl rfl rfl rfl (fun wx hx => (heap_cell hx _).trans c9) hS ?_
    (((first | refine WD.free 4 rfl (by kernel_rfl) rfl rfl (fun _ _ _ _ _ h => h) rfl rfl (.inr hS) ?_ | refine WD.skip 4 rfl (by kernel_rfl) rfl rfl (fun _ _ _ _ _ h => h) rfl (.inr hS) ?_); try (first | ((with_reducible refine WD.topT ?_ ?_); omega) | ((with_reducible refine WD.topF ?_ ?_); omega) | ((with_reducible refine WD.top64 ?_ ?_); omega))); ((first | refine WD.free 5 rfl (by kernel_rfl) rfl rfl (fun _ _ _ _ _ h => h) rfl rfl (.inr hS) ?_ | refine WD.skip 5 rfl (by kernel_rfl) rfl rfl (fun _ _ _ _ _ h => h) rfl (.inr hS) ?_); try (first | ((with_reducible refine WD.topT ?_ ?_); omega) | ((with_reducible refine WD.topF ?_ ?_); omega) | ((with_reducible refine WD.top64 ?_ ?_); omega))))
    refine WD.fromS 6 (p + 1) rfl (by kernel_rfl) rfl rfl (fun _ _ _ _ _ h => h) rfl rfl rfl rfl rfl (by omega) (by omega) (.inr hS) ?_
    (((first | refine WD.free 7 rfl (by kernel_rfl) rfl rfl (fun _ _ _ _ _ h => h) rfl rfl (.inr hS) ?_ | refine WD.skip 7 rfl (by kernel_rfl) rfl rfl (fun _ _ _ _ _ h => h) rfl (.inr hS) ?_); try (first | ((with_reducible refine WD.topT ?_ ?_); omega) | ((with_reducible refine WD.topF ?_ ?_); omega) | ((with_reducible refine WD.top64 ?_ ?_); omega))); ((first | refine WD.free 8 rfl (by kernel_rfl) rfl rfl (fun _ _ _ _ _ h => h) rfl rfl (.inr hS) ?_ | refine WD.skip 8 rfl (by kernel_rfl) rfl rfl (fun _ _ _ _ _ h => h) rfl (.inr hS) ?_); try (first | ((with_reducible refine WD.topT ?_ ?_); omega) | ((with_reducible refine WD.topF ?_ ?_); omega) | ((with_reducible refine WD.top64 ?_ ?_); omega))); ((first | refine WD.free 9 rfl (by kernel_rfl) rfl rfl (fun _ _ _ _ _ h => h) rfl rfl (.inr hS) ?_ | refine WD.skip 9 rfl (by kernel_rfl) rfl rfl (fun _ _ _ _ _ h => h) rfl (.inr hS) ?_); try (first | ((with_reducible refine WD.topT ?_ ?_); omega) | ((with_reducible refine WD.topF ?_ ?_); omega) | ((with_reducible refine WD.top64 ?_ ?_); omega))))
    refine WD.load 10 [12, 13] rfl (by kernel_rfl) rfl rfl (fun _ _ _ _ _ h => h) rfl rfl rfl rfl (fun wx hx => (heap_cell hx _).trans c9) hS ?_
    (((first | refine WD.free 11 rfl (by kernel_rfl) rfl rfl (fun _ _ _ _ _ h => h) rfl rfl (.inr hS) ?_ | refine WD.skip 11 rfl (by kernel_rfl) rfl rfl (fun _ _ _ _ _ h => h) rfl (.inr hS) ?_); try (first | ((with_reducible refine WD.topT ?_ ?_); omega) | ((with_reducible refine WD.topF ?_ ?_); omega) | ((with_reducible refine WD.top64 ?_ ?_); omega))))
    refine WD.fromS 12 p rfl (by kernel_rfl) rfl rfl (fun _ _ _ _ _ h => h) rfl rfl rfl rfl rfl rfl (by omega) (.inr hS) ?_
    refine WD.one 13 (by kernel_rfl) rfl ?_
    obtain ⟨curn, hcn⟩ := rs10.hn.tag rfl
    obtain ⟨u1, u2, u3, u4, u5⟩ := OwnV.up rs10.hn hcn hpl _ rfl
    refine WL.copyV (vs := _) rfl rfl rfl rfl rfl rfl rfl (vblk_of hcn) u2 u5 u3 u4 ?_
    obtain ⟨rs11, rk13⟩ := rs10.setN (g := gn) rfl (keepRow (Keep.refl (fun b => b ≠ gn) w10) (by simp) _) u1
    have rk14 := rk12.trans rk13
    generalize w10.setRow gn _ = w11 at rs11 rk14 ⊢
    clear rs9 rs10 rk11 rk12 rk13 u1 u2 u3 u4 u5 hcn hS hd c9
    refine WL.nil (WQ.dk (.inl rfl) ?_)
    refine WD.done (by kernel_rfl) ?_
    repeat (first | ((with_reducible refine WL.topT ?_ ?_); omega) | ((with_reducible refine WL.topF ?_ ?_); omega) | ((with_reducible refine WL.top64 ?_ ?_); omega) | refine WC.seq ?_ | refine WC.block ?_ | refine WC.region ?_ | refine WL.nil ?_ | refine WC.skip ?_ | refine WC.exit ?_ | refine WC.ret ?_ | refine WQ.then rfl ?_ | refine WQ.thenExit ?_ | refine WQ.thenRet ?_ | refine WQ.blk ?_ | refine WQ.blkRet ?_ | refine WQ.blkHere rfl ?_ | refine WQ.blkOther rfl ?_ | refine WL.pure rfl rfl rfl rfl ?_ | refine WL.on rfl rfl ?_ | refine WL.off rfl rfl rfl ?_ | refine WC.condTrue rfl ?_ | refine WC.condFalse rfl ?_)
    refine WL.load rfl rfl rfl rfl rfl rfl (rs11.hv.cell 0 (by simp)) ?_
    repeat (first | ((with_reducible refine WL.topT ?_ ?_); omega) | ((with_reducible refine WL.topF ?_ ?_); omega) | ((with_reducible refine WL.top64 ?_ ?_); omega) | refine WC.seq ?_ | refine WC.block ?_ | refine WC.region ?_ | refine WL.nil ?_ | refine WC.skip ?_ | refine WC.exit ?_ | refine WC.ret ?_ | refine WQ.then rfl ?_ | refine WQ.thenExit ?_ | refine WQ.thenRet ?_ | refine WQ.blk ?_ | refine WQ.blkRet ?_ | refine WQ.blkHere rfl ?_ | refine WQ.blkOther rfl ?_ | refine WL.pure rfl rfl rfl rfl ?_ | refine WL.on rfl rfl ?_ | refine WL.off rfl rfl rfl ?_ | refine WC.condTrue rfl ?_ | refine WC.condFalse rfl ?_)
    refine WL.idx p p rfl rfl rfl rfl rfl rfl rfl rfl (by omega) (by omega) ?_
    refine WL.store rfl rfl rfl rfl rfl rfl (by kernel_rfl) (rs11.hk.at p (by rw [rs11.hk.len]; omega)) (rs11.hk.free p) ?_
    obtain ⟨rs12, rk15⟩ := rs11.setK (g := gk) rfl ((Keep.refl (fun b => b ≠ gk) w11).setCell (p := ⟨gk, p, none⟩) (by simp) (.string k)) (rs11.hk.stored p rfl)
    have rk16 := rk14.trans rk15
    generalize w11.setCell ⟨gk, p, none⟩ (.string k) = w12 at rs12 rk16 ⊢
    clear rs11 rk14 rk15
    repeat (first | ((with_reducible refine WL.topT ?_ ?_); omega) | ((with_reducible refine WL.topF ?_ ?_); omega) | ((with_reducible refine WL.top64 ?_ ?_); omega) | refine WC.seq ?_ | refine WC.block ?_ | refine WC.region ?_ | refine WL.nil ?_ | refine WC.skip ?_ | refine WC.exit ?_ | refine WC.ret ?_ | refine WQ.then rfl ?_ | refine WQ.thenExit ?_ | refine WQ.thenRet ?_ | refine WQ.blk ?_ | refine WQ.blkRet ?_ | refine WQ.blkHere rfl ?_ | refine WQ.blkOther rfl ?_ | refine WL.pure rfl rfl rfl rfl ?_ | refine WL.on rfl rfl ?_ | refine WL.off rfl rfl rfl ?_ | refine WC.condTrue rfl ?_ | refine WC.condFalse rfl ?_)
    refine WL.load rfl rfl rfl rfl rfl rfl (rs12.hv.cell 1 (by simp)) ?_
    repeat (first | ((with_reducible refine WL.topT ?_ ?_); omega) | ((with_reducible refine WL.topF ?_ ?_); omega) | ((with_reducible refine WL.top64 ?_ ?_); omega) | refine WC.seq ?_ | refine WC.block ?_ | refine WC.region ?_ | refine WL.nil ?_ | refine WC.skip ?_ | refine WC.exit ?_ | refine WC.ret ?_ | refine WQ.then rfl ?_ | refine WQ.thenExit ?_ | refine WQ.thenRet ?_ | refine WQ.blk ?_ | refine WQ.blkRet ?_ | refine WQ.blkHere rfl ?_ | refine WQ.blkOther rfl ?_ | refine WL.pure rfl rfl rfl rfl ?_ | refine WL.on rfl rfl ?_ | refine WL.off rfl rfl rfl ?_ | refine WC.condTrue rfl ?_ | refine WC.condFalse rfl ?_)
    refine WL.idx p p rfl rfl rfl rfl rfl rfl rfl rfl (by omega) (by omega) ?_
    refine WL.store rfl rfl rfl rfl rfl rfl (by kernel_rfl) (rs12.hn.at p (by rw [rs12.hn.len]; omega)) (rs12.hn.free p) ?_
    obtain ⟨rs13, rk17⟩ := rs12.setN (g := gn) rfl ((Keep.refl (fun b => b ≠ gn) w12).setCell (p := ⟨gn, p, none⟩) (by simp) (.int .i64 n)) (rs12.hn.stored p rfl)
    have rk18 := rk16.trans rk17
    generalize w12.setCell ⟨gn, p, none⟩ (.int .i64 n) = w13 at rs13 rk18 ⊢
    clear rs12 rk16 rk17
    repeat (first | ((with_reducible refine WL.topT ?_ ?_); omega) | ((with_reducible refine WL.topF ?_ ?_); omega) | ((with_reducible refine WL.top64 ?_ ?_); omega) | refine WC.seq ?_ | refine WC.block ?_ | refine WC.region ?_ | refine WL.nil ?_ | refine WC.skip ?_ | refine WC.exit ?_ | refine WC.ret ?_ | refine WQ.then rfl ?_ | refine WQ.thenExit ?_ | refine WQ.thenRet ?_ | refine WQ.blk ?_ | refine WQ.blkRet ?_ | refine WQ.blkHere rfl ?_ | refine WQ.blkOther rfl ?_ | refine WL.pure rfl rfl rfl rfl ?_ | refine WL.on rfl rfl ?_ | refine WL.off rfl rfl rfl ?_ | refine WC.condTrue rfl ?_ | refine WC.condFalse rfl ?_)
    refine WQ.ret2 rfl rfl rfl ⟨rfl, rs13.rt hln hln ?_ ?_, rk18⟩
    · rw [hmk]; exact up_set hlk hpl _ _
    · rw [hmn]; exact up_set hlnn hpl _ _
end K
end Go.Proofs.Ytilmfnlaenneeaa

/- The document's tree (scrivenerref13): Delete. -/
namespace Go.Proofs.Ytilmfnlaenneeaa
open Go.RowKit
namespace K
open Tre
theorem OwnV.firsts {e : TypeId} {w : World} {O : Nat → Prop} {g n cap : Nat} {l : List Value} (h : OwnV e 1 w O (.slice (some ⟨g, 0, none⟩) n cap) n l) {j : Nat} (hj : j ≤ n) : OwnV e 1 w O (.slice (some ⟨g, 0, none⟩) j cap) j (l.take j) := by
  obtain ⟨⟨hl, hx⟩, h1, h2⟩ := h
  rcases hx with ⟨he, -⟩ | ⟨g', cap', cur', he, hb, hg, hnc, hcm, hsz, htk⟩
  · cases he
  obtain ⟨rfl, rfl⟩ : g = g' ∧ cap = cap' := by
    injection he with a b c
    injection a with a
    injection a with a
    exact ⟨a, c⟩
  refine ⟨⟨by rw [List.length_take, hl]; omega, .inr ⟨g, cap, cur', rfl, hb, hg, by omega, hcm, hsz, ?_⟩⟩, fun x hx => h1 x (List.mem_of_mem_take hx), h2⟩
  rw [← htk, List.take_take]
  congr 1
  omega
theorem OwnV.rests {e : TypeId} {w : World} {O : Nat → Prop} {g n cap : Nat} {l : List Value} (h : OwnV e 1 w O (.slice (some ⟨g, 0, none⟩) n cap) n l) {j : Nat} (hj : j ≤ n) : SlV w (fun b => b = g) 1 (.slice (some ⟨g, cutOff cap j 0 1, none⟩) (n - j) (cap - j)) (n - j) (l.drop j) := by
  have hl := h.len
  obtain ⟨sp, cap', e1, h3, h4⟩ := h.slice
  obtain ⟨-, -, rfl⟩ : some (⟨g, 0, none⟩ : Addr) = sp ∧ n = n ∧ cap = cap' := by injection e1 with a b c; exact ⟨a, b, c⟩
  refine ⟨by rw [List.length_drop, hl]; omega, fun x hx => h.2.1 x (List.mem_of_mem_drop hx), _, _, rfl, by omega, by omega, (fun e => by cases e), fun hn => ⟨g, j, ?_, h.lt rfl, rfl, fun i hi => ?_⟩⟩
  · unfold cutOff; rw [if_neg (by omega)]; simp
  · rw [List.length_drop, hl] at hi
    rw [h.at (j + i) (by omega)]
    simp [List.getD_eq_getElem?_getD, List.getElem?_drop]
set_option maxRecDepth 20000 in
set_option maxHeartbeats 4000000 in
theorem rdel_any {B : Nat} {w : World} {rb : Nat} {L : List KV} (h : RT B w rb L) (hs : Srt L) (hl : L.length < 1000000000) (hBw : B ≤ w.heap.size) (k : Ky) : Calls Try.prog 34 #[.pointer (some ⟨rb, 0, none⟩), .string k] w fun e w' => e = .returned (.tuple #[.int .i64 ((getL k L).getD 0), .bool (getL k L).isSome]) ∧ RT B w' rb (delL k L) ∧ RK B w w' := by
  rw [spot_get hs]
  refine enter (args := [.pointer (some ⟨rb, 0, none⟩), .string k]) Try.func34 rfl Try.ntmps34 rfl ?_
  repeat (first | ((with_reducible refine WL.topT ?_ ?_); omega) | ((with_reducible refine WL.topF ?_ ?_); omega) | ((with_reducible refine WL.top64 ?_ ?_); omega) | refine WC.seq ?_ | refine WC.block ?_ | refine WC.region ?_ | refine WL.nil ?_ | refine WC.skip ?_ | refine WC.exit ?_ | refine WC.ret ?_ | refine WQ.then rfl ?_ | refine WQ.thenExit ?_ | refine WQ.thenRet ?_ | refine WQ.blk ?_ | refine WQ.blkRet ?_ | refine WQ.blkHere rfl ?_ | refine WQ.blkOther rfl ?_ | refine WL.pure rfl rfl rfl rfl ?_ | refine WL.on rfl rfl ?_ | refine WL.off rfl rfl rfl ?_ | refine WC.condTrue rfl ?_ | refine WC.condFalse rfl ?_)
  refine WL.call rfl rfl rfl rfl rfl Try.func40 rfl (by kernel_rfl) (spot_any h hs hl k) ?_
  rintro _ w1 ⟨rfl, s1⟩
  refine ⟨_, rfl, ?_⟩
  have hdel := del_at (k := k) hs
  have hrt := h.same s1
  have rk1 : RK B w w1 := RK.same s1
  have hB1 : B ≤ w1.heap.size := by rw [s1.heap]; exact hBw
  clear h s1
  cases hsp : spotB k L with
  | false =>
    rw [if_neg (of_decide_eq_false hsp)] at hdel
    repeat (first | ((with_reducible refine WL.topT ?_ ?_); omega) | ((with_reducible refine WL.topF ?_ ?_); omega) | ((with_reducible refine WL.top64 ?_ ?_); omega) | refine WC.seq ?_ | refine WC.block ?_ | refine WC.region ?_ | refine WL.nil ?_ | refine WC.skip ?_ | refine WC.exit ?_ | refine WC.ret ?_ | refine WQ.then rfl ?_ | refine WQ.thenExit ?_ | refine WQ.thenRet ?_ | refine WQ.blk ?_ | refine WQ.blkRet ?_ | refine WQ.blkHere rfl ?_ | refine WQ.blkOther rfl ?_ | refine WL.pure rfl rfl rfl rfl ?_ | refine WL.on rfl rfl ?_ | refine WL.off rfl rfl rfl ?_ | refine WC.condTrue rfl ?_ | refine WC.condFalse rfl ?_)
    exact WQ.ret2 rfl rfl rfl ⟨rfl, by rw [hdel]; exact hrt, rk1⟩
  | true =>
    have hpl := spot_lt hsp
    rw [if_pos (of_decide_eq_true hsp)] at hdel
    obtain ⟨vk, vn, rs⟩ := hrt.rs
    generalize plc k (L.map Prod.fst) = p at hpl hdel
    have hln : p + (L.length - (p + 1)) = (delL k L).length := by rw [hdel, List.length_append, List.length_take, List.length_drop]; omega
    have hmk : (delL k L).map kV = (L.map kV).take p ++ (L.map kV).drop (p + 1) := by rw [hdel, List.map_append, List.map_take, List.map_drop]
    have hmn : (delL k L).map nV = (L.map nV).take p ++ (L.map nV).drop (p + 1) := by rw [hdel, List.map_append, List.map_take, List.map_drop]
    obtain ⟨gn, cn, rfl⟩ := own_form rs.hn (by omega)
    obtain ⟨gk, ck, rfl⟩ := own_form rs.hk (by omega)
    have hck := rs.hk.slice
    have hcn := rs.hn.slice
    have hpk : p ≤ ck := by obtain ⟨_, _, e, h1, -⟩ := hck; injection e with _ _ e; omega
    have hpn : p ≤ cn := by obtain ⟨_, _, e, h1, -⟩ := hcn; injection e with _ _ e; omega
    clear hck hcn hrt
    have cm := rs.hn.at p (by rw [List.length_map]; exact hpl)
    rw [mapn_getD L hpl] at cm
    have c1 : w1.cell? ⟨rb, 1, none⟩ = some (.slice (some ⟨gn, 0, none⟩) L.length cn) := rs.hv.cell 1 (by simp)
    repeat (first | ((with_reducible refine WL.topT ?_ ?_); omega) | ((with_reducible refine WL.topF ?_ ?_); omega) | ((with_reducible refine WL.top64 ?_ ?_); omega) | refine WC.seq ?_ | refine WC.block ?_ | refine WC.region ?_ | refine WL.nil ?_ | refine WC.skip ?_ | refine WC.exit ?_ | refine WC.ret ?_ | refine WQ.then rfl ?_ | refine WQ.thenExit ?_ | refine WQ.thenRet ?_ | refine WQ.blk ?_ | refine WQ.blkRet ?_ | refine WQ.blkHere rfl ?_ | refine WQ.blkOther rfl ?_ | refine WL.pure rfl rfl rfl rfl ?_ | refine WL.on rfl rfl ?_ | refine WL.off rfl rfl rfl ?_ | refine WC.condTrue rfl ?_ | refine WC.condFalse rfl ?_)
    refine WL.load rfl rfl rfl rfl rfl rfl c1 ?_
    repeat (first | ((with_reducible refine WL.topT ?_ ?_); omega) | ((with_reducible refine WL.topF ?_ ?_); omega) | ((with_reducible refine WL.top64 ?_ ?_); omega) | refine WC.seq ?_ | refine WC.block ?_ | refine WC.region ?_ | refine WL.nil ?_ | refine WC.skip ?_ | refine WC.exit ?_ | refine WC.ret ?_ | refine WQ.then rfl ?_ | refine WQ.thenExit ?_ | refine WQ.thenRet ?_ | refine WQ.blk ?_ | refine WQ.blkRet ?_ | refine WQ.blkHere rfl ?_ | refine WQ.blkOther rfl ?_ | refine WL.pure rfl rfl rfl rfl ?_ | refine WL.on rfl rfl ?_ | refine WL.off rfl rfl rfl ?_ | refine WC.condTrue rfl ?_ | refine WC.condFalse rfl ?_)
    refine WL.idx p p rfl rfl rfl rfl rfl rfl rfl rfl hpl (by omega) ?_
    refine WL.load rfl rfl rfl rfl rfl rfl cm ?_
    repeat (first | ((with_reducible refine WL.topT ?_ ?_); omega) | ((with_reducible refine WL.topF ?_ ?_); omega) | ((with_reducible refine WL.top64 ?_ ?_); omega) | refine WC.seq ?_ | refine WC.region ?_ | refine WL.nil ?_ | refine WC.skip ?_ | refine WC.exit ?_ | refine WC.ret ?_ | refine WQ.then rfl ?_ | refine WQ.thenExit ?_ | refine WQ.thenRet ?_ | refine WQ.blk ?_ | refine WQ.blkRet ?_ | refine WQ.blkHere rfl ?_ | refine WQ.blkOther rfl ?_ | refine WL.pure rfl rfl rfl rfl ?_ | refine WL.on rfl rfl ?_ | refine WL.off rfl rfl rfl ?_ | refine WL.load rfl rfl rfl rfl rfl rfl (by assumption) ?_ | refine WC.condTrue rfl ?_ | refine WC.condFalse rfl ?_)
    refine WC.drawn 14 (fun wx => wx.heap = w1.heap) fun w2 hd => ?_
    have hS : w2.heap = w1.heap := hd.heap
    have c0 : w1.cell? ⟨rb, 0, none⟩ = some (.slice (some ⟨gk, 0, none⟩) L.length ck) := rs.hv.cell 0 (by simp)
    have rs2 := rs.same hd.same
    have rk2 := rk1.trans (RK.same hd.same)
    have hB2 : B ≤ w2.heap.size := by rw [hS]; exact hB1
    (((first | refine WD.free 0 rfl (by kernel_rfl) rfl rfl (fun _ _ _ _ _ h => h) rfl rfl (.inr hS) ?_ | refine WD.skip 0 rfl (by kernel_rfl) rfl rfl (fun _ _ _ _ _ h => h) rfl (.inr hS) ?_); try (first | ((with_reducible refine WD.topT ?_ ?_); omega) | ((with_reducible refine WD.topF ?_ ?_); omega) | ((with_reducible refine WD.top64 ?_ ?_); omega))); ((first | refine WD.free 1 rfl (by kernel_rfl) rfl rfl (fun _ _ _ _ _ h => h) rfl rfl (.inr hS) ?_ | refine WD.skip 1 rfl (by kernel_rfl) rfl rfl (fun _ _ _ _ _ h => h) rfl (.inr hS) ?_); try (first | ((with_reducible refine WD.topT ?_ ?_); omega) | ((with_reducible refine WD.topF ?_ ?_); omega) | ((with_reducible refine WD.top64 ?_ ?_); omega))); ((first | refine WD.free 2 rfl (by kernel_rfl) rfl rfl (fun _ _ _ _ _ h => h) rfl rfl (.inr hS) ?_ | refine WD.skip 2 rfl (by kernel_rfl) rfl rfl (fun _ _ _ _ _ h => h) rfl (.inr hS) ?_); try (first | ((with_reducible refine WD.topT ?_ ?_); omega) | ((with_reducible refine WD.topF ?_ ?_); omega) | ((with_reducible refine WD.top64 ?_ ?_); omega))); ((first | refine WD.free 3 rfl (by kernel_rfl) rfl rfl (fun _ _ _ _ _ h => h) rfl rfl (.inr hS) ?_ | refine WD.skip 3 rfl (by kernel_rfl) rfl rfl (fun _ _ _ _ _ h => h) rfl (.inr hS) ?_); try (first | ((with_reducible refine WD.topT ?_ ?_); omega) | ((with_reducible refine WD.topF ?_ ?_); omega) | ((with_reducible refine WD.top64 ?_ ?_); omega))))
    refine WD.load 4 [6, 14] rfl (by kernel_rfl) rfl rfl (fun _ _ _ _ _ h => h) rfl rfl rfl rfl (fun wx hx => (heap_cell hx _).trans c0) hS ?_
    (((first | refine WD.free 5 rfl (by kernel_rfl) rfl rfl (fun _ _ _ _ _ h => h) rfl rfl (.inr hS) ?_ | refine WD.skip 5 rfl (by kernel_rfl) rfl rfl (fun _ _ _ _ _ h => h) rfl (.inr hS) ?_); try (first | ((with_reducible refine WD.topT ?_ ?_); omega) | ((with_reducible refine WD.topF ?_ ?_); omega) | ((with_reducible refine WD.top64 ?_ ?_); omega))))
    refine WD.uptoS 6 p rfl (by kernel_rfl) rfl rfl (fun _ _ _ _ _ h => h) rfl rfl rfl rfl rfl rfl hpk (.inr hS) ?_
    (((first | refine WD.free 7 rfl (by kernel_rfl) rfl rfl (fun _ _ _ _ _ h => h) rfl rfl (.inr hS) ?_ | refine WD.skip 7 rfl (by kernel_rfl) rfl rfl (fun _ _ _ _ _ h => h) rfl (.inr hS) ?_); try (first | ((with_reducible refine WD.topT ?_ ?_); omega) | ((with_reducible refine WD.topF ?_ ?_); omega) | ((with_reducible refine WD.top64 ?_ ?_); omega))); ((first | refine WD.free 8 rfl (by kernel_rfl) rfl rfl (fun _ _ _ _ _ h => h) rfl rfl (.inr hS) ?_ | refine WD.skip 8 rfl (by kernel_rfl) rfl rfl (fun _ _ _ _ _ h => h) rfl (.inr hS) ?_); try (first | ((with_reducible refine WD.topT ?_ ?_); omega) | ((with_reducible refine WD.topF ?_ ?_); omega) | ((with_reducible refine WD.top64 ?_ ?_); omega))); ((first | refine WD.free 9 rfl (by kernel_rfl) rfl rfl (fun _ _ _ _ _ h => h) rfl rfl (.inr hS) ?_ | refine WD.skip 9 rfl (by kernel_rfl) rfl rfl (fun _ _ _ _ _ h => h) rfl (.inr hS) ?_); try (first | ((with_reducible refine WD.topT ?_ ?_); omega) | ((with_reducible refine WD.topF ?_ ?_); omega) | ((with_reducible refine WD.top64 ?_ ?_); omega))))
    refine WD.load 10 [13, 14] rfl (by kernel_rfl) rfl rfl (fun _ _ _ _ _ h => h) rfl rfl rfl rfl (fun wx hx => (heap_cell hx _).trans c0) hS ?_
    (((first | refine WD.free 11 rfl (by kernel_rfl) rfl rfl (fun _ _ _ _ _ h => h) rfl rfl (.inr hS) ?_ | refine WD.skip 11 rfl (by kernel_rfl) rfl rfl (fun _ _ _ _ _ h => h) rfl (.inr hS) ?_); try (first | ((with_reducible refine WD.topT ?_ ?_); omega) | ((with_reducible refine WD.topF ?_ ?_); omega) | ((with_reducible refine WD.top64 ?_ ?_); omega))); ((first | refine WD.free 12 rfl (by kernel_rfl) rfl rfl (fun _ _ _ _ _ h => h) rfl rfl (.inr hS) ?_ | refine WD.skip 12 rfl (by kernel_rfl) rfl rfl (fun _ _ _ _ _ h => h) rfl (.inr hS) ?_); try (first | ((with_reducible refine WD.topT ?_ ?_); omega) | ((with_reducible refine WD.topF ?_ ?_); omega) | ((with_reducible refine WD.top64 ?_ ?_); omega))))
    refine WD.fromS 13 (p + 1) rfl (by kernel_rfl) rfl rfl (fun _ _ _ _ _ h => h) rfl rfl rfl rfl rfl (by omega) (by omega) (.inr hS) ?_
    refine WD.one 14 (by kernel_rfl) rfl ?_
    refine WL.appV rfl rfl rfl rfl elemK rfl (OwnV.firsts rs2.hk (j := p) (by omega)) rfl (OwnV.rests rs2.hk (j := p + 1) (by omega)) (by omega) (by omega) fun v3 w3 o3 gr3 => ?_
    have hv3 : VBlk refT w3 rb _ := rs2.hv.keep gr3.1 ⟨rs2.hv.lt, fun e => rs2.kr e rfl⟩
    obtain ⟨rs4, rk4⟩ := rs2.appK o3 gr3 hB2
    have rk5 := rk2.trans rk4
    refine WL.nil (WQ.dk (.inl rfl) ?_)
    (((first | refine WD.free 15 rfl (by kernel_rfl) rfl rfl (fun _ _ _ _ _ h => h) rfl rfl (.inl rfl) ?_ | refine WD.skip 15 rfl (by kernel_rfl) rfl rfl (fun _ _ _ _ _ h => h) rfl (.inl rfl) ?_); try (first | ((with_reducible refine WD.topT ?_ ?_); omega) | ((with_reducible refine WD.topF ?_ ?_); omega) | ((with_reducible refine WD.top64 ?_ ?_); omega))); ((first | refine WD.free 16 rfl (by kernel_rfl) rfl rfl (fun _ _ _ _ _ h => h) rfl rfl (.inl rfl) ?_ | refine WD.skip 16 rfl (by kernel_rfl) rfl rfl (fun _ _ _ _ _ h => h) rfl (.inl rfl) ?_); try (first | ((with_reducible refine WD.topT ?_ ?_); omega) | ((with_reducible refine WD.topF ?_ ?_); omega) | ((with_reducible refine WD.top64 ?_ ?_); omega))))
    refine WD.one 17 (by kernel_rfl) rfl ?_
    refine WL.store rfl rfl rfl rfl rfl (by obtain ⟨_, _, e, -⟩ := o3.slice; rw [e]; rfl) (by kernel_rfl) (hv3.cell 0 (by simp)) (hv3.free 0) ?_
    have hB4 : B ≤ (w3.setCell ⟨rb, 0, none⟩ v3).heap.size := by have := rk5.size; omega
    generalize w3.setCell ⟨rb, 0, none⟩ v3 = w4 at rs4 rk5 hB4 ⊢
    clear rs rs2 rk1 rk2 rk4 hv3 o3 gr3 hB1 hB2 hS hd c0 c1 cm
    refine WL.nil (WQ.dk (.inl rfl) ?_)
    refine WD.done (by kernel_rfl) ?_
    repeat (first | ((with_reducible refine WL.topT ?_ ?_); omega) | ((with_reducible refine WL.topF ?_ ?_); omega) | ((with_reducible refine WL.top64 ?_ ?_); omega) | refine WC.seq ?_ | refine WC.region ?_ | refine WL.nil ?_ | refine WC.skip ?_ | refine WC.exit ?_ | refine WC.ret ?_ | refine WQ.then rfl ?_ | refine WQ.thenExit ?_ | refine WQ.thenRet ?_ | refine WQ.blk ?_ | refine WQ.blkRet ?_ | refine WQ.blkHere rfl ?_ | refine WQ.blkOther rfl ?_ | refine WL.pure rfl rfl rfl rfl ?_ | refine WL.on rfl rfl ?_ | refine WL.off rfl rfl rfl ?_ | refine WL.load rfl rfl rfl rfl rfl rfl (by assumption) ?_ | refine WC.condTrue rfl ?_ | refine WC.condFalse rfl ?_)
    refine WC.drawn 14 (fun wx => wx.heap = w4.heap) fun w5 hd => ?_
    have hS : w5.heap = w4.heap := hd.heap
    have c4 : w4.cell? ⟨rb, 1, none⟩ = some (.slice (some ⟨gn, 0, none⟩) L.length cn) := rs4.hv.cell 1 (by simp)
    have rs5 := rs4.same hd.same
    have rk6 := rk5.trans (RK.same hd.same)
    have hB5 : B ≤ w5.heap.size := by rw [hS]; exact hB4
    (((first | refine WD.free 0 rfl (by kernel_rfl) rfl rfl (fun _ _ _ _ _ h => h) rfl rfl (.inr hS) ?_ | refine WD.skip 0 rfl (by kernel_rfl) rfl rfl (fun _ _ _ _ _ h => h) rfl (.inr hS) ?_); try (first | ((with_reducible refine WD.topT ?_ ?_); omega) | ((with_reducible refine WD.topF ?_ ?_); omega) | ((with_reducible refine WD.top64 ?_ ?_); omega))); ((first | refine WD.free 1 rfl (by kernel_rfl) rfl rfl (fun _ _ _ _ _ h => h) rfl rfl (.inr hS) ?_ | refine WD.skip 1 rfl (by kernel_rfl) rfl rfl (fun _ _ _ _ _ h => h) rfl (.inr hS) ?_); try (first | ((with_reducible refine WD.topT ?_ ?_); omega) | ((with_reducible refine WD.topF ?_ ?_); omega) | ((with_reducible refine WD.top64 ?_ ?_); omega))); ((first | refine WD.free 2 rfl (by kernel_rfl) rfl rfl (fun _ _ _ _ _ h => h) rfl rfl (.inr hS) ?_ | refine WD.skip 2 rfl (by kernel_rfl) rfl rfl (fun _ _ _ _ _ h => h) rfl (.inr hS) ?_); try (first | ((with_reducible refine WD.topT ?_ ?_); omega) | ((with_reducible refine WD.topF ?_ ?_); omega) | ((with_reducible refine WD.top64 ?_ ?_); omega))); ((first | refine WD.free 3 rfl (by kernel_rfl) rfl rfl (fun _ _ _ _ _ h => h) rfl rfl (.inr hS) ?_ | refine WD.skip 3 rfl (by kernel_rfl) rfl rfl (fun _ _ _ _ _ h => h) rfl (.inr hS) ?_); try (first | ((with_reducible refine WD.topT ?_ ?_); omega) | ((with_reducible refine WD.topF ?_ ?_); omega) | ((with_reducible refine WD.top64 ?_ ?_); omega))))
    refine WD.load 4 [6, 14] rfl (by kernel_rfl) rfl rfl (fun _ _ _ _ _ h => h) rfl rfl rfl rfl (fun wx hx => (heap_cell hx _).trans c4) hS ?_
    (((first | refine WD.free 5 rfl (by kernel_rfl) rfl rfl (fun _ _ _ _ _ h => h) rfl rfl (.inr hS) ?_ | refine WD.skip 5 rfl (by kernel_rfl) rfl rfl (fun _ _ _ _ _ h => h) rfl (.inr hS) ?_); try (first | ((with_reducible refine WD.topT ?_ ?_); omega) | ((with_reducible refine WD.topF ?_ ?_); omega) | ((with_reducible refine WD.top64 ?_ ?_); omega))))
    refine WD.uptoS 6 p rfl (by kernel_rfl) rfl rfl (fun _ _ _ _ _ h => h) rfl rfl rfl rfl rfl rfl hpn (.inr hS) ?_
    (((first | refine WD.free 7 rfl (by kernel_rfl) rfl rfl (fun _ _ _ _ _ h => h) rfl rfl (.inr hS) ?_ | refine WD.skip 7 rfl (by kernel_rfl) rfl rfl (fun _ _ _ _ _ h => h) rfl (.inr hS) ?_); try (first | ((with_reducible refine WD.topT ?_ ?_); omega) | ((with_reducible refine WD.topF ?_ ?_); omega) | ((with_reducible refine WD.top64 ?_ ?_); omega))); ((first | refine WD.free 8 rfl (by kernel_rfl) rfl rfl (fun _ _ _ _ _ h => h) rfl rfl (.inr hS) ?_ | refine WD.skip 8 rfl (by kernel_rfl) rfl rfl (fun _ _ _ _ _ h => h) rfl (.inr hS) ?_); try (first | ((with_reducible refine WD.topT ?_ ?_); omega) | ((with_reducible refine WD.topF ?_ ?_); omega) | ((with_reducible refine WD.top64 ?_ ?_); omega))); ((first | refine WD.free 9 rfl (by kernel_rfl) rfl rfl (fun _ _ _ _ _ h => h) rfl rfl (.inr hS) ?_ | refine WD.skip 9 rfl (by kernel_rfl) rfl rfl (fun _ _ _ _ _ h => h) rfl (.inr hS) ?_); try (first | ((with_reducible refine WD.topT ?_ ?_); omega) | ((with_reducible refine WD.topF ?_ ?_); omega) | ((with_reducible refine WD.top64 ?_ ?_); omega))))
    refine WD.load 10 [13, 14] rfl (by kernel_rfl) rfl rfl (fun _ _ _ _ _ h => h) rfl rfl rfl rfl (fun wx hx => (heap_cell hx _).trans c4) hS ?_
    (((first | refine WD.free 11 rfl (by kernel_rfl) rfl rfl (fun _ _ _ _ _ h => h) rfl rfl (.inr hS) ?_ | refine WD.skip 11 rfl (by kernel_rfl) rfl rfl (fun _ _ _ _ _ h => h) rfl (.inr hS) ?_); try (first | ((with_reducible refine WD.topT ?_ ?_); omega) | ((with_reducible refine WD.topF ?_ ?_); omega) | ((with_reducible refine WD.top64 ?_ ?_); omega))); ((first | refine WD.free 12 rfl (by kernel_rfl) rfl rfl (fun _ _ _ _ _ h => h) rfl rfl (.inr hS) ?_ | refine WD.skip 12 rfl (by kernel_rfl) rfl rfl (fun _ _ _ _ _ h => h) rfl (.inr hS) ?_); try (first | ((with_reducible refine WD.topT ?_ ?_); omega) | ((with_reducible refine WD.topF ?_ ?_); omega) | ((with_reducible refine WD.top64 ?_ ?_); omega))))
    refine WD.fromS 13 (p + 1) rfl (by kernel_rfl) rfl rfl (fun _ _ _ _ _ h => h) rfl rfl rfl rfl rfl (by omega) (by omega) (.inr hS) ?_
    refine WD.one 14 (by kernel_rfl) rfl ?_
    refine WL.appV rfl rfl rfl rfl elemN rfl (OwnV.firsts rs5.hn (j := p) (by omega)) rfl (OwnV.rests rs5.hn (j := p + 1) (by omega)) (by omega) (by omega) fun v6 w6 o6 gr6 => ?_
    have hv6 : VBlk refT w6 rb _ := rs5.hv.keep gr6.1 ⟨rs5.hv.lt, fun e => rs5.nr e rfl⟩
    obtain ⟨rs7, rk7⟩ := rs5.appN o6 gr6 hB5
    have rk8 := rk6.trans rk7
    refine WL.nil (WQ.dk (.inl rfl) ?_)
    (((first | refine WD.free 15 rfl (by kernel_rfl) rfl rfl (fun _ _ _ _ _ h => h) rfl rfl (.inl rfl) ?_ | refine WD.skip 15 rfl (by kernel_rfl) rfl rfl (fun _ _ _ _ _ h => h) rfl (.inl rfl) ?_); try (first | ((with_reducible refine WD.topT ?_ ?_); omega) | ((with_reducible refine WD.topF ?_ ?_); omega) | ((with_reducible refine WD.top64 ?_ ?_); omega))); ((first | refine WD.free 16 rfl (by kernel_rfl) rfl rfl (fun _ _ _ _ _ h => h) rfl rfl (.inl rfl) ?_ | refine WD.skip 16 rfl (by kernel_rfl) rfl rfl (fun _ _ _ _ _ h => h) rfl (.inl rfl) ?_); try (first | ((with_reducible refine WD.topT ?_ ?_); omega) | ((with_reducible refine WD.topF ?_ ?_); omega) | ((with_reducible refine WD.top64 ?_ ?_); omega))))
    refine WD.one 17 (by kernel_rfl) rfl ?_
    refine WL.store rfl rfl rfl rfl rfl (by obtain ⟨_, _, e, -⟩ := o6.slice; rw [e]; rfl) (by kernel_rfl) (hv6.cell 1 (by simp)) (hv6.free 1) ?_
    generalize w6.setCell ⟨rb, 1, none⟩ v6 = w7 at rs7 rk8 ⊢
    clear rs4 rs5 rk5 rk6 rk7 hv6 o6 gr6 hS hd c4
    refine WL.nil (WQ.dk (.inl rfl) ?_)
    refine WD.done (by kernel_rfl) ?_
    repeat (first | ((with_reducible refine WL.topT ?_ ?_); omega) | ((with_reducible refine WL.topF ?_ ?_); omega) | ((with_reducible refine WL.top64 ?_ ?_); omega) | refine WC.seq ?_ | refine WC.block ?_ | refine WC.region ?_ | refine WL.nil ?_ | refine WC.skip ?_ | refine WC.exit ?_ | refine WC.ret ?_ | refine WQ.then rfl ?_ | refine WQ.thenExit ?_ | refine WQ.thenRet ?_ | refine WQ.blk ?_ | refine WQ.blkRet ?_ | refine WQ.blkHere rfl ?_ | refine WQ.blkOther rfl ?_ | refine WL.pure rfl rfl rfl rfl ?_ | refine WL.on rfl rfl ?_ | refine WL.off rfl rfl rfl ?_ | refine WC.condTrue rfl ?_ | refine WC.condFalse rfl ?_)
    exact WQ.ret2 rfl rfl rfl ⟨rfl, rs7.rt hln hln hmk.symm hmn.symm, rk8⟩
end K
end Go.Proofs.Ytilmfnlaenneeaa

/- The document's tree (scrivenerref13): Copy. Printed by gen_treri.py. -/
namespace Go.Proofs.Ytilmfnlaenneeaa
open Go.RowKit
namespace K
open Tre
theorem OwnV.fresh0 {w w' : World} {g e : Nat} {O : Nat → Prop} (h : Fresh w g w' e []) (hO : O g) : OwnV e 1 w' O (.slice (some ⟨g, 0, none⟩) 0 0) 0 [] :=
  ⟨⟨rfl, .inr ⟨g, 0, #[], rfl, Nat.zero_le _, h.blk, Nat.le_refl _, by unfold maxLen; omega, by simp, by simp⟩⟩, (fun _ h => by cases h), fun q hq => by cases hq; exact hO⟩
theorem own_ne {w : World} {O O' : Nat → Prop} {e e' : TypeId} {v v' : Value} {n n' : Nat} {l l' : List Value} (h : OwnV e 1 w O v n l) (h' : OwnV e' 1 w O' v' n' l') (hne : e ≠ e') {g g' : Nat} (hg : v.ownBlock = some g) (hg' : v'.ownBlock = some g') : g = g' → False := fun q => by
  subst q
  obtain ⟨cur, hc⟩ := h.tag hg
  obtain ⟨cur', hc'⟩ := h'.tag hg'
  rw [hc] at hc'
  injection hc' with h2
  injection h2 with _ h2 _
  exact hne h2
theorem built_ref (a b : Option Addr) (n c m d : Nat) : Try.prog.built refT [(0, .slice a n c), (1, .slice b m d)] = some #[.slice a n c, .slice b m d] := by kernel_rfl
set_option maxRecDepth 20000 in
set_option maxHeartbeats 4000000 in
theorem rcopy_any {B : Nat} {w : World} {rb : Nat} {L : List KV} (h : RT B w rb L) (hl : L.length < 1000000000) : Calls Try.prog 19 #[.pointer (some ⟨rb, 0, none⟩)] w fun e w' => ∃ rb', e = .returned (.pointer (some ⟨rb', 0, none⟩)) ∧ RT w.heap.size w' rb' L ∧ Below w.heap.size w w' := by
  obtain ⟨vk, vn, rs⟩ := h.rs
  obtain ⟨spk, cpk, rfl, -, -⟩ := rs.hk.slice
  obtain ⟨spn, cpn, rfl, -, -⟩ := rs.hn.slice
  have c0 : w.cell? ⟨rb, 0, none⟩ = some (.slice spk L.length cpk) := rs.hv.cell 0 (by simp)
  have c1 : w.cell? ⟨rb, 1, none⟩ = some (.slice spn L.length cpn) := rs.hv.cell 1 (by simp)
  have hlt := rs.hv.lt
  refine enter (args := [.pointer (some ⟨rb, 0, none⟩)]) Try.func19 rfl Try.ntmps19 rfl ?_
  repeat (first | ((with_reducible refine WL.topT ?_ ?_); omega) | ((with_reducible refine WL.topF ?_ ?_); omega) | ((with_reducible refine WL.top64 ?_ ?_); omega) | refine WC.seq ?_ | refine WC.region ?_ | refine WL.nil ?_ | refine WC.skip ?_ | refine WC.exit ?_ | refine WC.ret ?_ | refine WQ.then rfl ?_ | refine WQ.thenExit ?_ | refine WQ.thenRet ?_ | refine WQ.blk ?_ | refine WQ.blkRet ?_ | refine WQ.blkHere rfl ?_ | refine WQ.blkOther rfl ?_ | refine WL.pure rfl rfl rfl rfl ?_ | refine WL.on rfl rfl ?_ | refine WL.off rfl rfl rfl ?_ | refine WL.load rfl rfl rfl rfl rfl rfl (by assumption) ?_ | refine WC.condTrue rfl ?_ | refine WC.condFalse rfl ?_)
  refine WC.drawn 11 (fun wx => wx.cell? ⟨rb, 0, none⟩ = some (.slice spk L.length cpk) ∧ wx.cell? ⟨rb, 1, none⟩ = some (.slice spn L.length cpn)) fun w1 hd => ?_
  have hb1 : Below w.heap.size w w1 := hd.below _
  have hs1 : w1.heap.size = w.heap.size := by rw [hd.heap]
  have rs1 := rs.below hb1
  have hS := And.intro (rs1.hv.cell 0 (by simp)) (rs1.hv.cell 1 (by simp))
  (((first | refine WD.free 1 rfl (by kernel_rfl) rfl rfl (fun _ _ _ _ _ h => h) rfl rfl (.inr hS) ?_ | refine WD.skip 1 rfl (by kernel_rfl) rfl rfl (fun _ _ _ _ _ h => h) rfl (.inr hS) ?_); try (first | ((with_reducible refine WD.topT ?_ ?_); omega) | ((with_reducible refine WD.topF ?_ ?_); omega) | ((with_reducible refine WD.top64 ?_ ?_); omega))); ((first | refine WD.free 2 rfl (by kernel_rfl) rfl rfl (fun _ _ _ _ _ h => h) rfl rfl (.inr hS) ?_ | refine WD.skip 2 rfl (by kernel_rfl) rfl rfl (fun _ _ _ _ _ h => h) rfl (.inr hS) ?_); try (first | ((with_reducible refine WD.topT ?_ ?_); omega) | ((with_reducible refine WD.topF ?_ ?_); omega) | ((with_reducible refine WD.top64 ?_ ?_); omega))); ((first | refine WD.free 3 rfl (by kernel_rfl) rfl rfl (fun _ _ _ _ _ h => h) rfl rfl (.inr hS) ?_ | refine WD.skip 3 rfl (by kernel_rfl) rfl rfl (fun _ _ _ _ _ h => h) rfl (.inr hS) ?_); try (first | ((with_reducible refine WD.topT ?_ ?_); omega) | ((with_reducible refine WD.topF ?_ ?_); omega) | ((with_reducible refine WD.top64 ?_ ?_); omega))))
  refine WD.load 4 [5, 11] rfl (by kernel_rfl) rfl rfl (fun _ _ _ _ _ h => h) rfl rfl rfl rfl (fun wx hx => hx.1) hS ?_
  (((first | refine WD.free 7 rfl (by kernel_rfl) rfl rfl (fun _ _ _ _ _ h => h) rfl rfl (.inr hS) ?_ | refine WD.skip 7 rfl (by kernel_rfl) rfl rfl (fun _ _ _ _ _ h => h) rfl (.inr hS) ?_); try (first | ((with_reducible refine WD.topT ?_ ?_); omega) | ((with_reducible refine WD.topF ?_ ?_); omega) | ((with_reducible refine WD.top64 ?_ ?_); omega))); ((first | refine WD.free 8 rfl (by kernel_rfl) rfl rfl (fun _ _ _ _ _ h => h) rfl rfl (.inr hS) ?_ | refine WD.skip 8 rfl (by kernel_rfl) rfl rfl (fun _ _ _ _ _ h => h) rfl (.inr hS) ?_); try (first | ((with_reducible refine WD.topT ?_ ?_); omega) | ((with_reducible refine WD.topF ?_ ?_); omega) | ((with_reducible refine WD.top64 ?_ ?_); omega))); ((first | refine WD.free 9 rfl (by kernel_rfl) rfl rfl (fun _ _ _ _ _ h => h) rfl rfl (.inr hS) ?_ | refine WD.skip 9 rfl (by kernel_rfl) rfl rfl (fun _ _ _ _ _ h => h) rfl (.inr hS) ?_); try (first | ((with_reducible refine WD.topT ?_ ?_); omega) | ((with_reducible refine WD.topF ?_ ?_); omega) | ((with_reducible refine WD.top64 ?_ ?_); omega))))
  refine WD.load 10 [11] rfl (by kernel_rfl) rfl rfl (fun _ _ _ _ _ h => h) rfl rfl rfl rfl (fun wx hx => hx.2) hS ?_
  clear hS hd h
  refine WD.two 0 6 (by kernel_rfl) rfl rfl ?_ ?_
  · refine WL.empty rfl rfl rfl rfl rfl fun gw2 w2 fw2 => ?_
    have ew2 := fw2.eq
    have zw2 := fw2.size
    have qw2 : OwnV ksT 1 w2 (fun b => w.heap.size ≤ b) (.slice (some ⟨gw2, 0, none⟩) 0 0) 0 [] := OwnV.fresh0 fw2 (by show w.heap.size ≤ gw2; have := hb1.size; omega)
    have bw2 := hb1.trans (fw2.below.mono hb1.size)
    have rw2 := rs1.below fw2.below
    have hS := And.intro (rw2.hv.cell 0 (by simp)) (rw2.hv.cell 1 (by simp))
    refine WL.nil (WQ.dk (.inr hS) ?_)
    clear hS
    refine WD.two 5 6 (by kernel_rfl) rfl rfl ?_ ?_
    · refine WL.appV rfl rfl rfl rfl elemK rfl qw2 rfl rw2.hk.slV (by omega) (by omega) fun vw3 w3 ow3 grw3 => ?_
      have mw3 : OwnV ksT 1 w3 (fun b => w.heap.size ≤ b) vw3 (0 + L.length) _ := ow3.mono fun b hb => hb.elim id fun e => by have := bw2.size; omega
      have kw3 : Keep (fun x => x < w.heap.size) w2 w3 := grw3.1.mono fun x (hx : x < w.heap.size) => ⟨by have := bw2.size; omega, fun e => by have := qw2.own e; omega⟩
      have bw3 := bw2.trans kw3.below
      have rw3 := rs.below bw3
      have hS := And.intro (rw3.hv.cell 0 (by simp)) (rw3.hv.cell 1 (by simp))
      refine WL.nil (WQ.dk (.inr hS) ?_)
      clear hS
      refine WD.one 6 (by kernel_rfl) rfl ?_
      refine WL.empty rfl rfl rfl rfl rfl fun gw4 w4 fw4 => ?_
      have ew4 := fw4.eq
      have zw4 := fw4.size
      have qw4 : OwnV nsT 1 w4 (fun b => w.heap.size ≤ b) (.slice (some ⟨gw4, 0, none⟩) 0 0) 0 [] := OwnV.fresh0 fw4 (by show w.heap.size ≤ gw4; have := bw3.size; omega)
      replace mw3 := mw3.keep (Keep.of_below fw4.below) (fun q hq => mw3.lt hq)
      have bw4 := bw3.trans (fw4.below.mono bw3.size)
      have rw4 := rw3.below fw4.below
      have hS := And.intro (rw4.hv.cell 0 (by simp)) (rw4.hv.cell 1 (by simp))
      refine WL.nil (WQ.dk (.inr hS) ?_)
      clear hS
      refine WD.one 11 (by kernel_rfl) rfl ?_
      refine WL.appV rfl rfl rfl rfl elemN rfl qw4 rfl rw4.hn.slV (by omega) (by omega) fun vw5 w5 ow5 grw5 => ?_
      have mw5 : OwnV nsT 1 w5 (fun b => w.heap.size ≤ b) vw5 (0 + L.length) _ := ow5.mono fun b hb => hb.elim id fun e => by have := bw4.size; omega
      have kw5 : Keep (fun x => x < w.heap.size) w4 w5 := grw5.1.mono fun x (hx : x < w.heap.size) => ⟨by have := bw4.size; omega, fun e => by have := qw4.own e; omega⟩
      have bw5 := bw4.trans kw5.below
      have nw5 : OwnV ksT 1 w5 (fun b => w.heap.size ≤ b) _ _ _ := mw3.keep grw5.1 fun q hq => ⟨mw3.lt hq, fun e => own_ne qw4 mw3 (by decide) e hq rfl⟩
      refine WL.nil (WQ.dk (.inl rfl) ?_)
      obtain ⟨s1, d1, rfl, -, -⟩ := nw5.slice
      obtain ⟨s2, d2, rfl, -, -⟩ := mw5.slice
      refine WD.one 12 (by kernel_rfl) rfl ?_
      refine WL.build _ rfl rfl rfl rfl rfl (built_ref _ _ _ _ _ _) ?_
      refine WL.nil (WQ.dk (.inl rfl) ?_)
      refine WD.one 13 (by kernel_rfl) rfl ?_
      refine WL.box rfl rfl rfl rfl rfl fun gx wx fx => ?_
      refine WL.nil (WQ.dk (.inl rfl) ?_)
      refine WD.one 14 (by kernel_rfl) rfl ?_
      refine WL.pure rfl rfl rfl rfl ?_
      refine WL.nil (WQ.dk (.inl rfl) ?_)
      refine WD.done (by kernel_rfl) ?_
      repeat (first | ((with_reducible refine WL.topT ?_ ?_); omega) | ((with_reducible refine WL.topF ?_ ?_); omega) | ((with_reducible refine WL.top64 ?_ ?_); omega) | refine WC.seq ?_ | refine WC.block ?_ | refine WC.region ?_ | refine WL.nil ?_ | refine WC.skip ?_ | refine WC.exit ?_ | refine WC.ret ?_ | refine WQ.then rfl ?_ | refine WQ.thenExit ?_ | refine WQ.thenRet ?_ | refine WQ.blk ?_ | refine WQ.blkRet ?_ | refine WQ.blkHere rfl ?_ | refine WQ.blkOther rfl ?_ | refine WL.pure rfl rfl rfl rfl ?_ | refine WL.on rfl rfl ?_ | refine WL.off rfl rfl rfl ?_ | refine WC.condTrue rfl ?_ | refine WC.condFalse rfl ?_)
      refine WQ.ret1 rfl rfl ⟨gx, rfl, ⟨by have := bw5.size; have := fx.eq; omega, _, _, fx.blk, ?_, ?_⟩, bw5.trans (fx.below.mono bw5.size)⟩
      · have := nw5.keep (Keep.of_below fx.below) (fun q hq => nw5.lt hq); simpa using this
      · have := mw5.keep (Keep.of_below fx.below) (fun q hq => mw5.lt hq); simpa using this
    · refine WL.empty rfl rfl rfl rfl rfl fun gw3 w3 fw3 => ?_
      have ew3 := fw3.eq
      have zw3 := fw3.size
      have qw3 : OwnV nsT 1 w3 (fun b => w.heap.size ≤ b) (.slice (some ⟨gw3, 0, none⟩) 0 0) 0 [] := OwnV.fresh0 fw3 (by show w.heap.size ≤ gw3; have := bw2.size; omega)
      replace qw2 := qw2.keep (Keep.of_below fw3.below) (fun q hq => qw2.lt hq)
      have bw3 := bw2.trans (fw3.below.mono bw2.size)
      have rw3 := rw2.below fw3.below
      have hS := And.intro (rw3.hv.cell 0 (by simp)) (rw3.hv.cell 1 (by simp))
      refine WL.nil (WQ.dk (.inr hS) ?_)
      clear hS
      refine WD.one 5 (by kernel_rfl) rfl ?_
      refine WL.appV rfl rfl rfl rfl elemK rfl qw2 rfl rw3.hk.slV (by omega) (by omega) fun vw4 w4 ow4 grw4 => ?_
      have mw4 : OwnV ksT 1 w4 (fun b => w.heap.size ≤ b) vw4 (0 + L.length) _ := ow4.mono fun b hb => hb.elim id fun e => by have := bw3.size; omega
      have kw4 : Keep (fun x => x < w.heap.size) w3 w4 := grw4.1.mono fun x (hx : x < w.heap.size) => ⟨by have := bw3.size; omega, fun e => by have := qw2.own e; omega⟩
      have bw4 := bw3.trans kw4.below
      have nw4 : OwnV nsT 1 w4 (fun b => w.heap.size ≤ b) _ _ _ := qw3.keep grw4.1 fun q hq => ⟨qw3.lt hq, fun e => own_ne qw2 qw3 (by decide) e hq rfl⟩
      have rw4 := rs.below bw4
      have hS := And.intro (rw4.hv.cell 0 (by simp)) (rw4.hv.cell 1 (by simp))
      refine WL.nil (WQ.dk (.inr hS) ?_)
      clear hS
      refine WD.one 11 (by kernel_rfl) rfl ?_
      refine WL.appV rfl rfl rfl rfl elemN rfl nw4 rfl rw4.hn.slV (by omega) (by omega) fun vw5 w5 ow5 grw5 => ?_
      have mw5 : OwnV nsT 1 w5 (fun b => w.heap.size ≤ b) vw5 (0 + L.length) _ := ow5.mono fun b hb => hb.elim id fun e => by have := bw4.size; omega
      have kw5 : Keep (fun x => x < w.heap.size) w4 w5 := grw5.1.mono fun x (hx : x < w.heap.size) => ⟨by have := bw4.size; omega, fun e => by have := nw4.own e; omega⟩
      have bw5 := bw4.trans kw5.below
      have nw5 : OwnV ksT 1 w5 (fun b => w.heap.size ≤ b) _ _ _ := mw4.keep grw5.1 fun q hq => ⟨mw4.lt hq, fun e => own_ne nw4 mw4 (by decide) e hq rfl⟩
      refine WL.nil (WQ.dk (.inl rfl) ?_)
      obtain ⟨s1, d1, rfl, -, -⟩ := nw5.slice
      obtain ⟨s2, d2, rfl, -, -⟩ := mw5.slice
      refine WD.one 12 (by kernel_rfl) rfl ?_
      refine WL.build _ rfl rfl rfl rfl rfl (built_ref _ _ _ _ _ _) ?_
      refine WL.nil (WQ.dk (.inl rfl) ?_)
      refine WD.one 13 (by kernel_rfl) rfl ?_
      refine WL.box rfl rfl rfl rfl rfl fun gx wx fx => ?_
      refine WL.nil (WQ.dk (.inl rfl) ?_)
      refine WD.one 14 (by kernel_rfl) rfl ?_
      refine WL.pure rfl rfl rfl rfl ?_
      refine WL.nil (WQ.dk (.inl rfl) ?_)
      refine WD.done (by kernel_rfl) ?_
      repeat (first | ((with_reducible refine WL.topT ?_ ?_); omega) | ((with_reducible refine WL.topF ?_ ?_); omega) | ((with_reducible refine WL.top64 ?_ ?_); omega) | refine WC.seq ?_ | refine WC.block ?_ | refine WC.region ?_ | refine WL.nil ?_ | refine WC.skip ?_ | refine WC.exit ?_ | refine WC.ret ?_ | refine WQ.then rfl ?_ | refine WQ.thenExit ?_ | refine WQ.thenRet ?_ | refine WQ.blk ?_ | refine WQ.blkRet ?_ | refine WQ.blkHere rfl ?_ | refine WQ.blkOther rfl ?_ | refine WL.pure rfl rfl rfl rfl ?_ | refine WL.on rfl rfl ?_ | refine WL.off rfl rfl rfl ?_ | refine WC.condTrue rfl ?_ | refine WC.condFalse rfl ?_)
      refine WQ.ret1 rfl rfl ⟨gx, rfl, ⟨by have := bw5.size; have := fx.eq; omega, _, _, fx.blk, ?_, ?_⟩, bw5.trans (fx.below.mono bw5.size)⟩
      · have := nw5.keep (Keep.of_below fx.below) (fun q hq => nw5.lt hq); simpa using this
      · have := mw5.keep (Keep.of_below fx.below) (fun q hq => mw5.lt hq); simpa using this
  · refine WL.empty rfl rfl rfl rfl rfl fun gw2 w2 fw2 => ?_
    have ew2 := fw2.eq
    have zw2 := fw2.size
    have qw2 : OwnV nsT 1 w2 (fun b => w.heap.size ≤ b) (.slice (some ⟨gw2, 0, none⟩) 0 0) 0 [] := OwnV.fresh0 fw2 (by show w.heap.size ≤ gw2; have := hb1.size; omega)
    have bw2 := hb1.trans (fw2.below.mono hb1.size)
    have rw2 := rs1.below fw2.below
    have hS := And.intro (rw2.hv.cell 0 (by simp)) (rw2.hv.cell 1 (by simp))
    refine WL.nil (WQ.dk (.inr hS) ?_)
    clear hS
    refine WD.one 0 (by kernel_rfl) rfl ?_
    refine WL.empty rfl rfl rfl rfl rfl fun gw3 w3 fw3 => ?_
    have ew3 := fw3.eq
    have zw3 := fw3.size
    have qw3 : OwnV ksT 1 w3 (fun b => w.heap.size ≤ b) (.slice (some ⟨gw3, 0, none⟩) 0 0) 0 [] := OwnV.fresh0 fw3 (by show w.heap.size ≤ gw3; have := bw2.size; omega)
    replace qw2 := qw2.keep (Keep.of_below fw3.below) (fun q hq => qw2.lt hq)
    have bw3 := bw2.trans (fw3.below.mono bw2.size)
    have rw3 := rw2.below fw3.below
    have hS := And.intro (rw3.hv.cell 0 (by simp)) (rw3.hv.cell 1 (by simp))
    refine WL.nil (WQ.dk (.inr hS) ?_)
    clear hS
    refine WD.one 5 (by kernel_rfl) rfl ?_
    refine WL.appV rfl rfl rfl rfl elemK rfl qw3 rfl rw3.hk.slV (by omega) (by omega) fun vw4 w4 ow4 grw4 => ?_
    have mw4 : OwnV ksT 1 w4 (fun b => w.heap.size ≤ b) vw4 (0 + L.length) _ := ow4.mono fun b hb => hb.elim id fun e => by have := bw3.size; omega
    have kw4 : Keep (fun x => x < w.heap.size) w3 w4 := grw4.1.mono fun x (hx : x < w.heap.size) => ⟨by have := bw3.size; omega, fun e => by have := qw3.own e; omega⟩
    have bw4 := bw3.trans kw4.below
    have nw4 : OwnV nsT 1 w4 (fun b => w.heap.size ≤ b) _ _ _ := qw2.keep grw4.1 fun q hq => ⟨qw2.lt hq, fun e => own_ne qw3 qw2 (by decide) e hq rfl⟩
    have rw4 := rs.below bw4
    have hS := And.intro (rw4.hv.cell 0 (by simp)) (rw4.hv.cell 1 (by simp))
    refine WL.nil (WQ.dk (.inr hS) ?_)
    clear hS
    refine WD.one 11 (by kernel_rfl) rfl ?_
    refine WL.appV rfl rfl rfl rfl elemN rfl nw4 rfl rw4.hn.slV (by omega) (by omega) fun vw5 w5 ow5 grw5 => ?_
    have mw5 : OwnV nsT 1 w5 (fun b => w.heap.size ≤ b) vw5 (0 + L.length) _ := ow5.mono fun b hb => hb.elim id fun e => by have := bw4.size; omega
    have kw5 : Keep (fun x => x < w.heap.size) w4 w5 := grw5.1.mono fun x (hx : x < w.heap.size) => ⟨by have := bw4.size; omega, fun e => by have := nw4.own e; omega⟩
    have bw5 := bw4.trans kw5.below
    have nw5 : OwnV ksT 1 w5 (fun b => w.heap.size ≤ b) _ _ _ := mw4.keep grw5.1 fun q hq => ⟨mw4.lt hq, fun e => own_ne nw4 mw4 (by decide) e hq rfl⟩
    refine WL.nil (WQ.dk (.inl rfl) ?_)
    obtain ⟨s1, d1, rfl, -, -⟩ := nw5.slice
    obtain ⟨s2, d2, rfl, -, -⟩ := mw5.slice
    refine WD.one 12 (by kernel_rfl) rfl ?_
    refine WL.build _ rfl rfl rfl rfl rfl (built_ref _ _ _ _ _ _) ?_
    refine WL.nil (WQ.dk (.inl rfl) ?_)
    refine WD.one 13 (by kernel_rfl) rfl ?_
    refine WL.box rfl rfl rfl rfl rfl fun gx wx fx => ?_
    refine WL.nil (WQ.dk (.inl rfl) ?_)
    refine WD.one 14 (by kernel_rfl) rfl ?_
    refine WL.pure rfl rfl rfl rfl ?_
    refine WL.nil (WQ.dk (.inl rfl) ?_)
    refine WD.done (by kernel_rfl) ?_
    repeat (first | ((with_reducible refine WL.topT ?_ ?_); omega) | ((with_reducible refine WL.topF ?_ ?_); omega) | ((with_reducible refine WL.top64 ?_ ?_); omega) | refine WC.seq ?_ | refine WC.block ?_ | refine WC.region ?_ | refine WL.nil ?_ | refine WC.skip ?_ | refine WC.exit ?_ | refine WC.ret ?_ | refine WQ.then rfl ?_ | refine WQ.thenExit ?_ | refine WQ.thenRet ?_ | refine WQ.blk ?_ | refine WQ.blkRet ?_ | refine WQ.blkHere rfl ?_ | refine WQ.blkOther rfl ?_ | refine WL.pure rfl rfl rfl rfl ?_ | refine WL.on rfl rfl ?_ | refine WL.off rfl rfl rfl ?_ | refine WC.condTrue rfl ?_ | refine WC.condFalse rfl ?_)
    refine WQ.ret1 rfl rfl ⟨gx, rfl, ⟨by have := bw5.size; have := fx.eq; omega, _, _, fx.blk, ?_, ?_⟩, bw5.trans (fx.below.mono bw5.size)⟩
    · have := nw5.keep (Keep.of_below fx.below) (fun q hq => nw5.lt hq); simpa using this
    · have := mw5.keep (Keep.of_below fx.below) (fun q hq => mw5.lt hq); simpa using this
end K
end Go.Proofs.Ytilmfnlaenneeaa

/- Trees (chapter 13): Copy. -/
namespace Go.Proofs.Ytilmfnlaenneeaa
open Go.RowKit
namespace K
open Tre
theorem e_nil2 : (⟨#[]⟩ : ByteArray).toList = [] := by kernel_rfl
theorem flt_every (l : List KV) : flt ⟨#[]⟩ ⟨#[]⟩ l = l := by
  unfold flt
  rw [List.filter_eq_self]
  intro e _
  have : kl e.1 ⟨#[]⟩ = false := by
    unfold kl
    rw [e_nil2]
    cases h : e.1.toList with
    | nil => rfl
    | cons a r => rfl
  unfold inR isE
  rw [this, e_nil2]
  rfl
/-- All put, one by one. -/
def putAll (l : List KV) : List KV := l.foldl (fun r e => insL e.1 e.2 r) []
theorem putAll_snoc (l : List KV) (e : KV) : putAll (l ++ [e]) = insL e.1 e.2 (putAll l) := by unfold putAll; rw [List.foldl_append]; rfl
theorem putAll_len : ∀ (l : List KV), (putAll l).length ≤ l.length := fun l => by
  unfold putAll
  have : ∀ (l r : List KV), (l.foldl (fun r e => insL e.1 e.2 r) r).length ≤ r.length + l.length := by
    intro l
    induction l with
    | nil => intro r; exact Nat.le_refl _
    | cons e l ih =>
      intro r
      have h1 := ih (insL e.1 e.2 r)
      have h2 := (insL_len (k := e.1) (n := e.2) r).1
      rw [List.foldl_cons, List.length_cons]
      omega
  simpa using this l []
theorem putAll_srt : ∀ {q p : List KV}, Srt (p ++ q) → putAll p = p → putAll (p ++ q) = p ++ q
  | [], p, _, h => by rw [List.append_nil]; exact h
  | e :: q, p, hs, h => by
    have hlo : Lo p e.1 := fun x hx => (srt_app.1 hs).2.2 x hx e (by simp)
    have h1 : putAll (p ++ [e]) = p ++ [e] := by
      rw [putAll_snoc, h]
      have := insL_lo (n := e.2) (b := []) hlo
      rw [List.append_nil] at this
      rw [this]; rfl
    have := putAll_srt (q := q) (p := p ++ [e]) (by rw [List.append_assoc]; exact hs) h1
    rw [List.append_assoc] at this
    exact this
theorem putAll_all {l : List KV} (hs : Srt l) : putAll l = l := putAll_srt (p := []) (q := l) hs rfl
abbrev ptT : Nat := 25
theorem IsT.tree {w : World} {st : St} {tb : Nat} {l : List KV} (h : IsT w st tb l) : ∃ cs, VBlk treeT w tb cs := by obtain ⟨_, _, hv, -⟩ := h.ex; exact ⟨_, hv⟩
theorem IsT.stays {B : Nat} {w w' : World} {st : St} {tb : Nat} {l : List KV} (h : IsT w st tb l) (hk : Keep (Stays B w) w w') : IsT w' st tb l :=
  h.keep hk (fun b hb => by
    cases e : st b with
    | none => exact absurd e hb
    | some nd => obtain ⟨-, pv, hv⟩ := h.mem b nd e; exact .inr (VBlk.isC hv)) (by obtain ⟨cs, hv⟩ := h.tree; exact .inr (VBlk.isC hv))
/-- A block of another kind is none of the tree's. -/
theorem IsT.other {w : World} {st : St} {tb : Nat} {l : List KV} (h : IsT w st tb l) {b : Nat} {ob : Obj} (hb : w.heap[b]? = some ob) (ho : ∀ cur x, ob ≠ .cells cur nodeT x ∧ ob ≠ .cells cur treeT x) : Out st tb w b := by
  refine ⟨(Array.getElem?_eq_some_iff.1 hb).1, ?_, fun e => ?_⟩
  · cases e : st b with
    | none => rfl
    | some nd =>
      obtain ⟨-, pv, hv⟩ := h.mem b nd e
      have hv' : w.heap[b]? = some (.cells _ nodeT (0, 0)) := hv
      rw [hb] at hv'
      exact absurd (Option.some.inj hv') (ho _ _).1
  · obtain ⟨cs, hv⟩ := h.tree
    have hv' : w.heap[tb]? = some (.cells cs.toArray treeT (0, 0)) := hv
    rw [← e, hb] at hv'
    exact absurd (Option.some.inj hv') (ho _ _).2
set_option maxRecDepth 20000 in
set_option maxHeartbeats 4000000 in
theorem tcopy_any {w : World} {st : St} {tb : Nat} {l : List KV} (h : IsT w st tb l) (hl : l.length < 1000000) : Calls Try.prog 18 #[.pointer (some ⟨tb, 0, none⟩)] w fun e w' => ∃ tb' st', e = .returned (.pointer (some ⟨tb', 0, none⟩)) ∧ IsT w' st' tb' l ∧ Below w.heap.size w w' ∧ w.heap.size ≤ tb' ∧ ∀ x, st' x ≠ none → w.heap.size ≤ x := by
  refine enterM (args := [.pointer (some ⟨tb, 0, none⟩)]) Try.func18 rfl Try.ntmps18 rfl ?_
  have hsl : Srt l := by obtain ⟨-, -, _, _, -, hh⟩ := h; exact hh.srt
  repeat (first | ((with_reducible refine WL.topT ?_ ?_); omega) | ((with_reducible refine WL.topF ?_ ?_); omega) | ((with_reducible refine WL.top64 ?_ ?_); omega) | refine WC.seq ?_ | refine WC.block ?_ | refine WC.region ?_ | refine WL.nil ?_ | refine WC.skip ?_ | refine WC.exit ?_ | refine WC.ret ?_ | refine WQ.then rfl ?_ | refine WQ.thenExit ?_ | refine WQ.thenRet ?_ | refine WQ.blk ?_ | refine WQ.blkRet ?_ | refine WQ.blkHere rfl ?_ | refine WQ.blkOther rfl ?_ | refine WL.pure rfl rfl rfl rfl ?_ | refine WL.on rfl rfl ?_ | refine WL.off rfl rfl rfl ?_ | refine WC.condTrue rfl ?_ | refine WC.condFalse rfl ?_)
  refine WL.nilP rfl rfl rfl rfl rfl rfl (by kernel_rfl) ?_
  repeat (first | ((with_reducible refine WL.topT ?_ ?_); omega) | ((with_reducible refine WL.topF ?_ ?_); omega) | ((with_reducible refine WL.top64 ?_ ?_); omega) | refine WC.seq ?_ | refine WC.block ?_ | refine WC.region ?_ | refine WL.nil ?_ | refine WC.skip ?_ | refine WC.exit ?_ | refine WC.ret ?_ | refine WQ.then rfl ?_ | refine WQ.thenExit ?_ | refine WQ.thenRet ?_ | refine WQ.blk ?_ | refine WQ.blkRet ?_ | refine WQ.blkHere rfl ?_ | refine WQ.blkOther rfl ?_ | refine WL.pure rfl rfl rfl rfl ?_ | refine WL.on rfl rfl ?_ | refine WL.off rfl rfl rfl ?_ | refine WC.condTrue rfl ?_ | refine WC.condFalse rfl ?_)
  refine WL.call rfl rfl rfl rfl rfl Try.func10 rfl (by kernel_rfl) tnew_any ?_
  rintro _ w1 ⟨t2, rfl, h1, b1, ht2⟩
  refine ⟨_, rfl, ?_⟩
  refine WL.alloc (z := .pointer none) rfl rfl rfl rfl (fun _ => by kernel_rfl) fun g w2 f2 => ?_
  have v2 : VBlk ptT w2 g [.pointer none] := f2.blk
  have e2 := f2.eq
  have b2 := b1.trans (f2.below.mono b1.size)
  have h2 := h1.below f2.below
  have z1 := b1.size
  clear f2 h1
  refine WL.store rfl rfl rfl rfl rfl rfl (by kernel_rfl) (VBlk.cell v2 0 (by simp)) (VBlk.free v2 0) ?_
  have v3 := VBlk.set v2 0 (.pointer (some ⟨t2, 0, none⟩))
  have k3 : Keep (fun b => b ≠ g) w2 (w2.setCell ⟨g, 0, none⟩ (.pointer (some ⟨t2, 0, none⟩))) := (Keep.refl _ _).setCell (p := ⟨g, 0, none⟩) (by simp) _
  have b3 : Below w.heap.size w (w2.setCell ⟨g, 0, none⟩ (.pointer (some ⟨t2, 0, none⟩))) := ((Keep.of_below b2).trans (k3.mono fun b (hb : b < w.heap.size) => by show b ≠ g; omega)).below
  have h3 : IsT (w2.setCell ⟨g, 0, none⟩ (.pointer (some ⟨t2, 0, none⟩))) st0 t2 [] := h2.keep k3 (fun b hb => absurd rfl hb) (fun e => by
    obtain ⟨cs, hv⟩ := h2.tree
    have hv' : w2.heap[t2]? = some (.cells cs.toArray treeT (0, 0)) := hv
    have hw : w2.heap[g]? = some (.cells [Value.pointer none].toArray ptT (0, 0)) := v2
    rw [e, hw] at hv'
    injection hv' with hv'
    injection hv' with _ hv' _
    exact absurd hv' (by decide))
  generalize w2.setCell ⟨g, 0, none⟩ (.pointer (some ⟨t2, 0, none⟩)) = w3 at v3 b3 h3 ⊢
  clear v2 k3 h2 b2 b1
  repeat (first | ((with_reducible refine WL.topT ?_ ?_); omega) | ((with_reducible refine WL.topF ?_ ?_); omega) | ((with_reducible refine WL.top64 ?_ ?_); omega) | refine WC.seq ?_ | refine WC.block ?_ | refine WC.region ?_ | refine WL.nil ?_ | refine WC.skip ?_ | refine WC.exit ?_ | refine WC.ret ?_ | refine WQ.then rfl ?_ | refine WQ.thenExit ?_ | refine WQ.thenRet ?_ | refine WQ.blk ?_ | refine WQ.blkRet ?_ | refine WQ.blkHere rfl ?_ | refine WQ.blkOther rfl ?_ | refine WL.pure rfl rfl rfl rfl ?_ | refine WL.on rfl rfl ?_ | refine WL.off rfl rfl rfl ?_ | refine WC.condTrue rfl ?_ | refine WC.condFalse rfl ?_)
  refine WL.call rfl rfl rfl rfl rfl Try.func12 rfl (by kernel_rfl) (trange_any (some ⟨tb, 0, none⟩) ⟨#[]⟩ ⟨#[]⟩) ?_
  rintro _ w4 ⟨b4, g1, g2, g3, rfl, hc4⟩
  refine ⟨_, rfl, ?_⟩
  have v4 := VBlk.below v3 b4 (VBlk.lt v3)
  have h4 := h3.below b4
  have bw4 := b3.trans (b4.mono b3.size)
  have ho4 := h.below bw4
  clear v3 h3 b3 b4
  have hr := range1_any hc4 (L := l) (by omega) (fun W hW => by
    have := tall_any (ho4.below hW) ⟨#[]⟩ ⟨#[]⟩ (by omega)
    rw [flt_every] at this
    exact this)
  repeat (first | ((with_reducible refine WL.topT ?_ ?_); omega) | ((with_reducible refine WL.topF ?_ ?_); omega) | ((with_reducible refine WL.top64 ?_ ?_); omega) | refine WC.seq ?_ | refine WC.region ?_ | refine WL.nil ?_ | refine WC.skip ?_ | refine WC.exit ?_ | refine WC.ret ?_ | refine WQ.then rfl ?_ | refine WQ.thenExit ?_ | refine WQ.thenRet ?_ | refine WQ.blk ?_ | refine WQ.blkRet ?_ | refine WQ.blkHere rfl ?_ | refine WQ.blkOther rfl ?_ | refine WL.pure rfl rfl rfl rfl ?_ | refine WL.on rfl rfl ?_ | refine WL.off rfl rfl rfl ?_ | refine WL.load rfl rfl rfl rfl rfl rfl (by assumption) ?_ | refine WC.condTrue rfl ?_ | refine WC.condFalse rfl ?_)
  refine WC.block ?_
  refine WC.rangeF rfl (enters_of Try.func28 (by kernel_rfl) rfl) hr (fun _ => rfl) rfl
    (fun pre W => VBlk ptT W g [.pointer (some ⟨t2, 0, none⟩)] ∧ Below w.heap.size w W ∧ ∃ st', IsT W st' t2 (putAll pre) ∧ ∀ x, st' x ≠ none → w.heap.size ≤ x) (fun _ _ _ => False) ?_ (fun _ _ _ _ _ h _ _ => h) ?_
    (fun x => [(3, .pointer (some ⟨g, 0, none⟩)), (4, .string x.1), (5, .int .i64 x.2)]) ?_ ?_ ?_ (fun _ _ _ _ _ _ h _ => h.elim)
  · exact own_stays fun pre W W' h hk => ⟨VBlk.keep h.1 hk (.inr (VBlk.isC h.1)), stays_below h.2.1 hk bw4.size h.2.1.size, by obtain ⟨st', x1, x2⟩ := h.2.2; exact ⟨st', x1.stays hk, x2⟩⟩
  · exact ⟨v4, bw4, st0, h4, fun x hx => absurd rfl hx⟩
  · intro lp x W
    repeat (first | ((with_reducible refine WL.topT ?_ ?_); omega) | ((with_reducible refine WL.topF ?_ ?_); omega) | ((with_reducible refine WL.top64 ?_ ?_); omega) | refine WC.seq ?_ | refine WC.block ?_ | refine WC.region ?_ | refine WL.nil ?_ | refine WC.skip ?_ | refine WC.exit ?_ | refine WC.ret ?_ | refine WQ.then rfl ?_ | refine WQ.thenExit ?_ | refine WQ.thenRet ?_ | refine WQ.blk ?_ | refine WQ.blkRet ?_ | refine WQ.blkHere rfl ?_ | refine WQ.blkOther rfl ?_ | refine WL.pure rfl rfl rfl rfl ?_ | refine WL.on rfl rfl ?_ | refine WL.off rfl rfl rfl ?_ | refine WC.condTrue rfl ?_ | refine WC.condFalse rfl ?_)
    exact WQ.meet () ⟨rfl, rfl, rfl, trivial⟩ rfl
  · rintro lp pre x W - - ⟨vg, bW, st', hT, hst⟩ hlen
    have hpl := putAll_len pre
    repeat (first | ((with_reducible refine WL.topT ?_ ?_); omega) | ((with_reducible refine WL.topF ?_ ?_); omega) | ((with_reducible refine WL.top64 ?_ ?_); omega) | refine WC.seq ?_ | refine WC.block ?_ | refine WC.region ?_ | refine WL.nil ?_ | refine WC.skip ?_ | refine WC.exit ?_ | refine WC.ret ?_ | refine WQ.then rfl ?_ | refine WQ.thenExit ?_ | refine WQ.thenRet ?_ | refine WQ.blk ?_ | refine WQ.blkRet ?_ | refine WQ.blkHere rfl ?_ | refine WQ.blkOther rfl ?_ | refine WL.pure rfl rfl rfl rfl ?_ | refine WL.on rfl rfl ?_ | refine WL.off rfl rfl rfl ?_ | refine WC.condTrue rfl ?_ | refine WC.condFalse rfl ?_)
    refine WL.load rfl rfl rfl rfl rfl rfl (VBlk.cell vg 0 (by simp)) ?_
    repeat (first | ((with_reducible refine WL.topT ?_ ?_); omega) | ((with_reducible refine WL.topF ?_ ?_); omega) | ((with_reducible refine WL.top64 ?_ ?_); omega) | refine WC.seq ?_ | refine WC.block ?_ | refine WC.region ?_ | refine WL.nil ?_ | refine WC.skip ?_ | refine WC.exit ?_ | refine WC.ret ?_ | refine WQ.then rfl ?_ | refine WQ.thenExit ?_ | refine WQ.thenRet ?_ | refine WQ.blk ?_ | refine WQ.blkRet ?_ | refine WQ.blkHere rfl ?_ | refine WQ.blkOther rfl ?_ | refine WL.pure rfl rfl rfl rfl ?_ | refine WL.on rfl rfl ?_ | refine WL.off rfl rfl rfl ?_ | refine WC.condTrue rfl ?_ | refine WC.condFalse rfl ?_)
    refine WL.call rfl rfl rfl rfl rfl Try.func11 rfl (by kernel_rfl) (tput_any hT x.1 x.2 (by omega)) ?_
    rintro _ W2 ⟨st2, rfl, hT2, hk2, hn2⟩
    refine ⟨_, rfl, ?_⟩
    have hb2 := IsT.old hk2 bW.size (Nat.le_trans (Nat.le_refl _) ht2) hst
    repeat (first | ((with_reducible refine WL.topT ?_ ?_); omega) | ((with_reducible refine WL.topF ?_ ?_); omega) | ((with_reducible refine WL.top64 ?_ ?_); omega) | refine WC.seq ?_ | refine WC.block ?_ | refine WC.region ?_ | refine WL.nil ?_ | refine WC.skip ?_ | refine WC.exit ?_ | refine WC.ret ?_ | refine WQ.then rfl ?_ | refine WQ.thenExit ?_ | refine WQ.thenRet ?_ | refine WQ.blk ?_ | refine WQ.blkRet ?_ | refine WQ.blkHere rfl ?_ | refine WQ.blkOther rfl ?_ | refine WL.pure rfl rfl rfl rfl ?_ | refine WL.on rfl rfl ?_ | refine WL.off rfl rfl rfl ?_ | refine WC.condTrue rfl ?_ | refine WC.condFalse rfl ?_)
    refine ⟨fun _ _ => ⟨keepsFrom hk2 fun b o _ hb hc => hT.other hb fun cur y => ⟨fun e => (by rw [e] at hc; cases hc), fun e => (by rw [e] at hc; cases hc)⟩, KpT.keep hk2 fun b cur y hb => hT.other hb fun cur' y' => ⟨fun e => ?_, fun e => ?_⟩, ?_, ?_, st2, ?_, ?_⟩⟩
    · injection e with _ e _; exact absurd e (by decide)
    · injection e with _ e _; exact absurd e (by decide)
    · exact VBlk.keep vg hk2 (hT.other vg fun cur' y' => ⟨fun e => (by injection e with _ e _; exact absurd e (by decide)), fun e => (by injection e with _ e _; exact absurd e (by decide))⟩)
    · exact bW.trans hb2
    · rw [putAll_snoc]; exact hT2
    · exact hn2.old bW.size hst
  · rintro D xs W hD rfl ⟨vg, bW, st', hT, hst⟩ hm
    rw [putAll_all hsl] at hT
    have m1 : MarkAt W [D] := ⟨by simp, fun E hE => (by simpa using hE : E = D) ▸ hm⟩
    have hks := shut_keep [D] W
    repeat (first | ((with_reducible refine WL.topT ?_ ?_); omega) | ((with_reducible refine WL.topF ?_ ?_); omega) | ((with_reducible refine WL.top64 ?_ ?_); omega) | refine WC.seq ?_ | refine WC.block ?_ | refine WC.region ?_ | refine WL.nil ?_ | refine WC.skip ?_ | refine WC.exit ?_ | refine WC.ret ?_ | refine WQ.then rfl ?_ | refine WQ.thenExit ?_ | refine WQ.thenRet ?_ | refine WQ.blk ?_ | refine WQ.blkRet ?_ | refine WQ.blkHere rfl ?_ | refine WQ.blkOther rfl ?_ | refine WL.pure rfl rfl rfl rfl ?_ | refine WL.on rfl rfl ?_ | refine WL.off rfl rfl rfl ?_ | refine WC.condTrue rfl ?_ | refine WC.condFalse rfl ?_)
    refine WL.load rfl rfl rfl rfl rfl rfl (VBlk.cell vg 0 (by simp)) ?_
    repeat (first | ((with_reducible refine WL.topT ?_ ?_); omega) | ((with_reducible refine WL.topF ?_ ?_); omega) | ((with_reducible refine WL.top64 ?_ ?_); omega) | refine WC.seq ?_ | refine WC.block ?_ | refine WC.region ?_ | refine WL.nil ?_ | refine WC.skip ?_ | refine WC.exit ?_ | refine WC.ret ?_ | refine WQ.then rfl ?_ | refine WQ.thenExit ?_ | refine WQ.thenRet ?_ | refine WQ.blk ?_ | refine WQ.blkRet ?_ | refine WQ.blkHere rfl ?_ | refine WQ.blkOther rfl ?_ | refine WL.pure rfl rfl rfl rfl ?_ | refine WL.on rfl rfl ?_ | refine WL.off rfl rfl rfl ?_ | refine WC.condTrue rfl ?_ | refine WC.condFalse rfl ?_)
    refine WQ.retM1 [D] rfl rfl m1 ⟨t2, st', rfl, hT.keep hks (fun b hb => ?_) ?_, (bW.trans ((hks.mono fun b (hb : b < w.heap.size) hE => ?_) : Keep (fun b => b < w.heap.size) W _).below), ht2, hst⟩
    · cases e : st' b with
      | none => exact absurd e hb
      | some nd => obtain ⟨-, pv, hv⟩ := hT.mem b nd e; exact shut_isC m1 (VBlk.isC hv)
    · obtain ⟨cs, hv⟩ := hT.tree; exact shut_isC m1 (VBlk.isC hv)
    · obtain rfl : b = D := by simpa using hE
      have := bw4.size
      omega
end K
end Go.Proofs.Ytilmfnlaenneeaa
