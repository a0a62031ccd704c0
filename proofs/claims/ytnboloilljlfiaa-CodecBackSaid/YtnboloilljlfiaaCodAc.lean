/- Chapter 7: Encode; the laws' known; how long the bytes of what is not too great are. -/
import Derived.Test.YtnboloilljlfiaaCodAa
import Derived.Test.YtnboloilljlfiaaCodAb
import Derived.Test.YtnboloilljlfiaaCodL
import Derived.Test.YtnboloilljlfiaaGr7
import Derived.Test.YtnboloilljlfiaaGrt
namespace Go.Proofs.Ytnboloilljlfiaa
open Go.RowKit
namespace K

/-- What Encode tells. -/
def encR (v : V) : List Int × Int := if chk 16 v ≠ 0 then ([], chk 16 v) else if 65536 < (encV 16 v).length then ([], 5) else (encV 16 v, 0)
def EncPost (w : World) (v : V) (e : Ending) (w' : World) : Prop := ∃ b, e = .returned (.tuple #[b, .int .i64 (encR v).2]) ∧ Bu w' b (encR v).1 ∧ Below w.heap.size w w' ∧ ∀ g, b.ownBlock = some g → w.heap.size ≤ g
theorem encode_any {f : Nat} {w : World} {v : V} {cs : List Value} (h : IsV f w v cs) (hlen : chk 16 v = 0 → (encV 16 v).length ≤ 70368744177664) :
    Calls Try.prog 8 #[.agg cs.toArray] w (EncPost w v) := by
  have hcs := h.len
  refine enter (args := [.agg cs.toArray]) Try.func8 rfl Try.ntmps8 rfl ?_
  repeat (first | ((with_reducible refine WL.topT ?_ ?_); omega) | ((with_reducible refine WL.topF ?_ ?_); omega) | ((with_reducible refine WL.top64 ?_ ?_); omega) | refine WC.seq ?_ | refine WC.block ?_ | refine WC.region ?_ | refine WL.nil ?_ | refine WC.skip ?_ | refine WC.exit ?_ | refine WC.ret ?_ | refine WQ.then rfl ?_ | refine WQ.thenExit ?_ | refine WQ.thenRet ?_ | refine WQ.blk ?_ | refine WQ.blkRet ?_ | refine WQ.blkHere rfl ?_ | refine WQ.blkOther rfl ?_ | refine WL.pure rfl rfl rfl rfl ?_ | refine WL.on rfl rfl ?_ | refine WL.off rfl rfl rfl ?_ | refine WC.condTrue rfl ?_ | refine WC.condFalse rfl ?_)
  refine WL.box rfl rfl rfl rfl rfl fun g w1 hf => ?_
  have hf' : Fresh w g w1 25 cs := hf
  clear hf
  have hz1 := hf'.size
  have h1 := h.below hf'.below
  repeat (first | ((with_reducible refine WL.topT ?_ ?_); omega) | ((with_reducible refine WL.topF ?_ ?_); omega) | ((with_reducible refine WL.top64 ?_ ?_); omega) | refine WC.seq ?_ | refine WC.block ?_ | refine WC.region ?_ | refine WL.nil ?_ | refine WC.skip ?_ | refine WC.exit ?_ | refine WC.ret ?_ | refine WQ.then rfl ?_ | refine WQ.thenExit ?_ | refine WQ.thenRet ?_ | refine WQ.blk ?_ | refine WQ.blkRet ?_ | refine WQ.blkHere rfl ?_ | refine WQ.blkOther rfl ?_ | refine WL.pure rfl rfl rfl rfl ?_ | refine WL.on rfl rfl ?_ | refine WL.off rfl rfl rfl ?_ | refine WC.condTrue rfl ?_ | refine WC.condFalse rfl ?_)
  refine WL.loadMid rfl rfl rfl rfl rfl rfl (VBlk.rangeAt hf'.blk) hcs ?_
  refine WL.call rfl rfl rfl rfl rfl Try.func18 rfl (by kernel_rfl) (Vl.Check_any h1) ?_
  rintro _ w2 ⟨rfl, hb2⟩
  refine ⟨_, rfl, ?_⟩
  have hw2 : Below w.heap.size w w2 := hf'.below.trans (hb2.mono (by omega))
  by_cases hc : chk 16 v = 0
  · repeat (first | ((with_reducible refine WL.topT ?_ ?_); omega) | ((with_reducible refine WL.topF ?_ ?_); omega) | ((with_reducible refine WL.top64 ?_ ?_); omega) | refine WC.seq ?_ | refine WC.block ?_ | refine WC.region ?_ | refine WL.nil ?_ | refine WC.skip ?_ | refine WC.exit ?_ | refine WC.ret ?_ | refine WQ.then rfl ?_ | refine WQ.thenExit ?_ | refine WQ.thenRet ?_ | refine WQ.blk ?_ | refine WQ.blkRet ?_ | refine WQ.blkHere rfl ?_ | refine WQ.blkOther rfl ?_ | refine WL.pure rfl rfl rfl rfl ?_ | refine WL.on rfl rfl ?_ | refine WL.off rfl rfl rfl ?_ | refine WC.condTrue rfl ?_ | refine WC.condFalse rfl ?_)
    refine WL.loadMid rfl rfl rfl rfl rfl rfl (VBlk.rangeAt (hf'.blk.below hb2 hf'.blk.lt)) hcs ?_
    refine WL.call rfl rfl rfl rfl rfl Try.func19 rfl (by kernel_rfl) (clay_all 16 (h1.below hb2) hc (Bu.nil w2) ⟨Below.refl _ _, fun g hg => by cases hg⟩ (by have := hlen hc; simp only [List.length_nil]; omega)) ?_
    rintro _ w3 ⟨b, rfl, hb, hg⟩
    refine ⟨_, rfl, ?_⟩
    rw [List.nil_append] at hb
    obtain ⟨sp, cap, rfl, hl1, hl2⟩ := hb.form
    have hw3 : Below w.heap.size w w3 := hw2.trans (hg.old (B := w.heap.size) (hw2.size) fun g h => by cases h)
    by_cases hbig : 65536 < (encV 16 v).length
    · have hr : encR v = ([], 5) := by unfold encR; rw [if_neg (by simpa using hc), if_pos hbig]
      repeat (first | ((with_reducible refine WL.topT ?_ ?_); omega) | ((with_reducible refine WL.topF ?_ ?_); omega) | ((with_reducible refine WL.top64 ?_ ?_); omega) | refine WC.seq ?_ | refine WC.block ?_ | refine WC.region ?_ | refine WL.nil ?_ | refine WC.skip ?_ | refine WC.exit ?_ | refine WC.ret ?_ | refine WQ.then rfl ?_ | refine WQ.thenExit ?_ | refine WQ.thenRet ?_ | refine WQ.blk ?_ | refine WQ.blkRet ?_ | refine WQ.blkHere rfl ?_ | refine WQ.blkOther rfl ?_ | refine WL.pure rfl rfl rfl rfl ?_ | refine WL.on rfl rfl ?_ | refine WL.off rfl rfl rfl ?_ | refine WC.condTrue rfl ?_ | refine WC.condFalse rfl ?_)
      exact WQ.ret2 rfl rfl rfl ⟨_, by rw [hr], by rw [hr]; exact Bu.nil _, hw3, fun g hg => by cases hg⟩
    · have hr : encR v = (encV 16 v, 0) := by unfold encR; rw [if_neg (by simpa using hc), if_neg hbig]
      repeat (first | ((with_reducible refine WL.topT ?_ ?_); omega) | ((with_reducible refine WL.topF ?_ ?_); omega) | ((with_reducible refine WL.top64 ?_ ?_); omega) | refine WC.seq ?_ | refine WC.block ?_ | refine WC.region ?_ | refine WL.nil ?_ | refine WC.skip ?_ | refine WC.exit ?_ | refine WC.ret ?_ | refine WQ.then rfl ?_ | refine WQ.thenExit ?_ | refine WQ.thenRet ?_ | refine WQ.blk ?_ | refine WQ.blkRet ?_ | refine WQ.blkHere rfl ?_ | refine WQ.blkOther rfl ?_ | refine WL.pure rfl rfl rfl rfl ?_ | refine WL.on rfl rfl ?_ | refine WL.off rfl rfl rfl ?_ | refine WC.condTrue rfl ?_ | refine WC.condFalse rfl ?_)
      exact WQ.ret2 rfl rfl rfl ⟨_, by rw [hr], by rw [hr]; exact hb, hw3, fun g h => (hg.2 g h).elim (fun h2 => by cases h2) fun h2 => by have := hw2.size; omega⟩
  · have hr : encR v = ([], chk 16 v) := by unfold encR; rw [if_pos hc]
    repeat (first | ((with_reducible refine WL.topT ?_ ?_); omega) | ((with_reducible refine WL.topF ?_ ?_); omega) | ((with_reducible refine WL.top64 ?_ ?_); omega) | refine WC.seq ?_ | refine WC.block ?_ | refine WC.region ?_ | refine WL.nil ?_ | refine WC.skip ?_ | refine WC.exit ?_ | refine WC.ret ?_ | refine WQ.then rfl ?_ | refine WQ.thenExit ?_ | refine WQ.thenRet ?_ | refine WQ.blk ?_ | refine WQ.blkRet ?_ | refine WQ.blkHere rfl ?_ | refine WQ.blkOther rfl ?_ | refine WL.pure rfl rfl rfl rfl ?_ | refine WL.on rfl rfl ?_ | refine WL.off rfl rfl rfl ?_ | refine WC.condTrue rfl ?_ | refine WC.condFalse rfl ?_)
    exact WQ.ret2 rfl rfl rfl ⟨_, by rw [hr], by rw [hr]; exact Bu.nil _, hw2, fun g hg => by cases hg⟩

theorem known_enc : encR (.mk 3 (-1) 0 noT [] []) = ([3, 1], 0) := by rfl
theorem known_dec : readV true [6, 2, 97, 98] = .ok (.mk 6 0 0 ⟨#[97, 98]⟩ [] []) [] := by rfl
set_option maxHeartbeats 1000000 in
theorem known7_any (w : World) : Calls Try.prog 9 #[] w fun e w' => e = .returned (.bool true) ∧ Below w.heap.size w w' := by
  refine enter (args := []) Try.func9 rfl Try.ntmps9 rfl ?_
  repeat (first | ((with_reducible refine WL.topT ?_ ?_); omega) | ((with_reducible refine WL.topF ?_ ?_); omega) | ((with_reducible refine WL.top64 ?_ ?_); omega) | refine WC.seq ?_ | refine WC.block ?_ | refine WC.region ?_ | refine WL.nil ?_ | refine WC.skip ?_ | refine WC.exit ?_ | refine WC.ret ?_ | refine WQ.then rfl ?_ | refine WQ.thenExit ?_ | refine WQ.thenRet ?_ | refine WQ.blk ?_ | refine WQ.blkRet ?_ | refine WQ.blkHere rfl ?_ | refine WQ.blkOther rfl ?_ | refine WL.pure rfl rfl rfl rfl ?_ | refine WL.on rfl rfl ?_ | refine WL.off rfl rfl rfl ?_ | refine WC.condTrue rfl ?_ | refine WC.condFalse rfl ?_)
  refine WL.build [.int .i64 3, .int .i64 (-1), .int .i64 0, .string ByteArray.empty, .slice none 0 0, .slice none 0 0] rfl rfl rfl rfl rfl (by kernel_rfl) ?_
  have hv : IsVo (fun _ => True) 1 w (.mk 3 (-1) 0 noT [] []) [.int .i64 3, .int .i64 (-1), .int .i64 0, .string ByteArray.empty, .slice none 0 0, .slice none 0 0] := isVo_leaf (by omega) (by omega) (by omega) (by decide)
  refine WL.call rfl rfl rfl rfl rfl Try.func8 rfl (by kernel_rfl) (encode_any hv.isV fun _ => by decide) ?_
  rintro _ w1 ⟨b1, rfl, hb1, hk1, hg1⟩
  refine ⟨_, rfl, ?_⟩
  rw [known_enc] at hb1 ⊢
  simp only at hb1
  repeat (first | ((with_reducible refine WL.topT ?_ ?_); omega) | ((with_reducible refine WL.topF ?_ ?_); omega) | ((with_reducible refine WL.top64 ?_ ?_); omega) | refine WC.seq ?_ | refine WC.block ?_ | refine WC.region ?_ | refine WL.nil ?_ | refine WC.skip ?_ | refine WC.exit ?_ | refine WC.ret ?_ | refine WQ.then rfl ?_ | refine WQ.thenExit ?_ | refine WQ.thenRet ?_ | refine WQ.blk ?_ | refine WQ.blkRet ?_ | refine WQ.blkHere rfl ?_ | refine WQ.blkOther rfl ?_ | refine WL.pure rfl rfl rfl rfl ?_ | refine WL.on rfl rfl ?_ | refine WL.off rfl rfl rfl ?_ | refine WC.condTrue rfl ?_ | refine WC.condFalse rfl ?_)
  refine WL.lit rfl rfl rfl rfl rfl rfl rfl fun b2 w2 hb2 hk2 hg2 => ?_
  refine WL.call rfl rfl rfl rfl rfl Try.func12 rfl (by kernel_rfl) (decode_any hb2.sl (by intro c hc; simp at hc; omega) (by decide)) ?_
  rintro _ w3 ⟨hk3, x, cs, e, rfl, hx, hm⟩
  refine ⟨_, rfl, ?_⟩
  rw [known_dec] at hm
  obtain ⟨rfl, rfl⟩ := hm
  have hcs := hx.len
  have hcs1 := hx.one
  obtain ⟨sn, sk, hcse, -⟩ := hx
  have hcse' : cs = [.int .i64 6, .int .i64 0, .int .i64 0, .string ⟨#[97, 98]⟩, sn, sk] := hcse
  subst hcse'
  clear hcse
  have hw3 : Below w.heap.size w w3 := hk1.trans ((hk2.mono hk1.size).trans (hk3.mono (Nat.le_trans hk1.size hk2.size)))
  repeat (first | ((with_reducible refine WL.topT ?_ ?_); omega) | ((with_reducible refine WL.topF ?_ ?_); omega) | ((with_reducible refine WL.top64 ?_ ?_); omega) | refine WC.seq ?_ | refine WC.block ?_ | refine WC.region ?_ | refine WL.nil ?_ | refine WC.skip ?_ | refine WC.exit ?_ | refine WC.ret ?_ | refine WQ.then rfl ?_ | refine WQ.thenExit ?_ | refine WQ.thenRet ?_ | refine WQ.blk ?_ | refine WQ.blkRet ?_ | refine WQ.blkHere rfl ?_ | refine WQ.blkOther rfl ?_ | refine WL.pure rfl rfl rfl rfl ?_ | refine WL.on rfl rfl ?_ | refine WL.off rfl rfl rfl ?_ | refine WC.condTrue rfl ?_ | refine WC.condFalse rfl ?_)
  refine WL.alloc (z := .agg zCells.toArray) rfl rfl rfl rfl (fun _ => by kernel_rfl) fun xb w4 hf4 => ?_
  have hf4' : Fresh w3 xb w4 25 zCells := hf4
  clear hf4
  refine WL.storeRow rfl rfl rfl rfl rfl rfl hf4'.blk hcs rfl hcs1 ?_
  have hxb := hf4'.eq
  have hx5 := hf4'.blk.setRow [.int .i64 6, .int .i64 0, .int .i64 0, .string ⟨#[97, 98]⟩, sn, sk]
  have hb5 : Below w3.heap.size w3 (w4.setRow xb [.int .i64 6, .int .i64 0, .int .i64 0, .string ⟨#[97, 98]⟩, sn, sk].toArray) := below_setRow hf4'.below (by omega) _
  have hs1 := ((hb1.below hk2).below hk3).below hb5
  generalize w4.setRow xb [.int .i64 6, .int .i64 0, .int .i64 0, .string ⟨#[97, 98]⟩, sn, sk].toArray = w5 at hb5 hx5 hs1
  have hw5 : Below w.heap.size w w5 := hw3.trans (hb5.mono hw3.size)
  clear hf4'
  repeat (first | ((with_reducible refine WL.topT ?_ ?_); omega) | ((with_reducible refine WL.topF ?_ ?_); omega) | ((with_reducible refine WL.top64 ?_ ?_); omega) | refine WC.seq ?_ | refine WC.block ?_ | refine WC.region ?_ | refine WL.nil ?_ | refine WC.skip ?_ | refine WC.exit ?_ | refine WC.ret ?_ | refine WQ.then rfl ?_ | refine WQ.thenExit ?_ | refine WQ.thenRet ?_ | refine WQ.blk ?_ | refine WQ.blkRet ?_ | refine WQ.blkHere rfl ?_ | refine WQ.blkOther rfl ?_ | refine WL.pure rfl rfl rfl rfl ?_ | refine WL.on rfl rfl ?_ | refine WL.off rfl rfl rfl ?_ | refine WC.condTrue rfl ?_ | refine WC.condFalse rfl ?_)
  refine WL.lit rfl rfl rfl rfl rfl rfl rfl fun b6 w6 hb6 hk6 hg6 => ?_
  refine WL.on rfl rfl ?_
  refine WL.call rfl rfl rfl rfl rfl Try.func10 rfl (by kernel_rfl) (same7_any (hs1.below hk6).sl hb6.sl) ?_
  rintro _ w7 ⟨rfl, hk7⟩
  refine ⟨_, rfl, ?_⟩
  have hx7 := (hx5.below hk6 hx5.lt).below hk7 (Nat.lt_of_lt_of_le hx5.lt hk6.size)
  refine WL.as 20 (.bool true) rfl (congrArg Value.bool (decide_eq_true rfl)) ?_
  repeat (first | ((with_reducible refine WL.topT ?_ ?_); omega) | ((with_reducible refine WL.topF ?_ ?_); omega) | ((with_reducible refine WL.top64 ?_ ?_); omega) | refine WC.seq ?_ | refine WC.block ?_ | refine WC.region ?_ | refine WL.nil ?_ | refine WC.skip ?_ | refine WC.exit ?_ | refine WC.ret ?_ | refine WQ.then rfl ?_ | refine WQ.thenExit ?_ | refine WQ.thenRet ?_ | refine WQ.blk ?_ | refine WQ.blkRet ?_ | refine WQ.blkHere rfl ?_ | refine WQ.blkOther rfl ?_ | refine WL.pure rfl rfl rfl rfl ?_ | refine WL.on rfl rfl ?_ | refine WL.off rfl rfl rfl ?_ | refine WC.condTrue rfl ?_ | refine WC.condFalse rfl ?_)
  refine WL.load rfl rfl rfl rfl rfl rfl (hx7.cell 0 (by simp)) ?_
  repeat (first | ((with_reducible refine WL.topT ?_ ?_); omega) | ((with_reducible refine WL.topF ?_ ?_); omega) | ((with_reducible refine WL.top64 ?_ ?_); omega) | refine WC.seq ?_ | refine WC.block ?_ | refine WC.region ?_ | refine WL.nil ?_ | refine WC.skip ?_ | refine WC.exit ?_ | refine WC.ret ?_ | refine WQ.then rfl ?_ | refine WQ.thenExit ?_ | refine WQ.thenRet ?_ | refine WQ.blk ?_ | refine WQ.blkRet ?_ | refine WQ.blkHere rfl ?_ | refine WQ.blkOther rfl ?_ | refine WL.pure rfl rfl rfl rfl ?_ | refine WL.on rfl rfl ?_ | refine WL.off rfl rfl rfl ?_ | refine WC.condTrue rfl ?_ | refine WC.condFalse rfl ?_)
  refine WL.load rfl rfl rfl rfl rfl rfl (hx7.cell 3 (by simp)) ?_
  repeat (first | ((with_reducible refine WL.topT ?_ ?_); omega) | ((with_reducible refine WL.topF ?_ ?_); omega) | ((with_reducible refine WL.top64 ?_ ?_); omega) | refine WC.seq ?_ | refine WC.block ?_ | refine WC.region ?_ | refine WL.nil ?_ | refine WC.skip ?_ | refine WC.exit ?_ | refine WC.ret ?_ | refine WQ.then rfl ?_ | refine WQ.thenExit ?_ | refine WQ.thenRet ?_ | refine WQ.blk ?_ | refine WQ.blkRet ?_ | refine WQ.blkHere rfl ?_ | refine WQ.blkOther rfl ?_ | refine WL.pure rfl rfl rfl rfl ?_ | refine WL.on rfl rfl ?_ | refine WL.off rfl rfl rfl ?_ | refine WC.condTrue rfl ?_ | refine WC.condFalse rfl ?_)
  exact WQ.ret1 rfl rfl ⟨by simp, hw5.trans ((hk6.mono hw5.size).trans (hk7.mono (Nat.le_trans hw5.size hk6.size)))⟩
theorem uvB_len (u : Nat) : (uvB u).length ≤ 10 := uvF_len 10 u
theorem enc_pieces (ky : V → List Int) (st : Bool) (names : List ByteArray) (kids : List V) (hn : st = true → names.length = kids.length ∧ ∀ s ∈ names, s.size ≤ 40) :
    ((List.range kids.length).flatMap (pieceE ky st names kids)).length ≤ 50 * names.length + (kids.flatMap ky).length := by
  have key : ∀ i, i ≤ kids.length → ((List.range i).flatMap (pieceE ky st names kids)).length ≤ (if st then 50 * i else 0) + ((kids.take i).flatMap ky).length := by
    intro i
    induction i with
    | zero => intro _; simp
    | succ i ih =>
      intro hi
      have h1 := ih (by omega)
      have ht : kids.take (i + 1) = kids.take i ++ [kids.getD i noV] := by
        rw [List.take_add_one]
        simp [show i < kids.length by omega]
      rw [range_piece, List.length_append, ht, List.flatMap_append, List.length_append]
      have h2 : (pieceE ky st names kids i).length ≤ (if st then 50 else 0) + ([kids.getD i noV].flatMap ky).length := by
        unfold pieceE
        rw [List.length_append]
        cases st with
        | false => simp
        | true =>
          have hs : (names.getD i noT).size ≤ 40 := (hn rfl).2 _ (by have := (hn rfl).1; simp [show i < names.length by omega])
          have hu := uvB_len (names.getD i noT).size
          have hb := byI_len (names.getD i noT)
          generalize names.getD i noT = nm at hs hu hb ⊢
          generalize kids.getD i noV = kd
          simp
          omega
      generalize ((List.range i).flatMap (pieceE ky st names kids)).length = a1 at h1 ⊢
      generalize (pieceE ky st names kids i).length = a2 at h2 ⊢
      generalize ((kids.take i).flatMap ky).length = a3 at h1 ⊢
      generalize ([kids.getD i noV].flatMap ky).length = a4 at h2 ⊢
      cases st with
      | false => rw [if_neg (by simp)] at h1 h2 ⊢; omega
      | true => rw [if_pos rfl] at h1 h2 ⊢; omega
  have := key kids.length (Nat.le_refl _)
  rw [List.take_length] at this
  cases st with
  | false => rw [if_neg (by simp)] at this; omega
  | true => have h := (hn rfl).1; rw [if_pos rfl] at this; omega
theorem grtK_enc {B f m : Nat} (ih : ∀ (v : V) (n : Nat), Sml f v → chk m v = 0 → grt B f v n ≤ B → n ≤ grt B f v n ∧ (encV m v).length + 80 * n ≤ 80 * grt B f v n) :
    ∀ (l : List V) (n : Nat), (∀ x ∈ l, Sml f x ∧ chk m x = 0) → grtK B (grt B f) l n ≤ B → n ≤ grtK B (grt B f) l n ∧ (l.flatMap (encV m)).length + 80 * n ≤ 80 * grtK B (grt B f) l n
  | [], n, _, _ => by simp [grtK]
  | k :: r, n, h, hB => by
    unfold grtK at hB ⊢
    by_cases hn : n ≤ B
    · rw [if_pos hn] at hB ⊢
      have hk := h k List.mem_cons_self
      have hle : grt B f k n ≤ B := by
        rcases Nat.lt_or_ge B (grt B f k n) with h1 | h1
        · rw [grtK_over r h1] at hB; omega
        · exact h1
      have h1 := ih k n hk.1 hk.2 hle
      have h2 := grtK_enc ih r (grt B f k n) (fun x hx => h x (List.mem_cons_of_mem _ hx)) hB
      rw [List.flatMap_cons, List.length_append]
      omega
    · rw [if_neg hn] at hB; omega
theorem grt_enc {B : Nat} : ∀ (f m : Nat) (v : V) (n : Nat), Sml f v → chk m v = 0 → grt B f v n ≤ B → n ≤ grt B f v n ∧ (encV m v).length + 80 * n ≤ 80 * grt B f v n
  | 0, _, _, _, h, _, _ => h.elim
  | _ + 1, 0, _, _, _, h, _ => by cases h
  | f + 1, m + 1, v, n, hs, hc, hB => by
    obtain ⟨-, -, hsk⟩ := hs
    have hk : ∀ x ∈ v.kids, Sml f x ∧ chk m x = 0 := fun x hx => ⟨hsk _ hx, chk_mem hc hx⟩
    unfold grt at hB ⊢
    have h1 := grtK_enc (grt_enc f m) v.kids _ hk hB
    obtain ⟨-, -, -, -, -, -, -, f9⟩ := shp_form (chk_shp hc)
    refine ⟨by omega, ?_⟩
    have hbody : (encV (m + 1) v).length ≤ 40 + 20 * (v.t.size / 20) + 50 * v.names.length + (v.kids.flatMap (encV m)).length := by
      rw [encV_two, List.length_cons]
      have hu1 := uvB_len (zig v.n)
      have hu2 := uvB_len v.n.toNat
      have hu3 := uvB_len v.t.size
      have hu4 := uvB_len v.kids.length
      have hb := byI_len v.t
      have hp := enc_pieces (encV m) (decide (v.k = 9)) v.names v.kids fun h => f9 (of_decide_eq_true h)
      split
      · simp; omega
      split
      · omega
      split
      · simp; omega
      split
      · omega
      split
      · rw [List.length_append]; omega
      split
      · rw [List.length_append]; omega
      · simp; omega
    omega
end K
end Go.Proofs.Ytnboloilljlfiaa
