/- Texts for LawOrdBk, part 3 of 5. -/
import Derived.Test.YtfpakjbaiohcaaaZLawOrdBk2
namespace Go.Proofs.Ytfpakjbaiohcaaa
open Go.RowKit
namespace K

theorem keyV_two {m : Nat} {v : V} : keyV (m + 1) v = classI v.k ::
    (if v.k = 2 then [v.n] else if v.k = 3 ∨ v.k = 4 then numB v.n v.s else if v.k = 5 then bigI v.n else if v.k = 6 ∨ v.k = 7 then textK v.t.toList
     else if v.k = 8 ∨ v.k = 9 then (List.range v.kids.length).flatMap (pieceK (keyV m) (decide (v.k = 9)) v.names v.kids) ++ [0] else []) := rfl

set_option maxHeartbeats 8000000 in
theorem lay_any (m : Nat) (ih : ∀ {f : Nat} {w0 w : World} {v : V} {cs : List Value} {b : Value} {l : List Int}, IsV f w0 v cs → chk m v = 0 → Bu w b l → Apart w0 w b → l.length + (keyV m v).length ≤ 70368744177664 →
      Calls Try.prog 19 #[b, .agg cs.toArray] w fun e w' => ∃ b', e = .returned b' ∧ Bu w' b' (l ++ keyV m v) ∧ Grow w b w' b') {f : Nat} {w0 w : World} {v : V} {cs : List Value} {b : Value} {l : List Int}
    (hv : IsV f w0 v cs) (hc : chk (m + 1) v = 0) (hb : Bu w b l) (ha : Apart w0 w b) (hm : l.length + (keyV (m + 1) v).length ≤ 70368744177664) :
    Calls Try.prog 19 #[b, .agg cs.toArray] w fun e w' => ∃ b', e = .returned b' ∧ Bu w' b' (l ++ keyV (m + 1) v) ∧ Grow w b w' b' := by
  obtain ⟨hk, f2, f3, f4, f5, fk, ft, f9⟩ := shp_form (chk_shp hc); cases f with
  | zero => exact hv.elim
  | succ f =>
  obtain ⟨sn, sk, rfl, wk, wn, ws, -, hnames, hkids⟩ := hv; have hkey := keyV_two (m := m) (v := v); rw [hkey] at hm; have hn : -9223372036854775808 ≤ v.n ∧ v.n ≤ 9223372036854775807 := by simp [Lit.wf, IntKind.min, IntKind.max, IntKind.bits, IntKind.signed] at wn; omega
  refine enter (args := [b, .agg (six v sn sk).toArray]) Try.func19 rfl Try.ntmps19 rfl ?_; refine K.kgo ?_; refine WL.box rfl rfl rfl rfl rfl fun g w1 hf => ?_; have hf' : Fresh w g w1 37 (six v sn sk) := hf; clear hf; have hb1 : Bu w1 b l := hb.below hf'.below; have hg1 : Grow w b w1 b := (Grow.refl w b).below hf'.below; have ha1 : Apart w0 w1 b := ha.grow hg1; have hR : ∀ {wk vk}, Grow w1 b wk vk → VBlk 37 wk g (six v sn sk) := fun h => hf'.stand hb h; have hl1 : l.length + 1 ≤ 70368744177664 := by simp at hm; omega
  refine K.kgo ?_; refine WL.load rfl rfl rfl rfl rfl rfl ((hR (Grow.refl _ _)).cell 0 (by simp)) ?_; refine WL.call rfl rfl rfl rfl rfl Try.func30 rfl (by kernel_rfl) (class_any v.k w1 hk.1 hk.2) ?_; rintro e _ ⟨rfl, rfl⟩; refine ⟨_, rfl, ?_⟩; refine WL.push rfl rfl rfl rfl rfl rfl rfl rfl rfl rfl rfl (fun _ => rfl) rfl hb1 (by simp; omega) fun b2 w2 hb2 hg2 => ?_; refine K.kgo ?_; refine WL.load rfl rfl rfl rfl rfl rfl ((hR hg2).cell 0 (by simp)) ?_; have fin : ∀ {b' w' x}, Bu w' b' ((l ++ [classI v.k]) ++ x) → Grow w1 b w' b' → (classI v.k :: x = keyV (m + 1) v) → ∃ b'', Ending.returned b' = .returned b'' ∧ Bu w' b'' (l ++ keyV (m + 1) v) ∧ Grow w b w' b'' :=
    fun {b' w' x} h1 h2 h3 => ⟨b', rfl, by rw [← h3]; simpa using h1, hg1.trans h2⟩
  have hl2 : (l ++ [classI v.k]).length = l.length + 1 := by simp
  generalize hL : l ++ [classI v.k] = L at hb2 fin hl2; have hl3 : L.length + (keyV (m + 1) v).length ≤ 70368744177664 + 1 := by rw [hkey]; simp at hm ⊢; omega
  by_cases k1 : v.k = 1
  · refine K.kgo ?_
    refine WQ.ret1 rfl rfl (fin (x := []) (by simpa using hb2) hg2 ?_); rw [hkey]; simp [k1]
  by_cases k2 : v.k = 2
  · have hx := f2 k2
    have e8 : IntKind.u8.wrap v.n = v.n := by rw [IntKind.wrap_u8]; omega
    have hkx : keyV (m + 1) v = classI v.k :: [v.n] := by rw [hkey, if_pos k2]
    rw [hkx] at hl3; simp at hl3
    refine K.kgo ?_; refine WL.load rfl rfl rfl rfl rfl rfl ((hR hg2).cell 1 (by simp)) ?_; refine K.kgo ?_; refine WL.push rfl rfl rfl rfl rfl rfl rfl rfl rfl rfl rfl (fun _ => rfl) rfl hb2 (by simp; omega) fun b3 w3 hb3 hg3 => ?_; refine K.kgo ?_; refine WQ.ret1 rfl rfl (fin (x := [v.n]) ?_ (hg2.trans hg3) hkx.symm); rw [← e8]; exact hb3
  by_cases k34 : v.k = 3 ∨ v.k = 4
  · have hs : 0 ≤ v.s ∧ v.s ≤ 18 := by
      rcases k34 with h | h
      · have := f3 h; omega
      · have := f4 h; omega
    have hkx : keyV (m + 1) v = classI v.k :: numB v.n v.s := by rw [hkey, if_neg k2, if_pos k34]
    rw [hkx] at hl3; simp at hl3
    rcases k34 with k3 | k4
    all_goals
      refine K.kgo ?_; refine WL.load rfl rfl rfl rfl rfl rfl ((hR hg2).cell 1 (by simp)) ?_; refine K.kgo ?_; refine WL.load rfl rfl rfl rfl rfl rfl ((hR hg2).cell 2 (by simp)) ?_; refine WL.call rfl rfl rfl rfl rfl Try.func31 rfl (by kernel_rfl) (number_any v.n v.s w2 hn.1 hn.2 hs.1 hs.2) ?_; rintro e w3 ⟨b3, rfl, hb3, k3, g3⟩; refine ⟨_, rfl, ?_⟩; refine WL.app rfl rfl rfl rfl rfl (hb2.below k3) rfl hb3.sl (by omega) fun b4 w4 hb4 hg4 => ?_; refine K.kgo ?_; exact WQ.ret1 rfl rfl (fin hb4 (hg2.trans (((Grow.refl w2 b2).below k3).trans hg4)) hkx.symm)
  by_cases k5 : v.k = 5
  · have hx := f5 k5
    have e8 : IntKind.u64.wrap v.n = v.n := by rw [IntKind.wrap_u64]; omega
    have hkx : keyV (m + 1) v = classI v.k :: bigI v.n := by rw [hkey, if_neg k2, if_neg k34, if_pos k5]
    rw [hkx] at hl3; simp at hl3
    refine K.kgo ?_; refine WL.load rfl rfl rfl rfl rfl rfl ((hR hg2).cell 1 (by simp)) ?_; refine K.kgo ?_; refine WL.call rfl rfl rfl rfl rfl Try.func32 rfl (by kernel_rfl) (by rw [e8]; exact big_any v.n w2 hx.1 (by omega)) ?_; rintro e w3 ⟨b3, rfl, hb3, k3, g3⟩; refine ⟨_, rfl, ?_⟩; refine WL.app rfl rfl rfl rfl rfl (hb2.below k3) rfl hb3.sl (by omega) fun b4 w4 hb4 hg4 => ?_; refine K.kgo ?_; exact WQ.ret1 rfl rfl (fin hb4 (hg2.trans (((Grow.refl w2 b2).below k3).trans hg4)) hkx.symm)
  by_cases k67 : v.k = 6 ∨ v.k = 7
  · have hkx : keyV (m + 1) v = classI v.k :: textK v.t.toList := by rw [hkey, if_neg k2, if_neg k34, if_neg k5, if_pos k67]
    have htl := textP_le v.t.toList; have htz : v.t.toList.length = v.t.size := by rw [ByteArray.toList_eq]; rfl
    rcases k67 with k6 | k7
    all_goals
      refine K.kgo ?_; refine WL.load rfl rfl rfl rfl rfl rfl ((hR hg2).cell 3 (by simp)) ?_; refine WL.call rfl rfl rfl rfl rfl Try.func33 rfl (by kernel_rfl) (text_any v.t hb2 (by omega)) ?_; rintro e w3 ⟨b3, rfl, hb3, hg3⟩; refine ⟨_, rfl, ?_⟩; refine K.kgo ?_; exact WQ.ret1 rfl rfl (fin hb3 (hg2.trans hg3) hkx.symm)
  have k89 : v.k = 8 ∨ v.k = 9 := by omega
  obtain ⟨sp, cap, rfl, hcap1, hcap2, hrow⟩ := hkids; have hkx : keyV (m + 1) v = classI v.k :: ((List.range v.kids.length).flatMap (pieceK (keyV m) (decide (v.k = 9)) v.names v.kids) ++ [0]) := by rw [hkey, if_neg k2, if_neg k34, if_neg k5, if_neg k67, if_pos k89]
  rw [hkx] at hl3; simp only [List.length_cons, List.length_append, List.length_nil] at hl3; have hkid : ∀ j, j < v.kids.length → chk m (v.kids.getD j noV) = 0 := fun j hj => chk_kid hc hj; have round : ∀ i, i + 1 ≤ v.kids.length → ((List.range i).flatMap (pieceK (keyV m) (decide (v.k = 9)) v.names v.kids)).length + (pieceK (keyV m) (decide (v.k = 9)) v.names v.kids i).length ≤ ((List.range v.kids.length).flatMap (pieceK (keyV m) (decide (v.k = 9)) v.names v.kids)).length := fun i hi => by
    have := range_len_le (pieceK (keyV m) (decide (v.k = 9)) v.names v.kids) hi; rw [range_piece, List.length_append] at this; exact this
  by_cases k8 : v.k = 8
  · rw [show decide (v.k = 9) = false from decide_eq_false (by omega)] at hkx hl3 round
    generalize hT : ((List.range v.kids.length).flatMap (pieceK (keyV m) false v.names v.kids)).length = T at hl3 round; refine K.kgo ?_; refine WL.load rfl rfl rfl rfl rfl rfl ((hR hg2).cell 5 (by simp)) ?_; refine K.kgo ?_; refine WC.loop (fun i : Nat × Value => [(0, i.2), (3, .pointer (some ⟨g, 0, none⟩)), (52, .slice sp v.kids.length cap), (53, .int .i64 v.kids.length), (54, .int .i64 i.1)])
      (fun i w' => i.1 ≤ v.kids.length ∧ Bu w' i.2 (L ++ (List.range i.1).flatMap (pieceK (keyV m) false v.names v.kids)) ∧ Grow w1 b w' i.2) (fun i => v.kids.length - i.1) (0, b2)
      ⟨rfl, rfl, rfl, rfl, rfl, trivial⟩ ⟨Nat.zero_le _, by simpa using hb2, hg2⟩ ?_
    rintro ⟨i, bb⟩ wr ⟨hi, hbr, hgr⟩; simp only at hi hbr hgr ⊢
    by_cases hik : i < v.kids.length
    · obtain ⟨kb, ko, rfl, hkb, hcells⟩ := hrow (by omega)
      obtain ⟨c, hc6, hci, hcr⟩ := hcells i hik; have har := ha1.grow hgr; have hcr' : wr.rangeAt kb (ko + i * 6) c := fun j u hu => by rw [har.below.cell (p := ⟨kb, ko + i * 6 + j, none⟩) hkb]; exact hcr j u hu
      refine K.kgo ?_; refine WL.idx i (ko + i * 6) rfl rfl rfl rfl rfl rfl rfl rfl hik rfl ?_; refine WL.loadMid rfl rfl rfl rfl rfl rfl hcr' hc6 ?_; refine WL.alloc (z := .agg #[.int .i64 0, .int .i64 0, .int .i64 0, .string ByteArray.empty, .slice none 0 0, .slice none 0 0]) rfl rfl rfl rfl (fun _ => by kernel_rfl) fun g2 w2 hf2 => ?_; refine K.kgo ?_; refine WL.storeRow rfl rfl rfl rfl rfl rfl hf2.blk hc6 rfl (IsV.one hci) ?_; have hb3 : Below wr.heap.size wr (w2.setRow g2 c.toArray) := below_setRow hf2.below (by rw [hf2.eq]; exact Nat.le_refl _) _; have hblk : VBlk 37 (w2.setRow g2 c.toArray) g2 c := hf2.blk.setRow c; generalize w2.setRow g2 c.toArray = w3 at hb3 hblk; have hg3 : Grow w1 b w3 bb := hgr.below hb3; refine K.kgo ?_; refine WL.load rfl rfl rfl rfl rfl rfl ((hR hg3).cell 0 (by simp)) ?_; refine K.kgo ?_; refine WL.loadMid rfl rfl rfl rfl rfl rfl (VBlk.rangeAt hblk) hc6 ?_; have hpc : pieceK (keyV m) false v.names v.kids i = keyV m (v.kids.getD i noV) := rfl; have hro := round i hik; rw [hpc] at hro; refine WL.call rfl rfl rfl rfl rfl Try.func19 rfl (by kernel_rfl) (ih (w0 := w0) hci (hkid i hik) (hbr.below hb3) (ha1.grow hg3) (by rw [List.length_append]; omega)) ?_; rintro e w4 ⟨b4, rfl, hb4, hg4⟩; refine ⟨_, rfl, ?_⟩; refine K.kgo ?_; refine WQ.again (i + 1, b4) ⟨rfl, rfl, rfl, rfl, rfl, trivial⟩ ⟨hik, ?_, hg3.trans hg4⟩ (by show v.kids.length - (i + 1) < v.kids.length - i; omega)
      show Bu w4 b4 (L ++ (List.range (i + 1)).flatMap _)
      rw [range_piece, hpc, ← List.append_assoc]; exact hb4
    · obtain rfl : i = v.kids.length := by omega
      refine K.kgo ?_; refine WL.push rfl rfl rfl rfl rfl rfl rfl rfl rfl rfl rfl (fun _ => rfl) rfl hbr (by rw [List.length_append]; simp only [List.length_cons, List.length_nil]; omega) fun b3 w3 hb3 hg3 => ?_; refine K.kgo ?_; refine WQ.ret1 rfl rfl (fin ?_ (hgr.trans hg3) hkx.symm); rw [← List.append_assoc]; exact hb3
  have k9 : v.k = 9 := by omega
  obtain ⟨np, nc, rfl, nl, nc2, nsz, nr⟩ := hnames; have hnk := (f9 k9).1; rw [show decide (v.k = 9) = true from decide_eq_true k9] at hkx hl3 round; generalize hT : ((List.range v.kids.length).flatMap (pieceK (keyV m) true v.names v.kids)).length = T at hl3 round; refine K.kgo ?_; refine WL.load rfl rfl rfl rfl rfl rfl ((hR hg2).cell 5 (by simp)) ?_; refine K.kgo ?_; refine WC.loop (fun i : Nat × Value => [(0, i.2), (3, .pointer (some ⟨g, 0, none⟩)), (52, .slice sp v.kids.length cap), (53, .int .i64 v.kids.length), (54, .int .i64 i.1)])
    (fun i w' => i.1 ≤ v.kids.length ∧ Bu w' i.2 (L ++ (List.range i.1).flatMap (pieceK (keyV m) true v.names v.kids)) ∧ Grow w1 b w' i.2) (fun i => v.kids.length - i.1) (0, b2)
    ⟨rfl, rfl, rfl, rfl, rfl, trivial⟩ ⟨Nat.zero_le _, by simpa using hb2, hg2⟩ ?_
  rintro ⟨i, bb⟩ wr ⟨hi, hbr, hgr⟩; simp only at hi hbr hgr ⊢
  by_cases hik : i < v.kids.length
  · obtain ⟨kb, ko, rfl, hkb, hcells⟩ := hrow (by omega)
    obtain ⟨c, hc6, hci, hcr⟩ := hcells i hik; obtain ⟨nb, no, rfl, hnb, hnr⟩ := nr (by omega); have hnc := hnr i (by omega); have hnz := nsz i (by omega); have hns : (v.names.getD i noT).size ≤ 40 := (f9 k9).2 _ (by simp [show i < v.names.length by omega]); have har := ha1.grow hgr; have hcr' : wr.rangeAt kb (ko + i * 6) c := fun j u hu => by rw [har.below.cell (p := ⟨kb, ko + i * 6 + j, none⟩) hkb]; exact hcr j u hu
    have hro := round i hik; have hpc : pieceK (keyV m) true v.names v.kids i = 1 :: textK (v.names.getD i noT).toList ++ keyV m (v.kids.getD i noV) := rfl; rw [hpc] at hro; simp only [List.length_append, List.length_cons] at hro; refine K.kgo ?_; refine WL.idx i (ko + i * 6) rfl rfl rfl rfl rfl rfl rfl rfl hik rfl ?_; refine WL.loadMid rfl rfl rfl rfl rfl rfl hcr' hc6 ?_; refine WL.alloc (z := .agg #[.int .i64 0, .int .i64 0, .int .i64 0, .string ByteArray.empty, .slice none 0 0, .slice none 0 0]) rfl rfl rfl rfl (fun _ => by kernel_rfl) fun g2 w2 hf2 => ?_; refine K.kgo ?_; refine WL.storeRow rfl rfl rfl rfl rfl rfl hf2.blk hc6 rfl (IsV.one hci) ?_; have hb3 : Below wr.heap.size wr (w2.setRow g2 c.toArray) := below_setRow hf2.below (by rw [hf2.eq]; exact Nat.le_refl _) _; have hblk : VBlk 37 (w2.setRow g2 c.toArray) g2 c := hf2.blk.setRow c; have hgt : ∀ q, bb.ownBlock = some q → q ≠ g2 := fun q hq e => by have := hbr.lt q hq; rw [e, hf2.eq] at this; omega
    generalize w2.setRow g2 c.toArray = w3 at hb3 hblk; have hg3 : Grow w1 b w3 bb := hgr.below hb3; have hbr3 := hbr.below hb3; refine K.kgo ?_; refine WL.load rfl rfl rfl rfl rfl rfl ((hR hg3).cell 0 (by simp)) ?_; refine K.kgo ?_; refine WC.drawn 8 (fun wx => Below w0.heap.size w0 wx ∧ VBlk 37 wx g (six v (.slice (some ⟨nb, no, none⟩) v.names.length nc) (.slice (some ⟨kb, ko, none⟩) v.kids.length cap))) fun w4 hd4 => ?_; have har3 := ha1.grow hg3; have hS : Below w0.heap.size w0 w4 ∧ VBlk 37 w4 g (six v (.slice (some ⟨nb, no, none⟩) v.names.length nc) (.slice (some ⟨kb, ko, none⟩) v.kids.length cap)) := ⟨har3.below.trans (hd4.below _), (hR hg3).below (hd4.below _) (hR hg3).lt⟩; have hb4 : Bu w4 bb _ := hbr3.below (hd4.below _); have hg4 : Grow w1 b w4 bb := hg3.below (hd4.below _); have hblk4 : VBlk 37 w4 g2 c := hblk.below (hd4.below _) hblk.lt; refine K.fr [0] hS ?_; refine K.fr [3] hS ?_; refine K.wl 4 [6, 7, 8] rfl rfl rfl rfl rfl rfl rfl (fun wx hx => hx.2.cell 4 (by simp)) hS ?_; refine K.fr [5] hS ?_; refine K.wi 6 i (no + i) rfl rfl rfl rfl rfl rfl rfl rfl rfl (by omega) (by omega) (.inr hS) ?_; refine K.wl 7 [8] rfl rfl rfl rfl rfl rfl rfl (fun wx hx => (hx.1.cell (p := ⟨nb, no + i, none⟩) hnb).trans hnc) hS ?_; refine K.wo 1 ?_; refine WL.lit rfl rfl rfl rfl rfl rfl rfl fun u5 w5 hu5 hk5 hn5 => ?_; have hS5 : Below w0.heap.size w0 w5 ∧ VBlk 37 w5 g _ := ⟨hS.1.trans (hk5.mono hS.1.size), hS.2.below hk5 hS.2.lt⟩; refine K.di hS5 ?_; refine K.wo 2 ?_; refine WL.app rfl rfl rfl rfl rfl (hb4.below hk5) rfl hu5.sl (by rw [List.length_append]; simp only [List.length_cons, List.length_nil]; omega) fun b6 w6 hb6 hg6 => ?_; have hg6' : Grow w1 b w6 b6 := (hg4.below hk5).trans hg6; refine WL.nil (WQ.dk (.inr ⟨(ha1.grow hg6').below, hR hg6'⟩) ?_); refine K.wo 8 ?_; refine WL.call rfl rfl rfl rfl rfl Try.func33 rfl (by kernel_rfl) (text_any (v.names.getD i noT) hb6 (by rw [List.length_append, List.length_append]; simp only [List.length_cons, List.length_nil]; omega)) ?_; rintro e w7 ⟨b7, rfl, hb7, hg7⟩; refine ⟨_, rfl, ?_⟩; refine K.dl ?_; refine K.wo 9 ?_; refine WL.pure rfl rfl rfl rfl ?_; refine K.dl ?_; refine WD.done (by kernel_rfl) ?_; have hg7' : Grow w1 b w7 b7 := hg6'.trans hg7; have hblk7 : VBlk 37 w7 g2 c := ((hblk4.below hk5 hblk4.lt).keep (hg6.trans hg7).1 ⟨(hblk4.below hk5 hblk4.lt).lt, fun e => hgt _ e rfl⟩); have hl7 : (L ++ (List.range i).flatMap (pieceK (keyV m) true v.names v.kids) ++ [1] ++ textK (v.names.getD i noT).toList).length + (keyV m (v.kids.getD i noV)).length ≤ 70368744177664 := by
      rw [List.length_append, List.length_append, List.length_append]; simp only [List.length_cons, List.length_nil]; omega
    refine K.kgo ?_; refine WL.loadMid rfl rfl rfl rfl rfl rfl (VBlk.rangeAt hblk7) hc6 ?_; refine WL.call rfl rfl rfl rfl rfl Try.func19 rfl (by kernel_rfl) (ih (w0 := w0) hci (hkid i hik) hb7 (ha1.grow hg7') hl7) ?_; rintro e w8 ⟨b8, rfl, hb8, hg8⟩; refine ⟨_, rfl, ?_⟩; refine K.kgo ?_; refine WQ.again (i + 1, b8) ⟨rfl, rfl, rfl, rfl, rfl, trivial⟩ ⟨hik, ?_, hg7'.trans hg8⟩ (by show v.kids.length - (i + 1) < v.kids.length - i; omega)
    show Bu w8 b8 (L ++ (List.range (i + 1)).flatMap _)
    rw [range_piece, hpc]
    simpa using hb8
  · obtain rfl : i = v.kids.length := by omega
    refine K.kgo ?_; refine WL.push rfl rfl rfl rfl rfl rfl rfl rfl rfl rfl rfl (fun _ => rfl) rfl hbr (by rw [List.length_append]; simp only [List.length_cons, List.length_nil]; omega) fun b3 w3 hb3 hg3 => ?_; refine K.kgo ?_; refine WQ.ret1 rfl rfl (fin ?_ (hgr.trans hg3) hkx.symm); rw [← List.append_assoc]; exact hb3
theorem lay_all : ∀ (m : Nat) {f : Nat} {w0 w : World} {v : V} {cs : List Value} {b : Value} {l : List Int}, IsV f w0 v cs → chk m v = 0 → Bu w b l → Apart w0 w b → l.length + (keyV m v).length ≤ 70368744177664 →
      Calls Try.prog 19 #[b, .agg cs.toArray] w fun e w' => ∃ b', e = .returned b' ∧ Bu w' b' (l ++ keyV m v) ∧ Grow w b w' b'
  | 0, _, _, _, _, _, _, _, _, h, _, _, _ => by cases h
  | m + 1, _, _, _, _, _, _, _, hv, hc, hb, ha, hm => lay_any m (lay_all m) hv hc hb ha hm
end K
end Go.Proofs.Ytfpakjbaiohcaaa

namespace Go.Proofs.Ytfpakjbaiohcaaa
open Go.RowKit
namespace K

theorem nzs_ne {f u : Nat} (h0 : 0 < u) (hu : u < 10 ^ f) : nzs (digsF f u) ≠ [] := by
  induction f generalizing u with
  | zero => simp at hu; omega
  | succ f ih =>
    unfold digsF; rw [if_neg (by omega), nzs]
    by_cases h : u % 10 = 0
    · rw [if_pos h]; exact ih (by omega) (by rw [Nat.pow_succ] at hu; omega)
    · rw [if_neg h]; simp
theorem ch_nat {d : Nat} (h : d < 10) : ((ch d).toNat : Int) = 48 + d := by
  unfold ch; rw [UInt8.toNat_ofNat']; omega
theorem ext_take {s : ByteArray} {l : List UInt8} {k : Nat} (hs : s.toList = l) : (s.extract 0 k).toList = l.take k := by
  rw [← hs, ByteArray.toList_eq, ByteArray.toList_eq]; simp [ByteArray.data_extract]

set_option maxHeartbeats 4000000 in
theorem rnumber_any (v : V) (sn sk : Value) (w : World) (hx0 : -9223372036854775808 ≤ v.n) (hx1 : v.n ≤ 9223372036854775807) (hs0 : 0 ≤ v.s) (hs1 : v.s ≤ 18) :
    Calls Try.prog 50 #[.agg (six v sn sk).toArray] w fun e w' => ∃ b, e = .returned b ∧ Bu w' b (numB v.n v.s) ∧ Below w.heap.size w w' ∧ ∀ g, b.ownBlock = some g → w.heap.size ≤ g := by
  refine enter (args := [.agg (six v sn sk).toArray]) Try.func50 rfl Try.ntmps50 rfl ?_; refine K.kgo ?_; refine WL.box rfl rfl rfl rfl rfl fun g w1 hf => ?_; have hf' : Fresh w g w1 37 (six v sn sk) := hf; clear hf; have hg0 : w.heap.size ≤ g := by rw [hf'.eq]; exact Nat.le_refl _
  refine K.kgo ?_; refine WL.load rfl rfl rfl rfl rfl rfl (hf'.blk.cell 1 (by simp)) ?_; refine K.kgo ?_
  by_cases h0 : v.n = 0
  · refine WC.condT rfl h0 ?_
    refine K.kgo ?_; refine WL.lit rfl rfl rfl rfl rfl rfl rfl fun b w2 hb hb2 hn2 => ?_; refine K.kgo ?_; refine WQ.ret1 rfl rfl ⟨b, rfl, ?_, hf'.below.trans (hb2.mono hf'.below.size), fun q hq => Nat.le_trans hf'.below.size (hn2 q hq)⟩; unfold numB; rw [if_pos h0]; exact hb
  refine WC.condF rfl h0 ?_; obtain ⟨u, hue⟩ : ∃ u, v.n.natAbs = u := ⟨_, rfl⟩; have hu : u ≤ 9223372036854775808 := by omega
  have hu0 : 0 < u := by omega
  refine K.kgo ?_; refine WL.load rfl rfl rfl rfl rfl rfl (hf'.blk.cell 1 (by simp)) ?_; refine WL.call rfl rfl rfl rfl rfl Try.func37 rfl (by kernel_rfl) (abs_any v.n w1 hx0 hx1) ?_; rintro e _ ⟨rfl, rfl⟩; refine ⟨_, rfl, ?_⟩; rw [hue]; refine WL.call rfl rfl rfl rfl rfl Try.func58 rfl (by kernel_rfl) (dec_any u w1 (by omega)) ?_; rintro e w2 ⟨⟨s, rfl, hs⟩, hb2⟩; refine ⟨_, rfl, ?_⟩; have hdz : dz 20 u = digs u := dz_eq 20 u hu0 (by omega); have hdl : (digs u).length ≤ 20 := digsF_len 20 u; have hnn : nzs (digs u) ≠ [] := nzs_ne hu0 (by omega); have hlt : ∀ d ∈ digs u, d < 10 := digsF_lt 20 u; unfold decS at hs; rw [hdz] at hs; have hsz : s.size = (digs u).length := by have := congrArg List.length hs; rw [ByteArray.toList_eq, Array.length_toList] at this; simpa using this
  have hblk2 : VBlk 37 w2 g (six v sn sk) := hf'.blk.below hb2 hf'.blk.lt; have hbel2 : Below w.heap.size w w2 := hf'.below.trans (hb2.mono hf'.below.size); refine K.kgo ?_; refine WL.load rfl rfl rfl rfl rfl rfl (hblk2.cell 2 (by simp)) ?_; refine K.kgo ?_; refine WC.loop (fun i : List Nat × ByteArray => [(1, .pointer (some ⟨g, 0, none⟩)), (3, .string i.2), (4, .int .i64 ((digs u).length - v.s))])
    (fun i w' => (nzs i.1 = nzs (digs u) ∧ (∀ d ∈ i.1, d < 10) ∧ i.1.length ≤ 20) ∧ i.2.toList = i.1.reverse.map ch ∧ w2 = w') (fun i => i.1.length) (digs u, s) ⟨rfl, rfl, congrArg (fun z => some (Value.int .i64 z)) (by rw [hsz]), trivial⟩ ⟨⟨rfl, hlt, hdl⟩, hs, rfl⟩ ?_
  rintro ⟨A, t⟩ _ ⟨⟨hA, hAl, hA20⟩, ht, rfl⟩; simp only at hA hAl hA20 ht ⊢; have htz : t.size = A.length := by have := congrArg List.length ht; rw [ByteArray.toList_eq, Array.length_toList] at this; simpa using this
  cases hAc : A with
  | nil => rw [hAc] at hA; exact (hnn hA.symm).elim
  | cons a r =>
    rw [hAc] at hA hAl hA20 ht htz; have ha10 : a < 10 := hAl a List.mem_cons_self; have hlast : ((t.toList.getD r.length 0).toNat : Int) = 48 + a := by
      rw [ht]; have : ((a :: r).reverse.map ch).getD r.length 0 = ch a := by
        rw [List.reverse_cons, List.map_append, List.getD_eq_getElem?_getD, List.getElem?_append_right (by simp)]; simp
      rw [this, ch_nat ha10]
    rw [List.length_cons] at htz hA20; refine K.kgo ?_; refine WL.byte r.length rfl rfl rfl rfl rfl rfl rfl (by omega) (by omega) ?_; rw [hlast]
    by_cases ha : a = 0
    · subst ha
      refine K.kgo ?_; refine WL.substrTo rfl rfl rfl rfl rfl rfl rfl (by omega) (by omega) ?_; have hex : (t.extract 0 ((t.size : Int) - 1).toNat).toList = r.reverse.map ch := by
        rw [ext_take ht, show ((t.size : Int) - 1).toNat = r.length by omega, List.reverse_cons, List.map_append, List.take_append_of_le_length (by simp)]; rw [List.take_of_length_le (by simp)]
      generalize t.extract 0 ((t.size : Int) - 1).toNat = t' at hex; refine K.kgo ?_; refine WQ.again (r, t') ⟨rfl, rfl, rfl, trivial⟩ ⟨⟨by rw [← hA]; simp [nzs], fun d hd => hAl d (List.mem_cons_of_mem _ hd), by show r.length ≤ 20; omega⟩, hex, rfl⟩ (by show r.length < (0 :: r).length; simp)
    · have hfin : a :: r = nzs (digs u) := by rw [← hA, nzs, if_neg ha]
      have hposd : posB (digs u) v.s = (((digs u).length : Int) - v.s + 192) % 256 :: (a :: r).reverse.map (fun d : Nat => (d : Int) + 1) ++ [0] := by unfold posB digB; rw [← hfin]
      have e14 : IntKind.u8.wrap (192 + (((digs u).length : Int) - v.s)) = (((digs u).length : Int) - v.s + 192) % 256 := by rw [IntKind.wrap_u8]; omega
      have hpr := posB_range u v.s; have hpl := posB_len u v.s; have hDl : ∀ i, i < r.length + 1 → ((t.toList.getD i 0).toNat : Int) = 48 + ((a :: r).reverse.getD i 0 : Nat) ∧ (a :: r).reverse.getD i 0 < 10 := fun i hi => by
        have hil : i < (a :: r).reverse.length := by simpa using hi
        have hmem : (a :: r).reverse.getD i 0 ∈ a :: r := by
          rw [List.getD_eq_getElem?_getD, List.getElem?_eq_getElem hil]; exact List.mem_reverse.1 (List.getElem_mem hil)
        have h10 := hAl _ hmem; refine ⟨?_, h10⟩; rw [ht, ← ch_nat h10]
        congr 2
        rw [List.getD_eq_getElem?_getD, List.getD_eq_getElem?_getD, List.getElem?_map, List.getElem?_eq_getElem hil]
        rfl
      have hDn : (a :: r).reverse.length = r.length + 1 := by simp
      generalize (a :: r).reverse = D at hposd hDl hDn ht; generalize hH : (((digs u).length : Int) - v.s + 192) % 256 = H at hposd e14; refine K.kgo ?_; refine WL.lit rfl rfl rfl rfl rfl rfl rfl fun b0 w3 hb0 k0 g0 => ?_; rw [e14] at hb0; refine K.kgo ?_; refine WC.loop (fun i : Nat × Value => [(1, .pointer (some ⟨g, 0, none⟩)), (3, .string t), (5, i.2), (6, .int .i64 i.1)])
        (fun i w' => i.1 ≤ r.length + 1 ∧ Bu w' i.2 (H :: (D.take i.1).map fun d : Nat => (d : Int) + 1) ∧ Apart w2 w' i.2) (fun i => r.length + 1 - i.1) (0, b0) ⟨rfl, rfl, rfl, rfl, trivial⟩ ⟨Nat.zero_le _, by simpa using hb0, ⟨k0, g0⟩⟩ ?_
      rintro ⟨i, vv⟩ w4 ⟨hi, hb4, hap4⟩; simp only at hi hb4 hap4 ⊢
      by_cases hil : i < r.length + 1
      · obtain ⟨hbyte, h10⟩ := hDl i hil
        have hw : IntKind.u8.wrap (IntKind.u8.wrap (48 + ((D.getD i 0 : Nat) : Int) - 48) + 1) = ((D.getD i 0 : Nat) : Int) + 1 := by rw [IntKind.wrap_u8, IntKind.wrap_u8]; omega
        refine K.kgo ?_; refine WL.byte i rfl rfl rfl rfl rfl rfl rfl rfl (by omega) ?_; rw [hbyte]; refine K.kgo ?_; refine WL.push rfl rfl rfl rfl rfl rfl rfl rfl rfl rfl rfl (fun _ => rfl) rfl hb4 (by simp; omega) fun v5 w5 hb5 hg5 => ?_; rw [hw] at hb5; refine K.kgo ?_; refine WQ.again (i + 1, v5) ⟨rfl, rfl, rfl, rfl, trivial⟩ ⟨hil, ?_, hap4.grow hg5⟩ (by show r.length + 1 - (i + 1) < r.length + 1 - i; omega); have htk : D.take (i + 1) = D.take i ++ [D.getD i 0] := by
          rw [List.take_add_one]; simp [hDn, hil]
        show Bu w5 v5 (H :: (D.take (i + 1)).map fun d : Nat => (d : Int) + 1)
        rw [htk]
        simpa using hb5
      · obtain rfl : i = r.length + 1 := by omega
        rw [← hDn, List.take_length] at hb4; refine K.kgo ?_; refine WL.push rfl rfl rfl rfl rfl rfl rfl rfl rfl rfl rfl (fun _ => rfl) rfl hb4 (by simp; omega) fun v5 w5 hb5 hg5 => ?_; have hb5' : Bu w5 v5 (posB (digs u) v.s) := by rw [hposd]; simpa using hb5
        have hap5 := hap4.grow hg5; clear hb5; generalize hF : posB (digs u) v.s = F at hb5' hpr hpl; have hblk : ∀ {wx vx}, Apart w2 wx vx → VBlk 37 wx g (six v sn sk) := fun h => hblk2.below h.below hblk2.lt; refine K.kgo ?_; obtain ⟨sp3, c3, rfl, -, -⟩ := hb5'.form; refine WC.loop (fun k : Nat => [(1, .pointer (some ⟨g, 0, none⟩)), (5, .slice sp3 F.length c3), (7, .int .i64 k)])
          (fun k w' => k ≤ F.length ∧ Bu w' (.slice sp3 F.length c3) (flipB (F.take k) ++ F.drop k) ∧ Apart w2 w' (.slice sp3 F.length c3) ∧ (¬ v.n < 0 → k = 0)) (fun k => F.length - k) 0 ⟨rfl, rfl, rfl, trivial⟩ ⟨Nat.zero_le _, by simpa [flipB] using hb5', hap5, fun _ => rfl⟩ ?_
        rintro k wr3 ⟨hk, hb6, hap6, hk0⟩; have hll : (flipB (F.take k) ++ F.drop k).length = F.length := by simp [flipB]; omega
        refine K.kgo ?_; refine WL.load rfl rfl rfl rfl rfl rfl ((hblk hap6).cell 1 (by simp)) ?_
        by_cases hn : v.n < 0
        · by_cases hkn : k < F.length
          · obtain ⟨q, c', hv, hog, hcell, hfr, hset⟩ := hb6.at (j := k) (by rw [hll]; exact hkn)
            obtain rfl : sp3 = some ⟨q, 0, none⟩ := by injection hv
            have hdr : F.drop k = nth F k :: F.drop (k + 1) := by
              rw [List.drop_eq_getElem_cons hkn]; simp [nth, hkn]
            have hfl : (flipB (F.take k)).length = k := by simp [flipB]; omega
            have hnk : nth (flipB (F.take k) ++ F.drop k) k = nth F k := by
              rw [hdr]; unfold nth; rw [List.getD_eq_getElem?_getD, List.getElem?_append_right (by omega), hfl]; simp
            have hrg := hpr (nth F k) (by unfold nth; rw [List.getD_eq_getElem?_getD, List.getElem?_eq_getElem hkn]; exact List.getElem_mem hkn); have hfp := flip_u8 (nth F k) hrg.1 hrg.2; rw [hnk] at hcell; have hset2 := hset (255 - nth F k); refine K.kgo ?_; refine WL.idx k k rfl rfl rfl rfl rfl rfl rfl rfl hkn (by omega) ?_; refine WL.load rfl rfl rfl rfl rfl rfl hcell ?_; refine K.kgo ?_; refine WL.idx k k rfl rfl rfl rfl rfl rfl rfl rfl hkn (by omega) ?_; refine WL.store (v := .int .u8 (255 - nth F k)) rfl rfl rfl rfl (congrArg (fun z => some (Value.int .u8 z)) hfp) rfl (by kernel_rfl) hcell hfr ?_; refine K.kgo ?_; refine WQ.again (k + 1) ⟨rfl, rfl, rfl, trivial⟩ ⟨hkn, ?_, hap6.grow hset2.2, fun h => (h hn).elim⟩ (by show F.length - (k + 1) < F.length - k; omega); have he : (flipB (F.take k) ++ F.drop k).set k (255 - nth F k) = flipB (F.take (k + 1)) ++ F.drop (k + 1) := by
              rw [hdr, List.set_append_right _ _ (by omega), hfl, Nat.sub_self, List.set_cons_zero]; have : F.take (k + 1) = F.take k ++ [nth F k] := by
                rw [List.take_add_one]; simp [nth, hkn]
              rw [this]; simp [flipB]
            rw [he] at hset2; exact hset2.1
          · obtain rfl : k = F.length := by omega
            refine K.kgo ?_; refine WQ.ret1 rfl rfl ⟨_, rfl, ?_, hbel2.trans (hap6.below.mono hbel2.size), fun q hq => Nat.le_trans hbel2.size (hap6.own q hq)⟩; unfold numB; rw [if_neg h0, if_pos hn, hue, hF]
            simpa using hb6
        · obtain rfl := hk0 hn
          refine K.kgo ?_; refine WQ.ret1 rfl rfl ⟨_, rfl, ?_, hbel2.trans (hap6.below.mono hbel2.size), fun q hq => Nat.le_trans hbel2.size (hap6.own q hq)⟩; unfold numB; rw [if_neg h0, if_neg hn, hue, hF]
          simpa [flipB] using hb6
end K
end Go.Proofs.Ytfpakjbaiohcaaa

namespace Go.Proofs.Ytfpakjbaiohcaaa
open Go.RowKit
namespace K

set_option maxRecDepth 100000 in
set_option maxHeartbeats 8000000 in
theorem rkey_step (m : Nat) (ih : ∀ {f : Nat} {w0 w : World} {v : V} {cs : List Value} {b : Value} {l : List Int}, IsV f w0 v cs → chk m v = 0 → Bu w b l → Apart w0 w b → l.length + (keyV m v).length ≤ 70368744177664 →
      Calls Try.prog 35 #[b, .agg cs.toArray] w fun e w' => ∃ b', e = .returned b' ∧ Bu w' b' (l ++ keyV m v) ∧ Grow w b w' b') {f : Nat} {w0 w : World} {v : V} {cs : List Value} {b : Value} {l : List Int}
    (hv : IsV f w0 v cs) (hc : chk (m + 1) v = 0) (hb : Bu w b l) (ha : Apart w0 w b) (hm : l.length + (keyV (m + 1) v).length ≤ 70368744177664) :
    Calls Try.prog 35 #[b, .agg cs.toArray] w fun e w' => ∃ b', e = .returned b' ∧ Bu w' b' (l ++ keyV (m + 1) v) ∧ Grow w b w' b' := by
  obtain ⟨hk, f2, f3, f4, f5, fk, ft, f9⟩ := shp_form (chk_shp hc); cases f with
  | zero => exact hv.elim
  | succ f =>
  obtain ⟨sn, sk, rfl, wk, wn, ws, -, hnames, hkids⟩ := hv; have hkey := keyV_two (m := m) (v := v); rw [hkey] at hm; have hn : -9223372036854775808 ≤ v.n ∧ v.n ≤ 9223372036854775807 := by simp [Lit.wf, IntKind.min, IntKind.max, IntKind.bits, IntKind.signed] at wn; omega
  refine enter (args := [b, .agg (six v sn sk).toArray]) Try.func35 rfl Try.ntmps35 rfl ?_; refine K.kgo ?_; refine WL.box rfl rfl rfl rfl rfl fun g w1 hf => ?_; have hf' : Fresh w g w1 37 (six v sn sk) := hf; clear hf; have hb1 : Bu w1 b l := hb.below hf'.below; have hg1 : Grow w b w1 b := (Grow.refl w b).below hf'.below; have ha1 : Apart w0 w1 b := ha.grow hg1; have hR : ∀ {wk vk}, Grow w1 b wk vk → VBlk 37 wk g (six v sn sk) := fun h => hf'.stand hb h; have hl1 : l.length + 1 ≤ 70368744177664 := by simp at hm; omega
  have c0 : w1.cell? ⟨g, 0, none⟩ = some (.int .i64 v.k) := hf'.blk.cell 0 (by simp); have c1 : w1.cell? ⟨g, 1, none⟩ = some (.int .i64 v.n) := hf'.blk.cell 1 (by simp); have c3 : w1.cell? ⟨g, 3, none⟩ = some (.string v.t) := hf'.blk.cell 3 (by simp); have fin : ∀ {b' w' x}, Bu w' b' (l ++ x) → Grow w1 b w' b' → (x = keyV (m + 1) v) → ∃ b'', Ending.returned b' = .returned b'' ∧ Bu w' b'' (l ++ keyV (m + 1) v) ∧ Grow w b w' b'' :=
    fun {b' w' x} h1 h2 h3 => ⟨b', rfl, by rw [← h3]; exact h1, hg1.trans h2⟩
  have hl3 : l.length + (keyV (m + 1) v).length ≤ 70368744177664 := by rw [hkey]; exact hm
  clear wk wn ws
  by_cases k1 : v.k = 1
  · have hkx : keyV (m + 1) v = [16] := by rw [hkey, k1]; rfl
    refine K.kgl ?_; refine WL.push rfl rfl rfl rfl rfl rfl rfl rfl rfl rfl rfl (fun _ => rfl) rfl hb1 (by simp; omega) fun b2 w2 hb2 hg2 => ?_; refine K.kgo ?_; exact WQ.ret1 rfl rfl (fin hb2 hg2 hkx.symm)
  by_cases k2 : v.k = 2
  · have hx := f2 k2
    have e8 : IntKind.u8.wrap v.n = v.n := by rw [IntKind.wrap_u8]; omega
    have hkx : keyV (m + 1) v = [32, v.n] := by rw [hkey, if_pos k2, k2]; rfl
    rw [hkx] at hl3; simp at hl3
    refine K.kgl ?_; refine WL.push rfl rfl rfl rfl rfl rfl rfl rfl rfl rfl rfl (fun _ => rfl) rfl hb1 (by simp; omega) fun b2 w2 hb2 hg2 => ?_; rw [e8] at hb2; refine K.kgo ?_; exact WQ.ret1 rfl rfl (fin hb2 hg2 hkx.symm)
  by_cases k34 : v.k = 3 ∨ v.k = 4
  · have hs : 0 ≤ v.s ∧ v.s ≤ 18 := by
      rcases k34 with h | h
      · have := f3 h; omega
      · have := f4 h; omega
    have hcl : classI v.k = 48 := by rcases k34 with h | h <;> rw [h] <;> rfl
    have hkx : keyV (m + 1) v = [48] ++ numB v.n v.s := by rw [hkey, if_neg k2, if_pos k34, hcl]; rfl
    rw [hkx] at hl3; simp at hl3
    rcases k34 with k3 | k4
    all_goals
      refine K.kgl ?_; refine WC.drawn 4 (fun wx => VBlk 37 wx g (six v sn sk)) fun w2 hd2 => ?_; have hS : VBlk 37 w2 g (six v sn sk) := hf'.blk.below (hd2.below _) hf'.blk.lt; have hb2 : Bu w2 b l := hb1.below (hd2.below _); have hg2 : Grow w1 b w2 b := (Grow.refl w1 b).below (hd2.below _); refine K.fr [0] hS ?_; refine K.wm 3 [4] rfl rfl rfl rfl rfl rfl rfl (fun wx hx => VBlk.rangeAt hx) rfl hS ?_; refine K.wo 1 ?_; refine WL.lit rfl rfl rfl rfl rfl rfl rfl fun u5 w5 hu5 hk5 hn5 => ?_; refine WL.nil (WQ.dk (.inr (hS.below hk5 hS.lt)) ?_); refine K.wo 2 ?_; refine WL.app rfl rfl rfl rfl rfl (hb2.below hk5) rfl hu5.sl (by simp; omega) fun b6 w6 hb6 hg6 => ?_; have hg6' : Grow w1 b w6 b6 := (hg2.below hk5).trans hg6; refine WL.nil (WQ.dk (.inr (hR hg6')) ?_); refine K.wo 4 ?_; refine WL.call rfl rfl rfl rfl rfl Try.func50 rfl (by kernel_rfl) (rnumber_any v sn sk w6 hn.1 hn.2 hs.1 hs.2) ?_; rintro e w7 ⟨b7, rfl, hb7, hk7, hn7⟩; refine ⟨_, rfl, ?_⟩; refine K.dl ?_; refine K.wo 5 ?_; refine WL.app rfl rfl rfl rfl rfl (hb6.below hk7) rfl hb7.sl (by simp; omega) fun b8 w8 hb8 hg8 => ?_; refine K.dl ?_; refine K.wo 6 ?_; refine WL.pure rfl rfl rfl rfl ?_; refine K.dl ?_; refine WD.done (by kernel_rfl) ?_; refine K.kgo ?_; exact WQ.ret1 rfl rfl (fin (by rw [← List.append_assoc]; exact hb8) (hg6'.trans (((Grow.refl w6 b6).below hk7).trans hg8)) hkx.symm)
  by_cases k5 : v.k = 5
  · have hx := f5 k5
    have e8 : IntKind.u64.wrap v.n = v.n := by rw [IntKind.wrap_u64]; omega
    have hkx : keyV (m + 1) v = [64] ++ bigI v.n := by rw [hkey, if_neg k2, if_neg k34, if_pos k5, k5]; rfl
    rw [hkx] at hl3; simp at hl3
    refine K.kgl ?_; refine WC.drawn 6 (fun wx => VBlk 37 wx g (six v sn sk)) fun w2 hd2 => ?_; have hS : VBlk 37 w2 g (six v sn sk) := hf'.blk.below (hd2.below _) hf'.blk.lt; have hb2 : Bu w2 b l := hb1.below (hd2.below _); have hg2 : Grow w1 b w2 b := (Grow.refl w1 b).below (hd2.below _); refine K.fr [0, 3] hS ?_; refine K.wl 4 [5, 6] rfl rfl rfl rfl rfl rfl rfl (fun wx hx => hx.cell 1 (by simp)) hS ?_; refine K.fr [5] hS ?_; refine K.wo 1 ?_; refine WL.lit rfl rfl rfl rfl rfl rfl rfl fun u5 w5 hu5 hk5 hn5 => ?_; refine WL.nil (WQ.dk (.inr (hS.below hk5 hS.lt)) ?_); refine K.wo 2 ?_; refine WL.app rfl rfl rfl rfl rfl (hb2.below hk5) rfl hu5.sl (by simp; omega) fun b6 w6 hb6 hg6 => ?_; have hg6' : Grow w1 b w6 b6 := (hg2.below hk5).trans hg6; refine WL.nil (WQ.dk (.inr (hR hg6')) ?_); refine K.wo 6 ?_; refine WL.call rfl rfl rfl rfl rfl Try.func51 rfl (by kernel_rfl) (by rw [e8]; exact rbig_any v.n w6 hx.1 (by omega)) ?_; rintro e w7 ⟨b7, rfl, hb7, hk7, hn7⟩; refine ⟨_, rfl, ?_⟩; refine K.dl ?_; refine K.wo 7 ?_; refine WL.app rfl rfl rfl rfl rfl (hb6.below hk7) rfl hb7.sl (by simp; omega) fun b8 w8 hb8 hg8 => ?_; refine K.dl ?_; refine K.wo 8 ?_; refine WL.pure rfl rfl rfl rfl ?_; refine K.dl ?_; refine WD.done (by kernel_rfl) ?_; refine K.kgo ?_; exact WQ.ret1 rfl rfl (fin (by rw [← List.append_assoc]; exact hb8) (hg6'.trans (((Grow.refl w6 b6).below hk7).trans hg8)) hkx.symm)
  by_cases k67 : v.k = 6 ∨ v.k = 7
  · have hkx : keyV (m + 1) v = [classI v.k] ++ textK v.t.toList := by rw [hkey, if_neg k2, if_neg k34, if_neg k5, if_pos k67]; rfl
    rcases k67 with k6 | k6
    all_goals
      rw [k6] at hkx; refine K.kgl ?_; refine WC.drawn 5 (fun wx => VBlk 37 wx g (six v sn sk)) fun w2 hd2 => ?_; have hS : VBlk 37 w2 g (six v sn sk) := hf'.blk.below (hd2.below _) hf'.blk.lt; have hb2 : Bu w2 b l := hb1.below (hd2.below _); have hg2 : Grow w1 b w2 b := (Grow.refl w1 b).below (hd2.below _); refine K.fr [0, 3] hS ?_; refine K.wl 4 [5] rfl rfl rfl rfl rfl rfl rfl (fun wx hx => hx.cell 3 (by simp)) hS ?_; refine K.wo 1 ?_; refine WL.lit rfl rfl rfl rfl rfl rfl rfl fun u5 w5 hu5 hk5 hn5 => ?_; refine WL.nil (WQ.dk (.inr (hS.below hk5 hS.lt)) ?_); refine K.wo 2 ?_; refine WL.app rfl rfl rfl rfl rfl (hb2.below hk5) rfl hu5.sl (by simp; omega) fun b6 w6 hb6 hg6 => ?_; have hg6' : Grow w1 b w6 b6 := (hg2.below hk5).trans hg6; refine WL.nil (WQ.dk (.inr (hR hg6')) ?_); refine K.wo 5 ?_; refine WL.call rfl rfl rfl rfl rfl Try.func52 rfl (by kernel_rfl) (rtexts_any v.t hb6 (by simp; omega)) ?_; rintro e w7 ⟨b7, rfl, hb7, hg7⟩; refine ⟨_, rfl, ?_⟩; refine K.dl ?_; refine K.wo 6 ?_; refine WL.pure rfl rfl rfl rfl ?_; refine K.dl ?_; refine WD.done (by kernel_rfl) ?_; refine K.kgo ?_; refine WQ.ret1 rfl rfl (fin ?_ (hg6'.trans hg7) hkx.symm); rw [← List.append_assoc]; exact hb7
  have k89 : v.k = 8 ∨ v.k = 9 := by omega
  obtain ⟨sp, cap, rfl, hcap1, hcap2, hrow⟩ := hkids; have hkid : ∀ j, j < v.kids.length → chk m (v.kids.getD j noV) = 0 := fun j hj => chk_kid hc hj; have round : ∀ (st : Bool) (T : Nat), ((List.range v.kids.length).flatMap (pieceK (keyV m) st v.names v.kids)).length = T → ∀ i, i + 1 ≤ v.kids.length → ((List.range i).flatMap (pieceK (keyV m) st v.names v.kids)).length + (pieceK (keyV m) st v.names v.kids i).length ≤ T := fun st T hT i hi => by
    have := range_len_le (pieceK (keyV m) st v.names v.kids) hi; rw [range_piece, List.length_append, hT] at this; exact this
  have c5 : w1.cell? ⟨g, 5, none⟩ = some (.slice sp v.kids.length cap) := hf'.blk.cell 5 (by simp)
  by_cases k8 : v.k = 8
  · have hkx : keyV (m + 1) v = [112] ++ ((List.range v.kids.length).flatMap (pieceK (keyV m) false v.names v.kids) ++ [0]) := by
      rw [hkey, if_neg k2, if_neg k34, if_neg k5, if_neg k67, if_pos k89, show decide (v.k = 9) = false from decide_eq_false (by omega), k8]; rfl
    rw [hkx] at hl3; simp only [List.length_cons, List.length_append, List.length_nil] at hl3; generalize hT : ((List.range v.kids.length).flatMap (pieceK (keyV m) false v.names v.kids)).length = T at hl3; have hrd := round false T hT; refine K.kgl ?_; refine WL.push rfl rfl rfl rfl rfl rfl rfl rfl rfl rfl rfl (fun _ => rfl) rfl hb1 (by simp; omega) fun b2 w2 hb2 hg2 => ?_; clear c0 c1 c3 c5; refine K.kgo ?_; refine WC.loop (fun i : Nat × Value => [(0, i.2), (3, .pointer (some ⟨g, 0, none⟩)), (5, .int .i64 i.1)])
      (fun i w' => i.1 ≤ v.kids.length ∧ Bu w' i.2 (l ++ [112] ++ (List.range i.1).flatMap (pieceK (keyV m) false v.names v.kids)) ∧ Grow w1 b w' i.2) (fun i => v.kids.length - i.1) (0, b2)
      ⟨rfl, rfl, rfl, trivial⟩ ⟨Nat.zero_le _, by simpa using hb2, hg2⟩ ?_
    rintro ⟨i, bb⟩ wr ⟨hi, hbr, hgr⟩; simp only at hi hbr hgr ⊢; have c5 : wr.cell? ⟨g, 5, none⟩ = some (.slice sp v.kids.length cap) := (hR hgr).cell 5 (by simp)
    by_cases hik : i < v.kids.length
    · obtain ⟨kb, ko, rfl, hkb, hcells⟩ := hrow (by omega)
      obtain ⟨c, hc6, hci, hcr⟩ := hcells i hik; clear hrow hcells; have har := ha1.grow hgr; have hcr' : wr.rangeAt kb (ko + i * 6) c := fun j u hu => by rw [har.below.cell (p := ⟨kb, ko + i * 6 + j, none⟩) hkb]; exact hcr j u hu
      have hpc : pieceK (keyV m) false v.names v.kids i = keyV m (v.kids.getD i noV) := rfl; have hro := hrd i hik; rw [hpc] at hro; refine K.kgl ?_; refine WL.idx i (ko + i * 6) rfl rfl rfl rfl rfl rfl rfl rfl hik rfl ?_; refine WL.loadMid rfl rfl rfl rfl rfl rfl hcr' hc6 ?_; refine WL.call rfl rfl rfl rfl rfl Try.func35 rfl (by kernel_rfl) (ih (w0 := w0) hci (hkid i hik) hbr har (by rw [List.length_append, List.length_append]; simp only [List.length_cons, List.length_nil]; omega)) ?_; rintro e w4 ⟨b4, rfl, hb4, hg4⟩; refine ⟨_, rfl, ?_⟩; refine K.kgo ?_; refine WQ.again (i + 1, b4) ⟨rfl, rfl, rfl, trivial⟩ ⟨hik, ?_, hgr.trans hg4⟩ (by show v.kids.length - (i + 1) < v.kids.length - i; omega)
      show Bu w4 b4 (l ++ [112] ++ (List.range (i + 1)).flatMap _)
      rw [range_piece, hpc, ← List.append_assoc]; exact hb4
    · obtain rfl : i = v.kids.length := by omega
      refine K.kgl ?_; refine WL.push rfl rfl rfl rfl rfl rfl rfl rfl rfl rfl rfl (fun _ => rfl) rfl hbr (by rw [List.length_append, List.length_append]; simp only [List.length_cons, List.length_nil]; omega) fun b3 w3 hb3 hg3 => ?_; refine K.kgo ?_; refine WQ.ret1 rfl rfl (fin ?_ (hgr.trans hg3) hkx.symm); rw [← List.append_assoc, ← List.append_assoc]; exact hb3
  have k9 : v.k = 9 := by omega
  obtain ⟨np, nc, rfl, nl, nc2, nsz, nr⟩ := hnames; have hnk := (f9 k9).1; have hkx : keyV (m + 1) v = [128] ++ ((List.range v.kids.length).flatMap (pieceK (keyV m) true v.names v.kids) ++ [0]) := by
    rw [hkey, if_neg k2, if_neg k34, if_neg k5, if_neg k67, if_pos k89, show decide (v.k = 9) = true from decide_eq_true k9, k9]; rfl
  rw [hkx] at hl3; simp only [List.length_cons, List.length_append, List.length_nil] at hl3; generalize hT : ((List.range v.kids.length).flatMap (pieceK (keyV m) true v.names v.kids)).length = T at hl3; have hrd := round true T hT; refine K.kgl ?_; refine WL.push rfl rfl rfl rfl rfl rfl rfl rfl rfl rfl rfl (fun _ => rfl) rfl hb1 (by simp; omega) fun b2 w2 hb2 hg2 => ?_; clear c0 c1 c3 c5; refine K.kgo ?_; refine WC.loop (fun i : Nat × Value => [(0, i.2), (3, .pointer (some ⟨g, 0, none⟩)), (6, .int .i64 i.1)])
    (fun i w' => i.1 ≤ v.kids.length ∧ Bu w' i.2 (l ++ [128] ++ (List.range i.1).flatMap (pieceK (keyV m) true v.names v.kids)) ∧ Grow w1 b w' i.2) (fun i => v.kids.length - i.1) (0, b2)
    ⟨rfl, rfl, rfl, trivial⟩ ⟨Nat.zero_le _, by simpa using hb2, hg2⟩ ?_
  rintro ⟨i, bb⟩ wr ⟨hi, hbr, hgr⟩; simp only at hi hbr hgr ⊢; have c5 : wr.cell? ⟨g, 5, none⟩ = some (.slice sp v.kids.length cap) := (hR hgr).cell 5 (by simp)
  by_cases hik : i < v.kids.length
  · obtain ⟨kb, ko, rfl, hkb, hcells⟩ := hrow (by omega)
    obtain ⟨c, hc6, hci, hcr⟩ := hcells i hik; obtain ⟨nb, no, rfl, hnb, hnr⟩ := nr (by omega); have hnc := hnr i (by omega); have hns : (v.names.getD i noT).size ≤ 40 := (f9 k9).2 _ (by simp [show i < v.names.length by omega]); clear hrow hcells nr hnr nsz; have har := ha1.grow hgr; have hpc : pieceK (keyV m) true v.names v.kids i = 1 :: textK (v.names.getD i noT).toList ++ keyV m (v.kids.getD i noV) := rfl; have hro := hrd i hik; rw [hpc] at hro; simp only [List.length_append, List.length_cons] at hro; refine K.kgl ?_; refine WC.drawn 8 (fun wx => Below w0.heap.size w0 wx ∧ VBlk 37 wx g (six v (.slice (some ⟨nb, no, none⟩) v.names.length nc) (.slice (some ⟨kb, ko, none⟩) v.kids.length cap))) fun w4 hd4 => ?_; have hS : Below w0.heap.size w0 w4 ∧ VBlk 37 w4 g (six v (.slice (some ⟨nb, no, none⟩) v.names.length nc) (.slice (some ⟨kb, ko, none⟩) v.kids.length cap)) := ⟨har.below.trans (hd4.below _), (hR hgr).below (hd4.below _) (hR hgr).lt⟩; have hb4 : Bu w4 bb _ := hbr.below (hd4.below _); have hg4 : Grow w1 b w4 bb := hgr.below (hd4.below _); refine K.fr [0, 3] hS ?_; refine K.wl 4 [6, 7, 8] rfl rfl rfl rfl rfl rfl rfl (fun wx hx => hx.2.cell 4 (by simp)) hS ?_; refine K.fr [5] hS ?_; refine K.wi 6 i (no + i) rfl rfl rfl rfl rfl rfl rfl rfl rfl (by omega) (by omega) (.inr hS) ?_; refine K.wl 7 [8] rfl rfl rfl rfl rfl rfl rfl (fun wx hx => (hx.1.cell (p := ⟨nb, no + i, none⟩) hnb).trans hnc) hS ?_; refine K.wo 1 ?_; refine WL.lit rfl rfl rfl rfl rfl rfl rfl fun u5 w5 hu5 hk5 hn5 => ?_; have hS5 : Below w0.heap.size w0 w5 ∧ VBlk 37 w5 g _ := ⟨hS.1.trans (hk5.mono hS.1.size), hS.2.below hk5 hS.2.lt⟩; refine K.di hS5 ?_; refine K.wo 2 ?_; refine WL.app rfl rfl rfl rfl rfl (hb4.below hk5) rfl hu5.sl (by rw [List.length_append, List.length_append]; simp only [List.length_cons, List.length_nil]; omega) fun b6 w6 hb6 hg6 => ?_; have hg6' : Grow w1 b w6 b6 := (hg4.below hk5).trans hg6; refine WL.nil (WQ.dk (.inr ⟨(ha1.grow hg6').below, hR hg6'⟩) ?_); refine K.wo 8 ?_; refine WL.call rfl rfl rfl rfl rfl Try.func52 rfl (by kernel_rfl) (rtexts_any (v.names.getD i noT) hb6 (by rw [List.length_append, List.length_append, List.length_append]; simp only [List.length_cons, List.length_nil]; omega)) ?_; rintro e w7 ⟨b7, rfl, hb7, hg7⟩; refine ⟨_, rfl, ?_⟩; refine K.dl ?_; refine K.wo 9 ?_; refine WL.pure rfl rfl rfl rfl ?_; refine K.dl ?_; refine WD.done (by kernel_rfl) ?_; have hg7' : Grow w1 b w7 b7 := hg6'.trans hg7; clear c5; have c5 : w7.cell? ⟨g, 5, none⟩ = some (.slice (some ⟨kb, ko, none⟩) v.kids.length cap) := (hR hg7').cell 5 (by simp); have hcr' : w7.rangeAt kb (ko + i * 6) c := fun j u hu => by rw [(ha1.grow hg7').below.cell (p := ⟨kb, ko + i * 6 + j, none⟩) hkb]; exact hcr j u hu
    have hl7 : (l ++ [128] ++ (List.range i).flatMap (pieceK (keyV m) true v.names v.kids) ++ [1] ++ textK (v.names.getD i noT).toList).length + (keyV m (v.kids.getD i noV)).length ≤ 70368744177664 := by
      rw [List.length_append, List.length_append, List.length_append, List.length_append]; simp only [List.length_cons, List.length_nil]; omega
    refine K.kgl ?_; refine WL.idx i (ko + i * 6) rfl rfl rfl rfl rfl rfl rfl rfl hik rfl ?_; refine WL.loadMid rfl rfl rfl rfl rfl rfl hcr' hc6 ?_; refine WL.call rfl rfl rfl rfl rfl Try.func35 rfl (by kernel_rfl) (ih (w0 := w0) hci (hkid i hik) hb7 (ha1.grow hg7') hl7) ?_; rintro e w8 ⟨b8, rfl, hb8, hg8⟩; refine ⟨_, rfl, ?_⟩; refine K.kgo ?_; refine WQ.again (i + 1, b8) ⟨rfl, rfl, rfl, trivial⟩ ⟨hik, ?_, hg7'.trans hg8⟩ (by show v.kids.length - (i + 1) < v.kids.length - i; omega)
    show Bu w8 b8 (l ++ [128] ++ (List.range (i + 1)).flatMap _)
    rw [range_piece, hpc]
    simpa using hb8
  · obtain rfl : i = v.kids.length := by omega
    refine K.kgl ?_; refine WL.push rfl rfl rfl rfl rfl rfl rfl rfl rfl rfl rfl (fun _ => rfl) rfl hbr (by rw [List.length_append, List.length_append]; simp only [List.length_cons, List.length_nil]; omega) fun b3 w3 hb3 hg3 => ?_; refine K.kgo ?_; refine WQ.ret1 rfl rfl (fin ?_ (hgr.trans hg3) hkx.symm); rw [← List.append_assoc, ← List.append_assoc]; exact hb3
theorem rkey_all : ∀ (m : Nat) {f : Nat} {w0 w : World} {v : V} {cs : List Value} {b : Value} {l : List Int}, IsV f w0 v cs → chk m v = 0 → Bu w b l → Apart w0 w b → l.length + (keyV m v).length ≤ 70368744177664 →
      Calls Try.prog 35 #[b, .agg cs.toArray] w fun e w' => ∃ b', e = .returned b' ∧ Bu w' b' (l ++ keyV m v) ∧ Grow w b w' b'
  | 0, _, _, _, _, _, _, _, _, h, _, _, _ => by cases h
  | m + 1, _, _, _, _, _, _, _, hv, hc, hb, ha, hm => rkey_step m (rkey_all m) hv hc hb ha hm
end K
end Go.Proofs.Ytfpakjbaiohcaaa

namespace Go.Proofs.Ytfpakjbaiohcaaa
open Go.RowKit
namespace Vl

set_option maxHeartbeats 400000 in
theorem isName_any (s : ByteArray) (w : World) : Calls Try.prog 64 #[.string s] w fun e w' => e = .returned (.bool (isNameB s)) ∧ w = w' := by
  by_cases h1 : 1 ≤ s.size
  · have h1' : (1 : Int) ≤ s.size := by omega
    go_enter Try.func64, Try.ntmps64
    go_wp2
    go_ret
    exact ⟨by simp [isNameB, h1]; omega, rfl⟩
  · have h1' : decide ((1 : Int) ≤ s.size) = false := decide_eq_false (by omega)
    go_enter Try.func64, Try.ntmps64
    go_wp2
    go_ret
    exact ⟨by simp [isNameB, h1], rfl⟩

theorem leq_not : ∀ (a p : List UInt8), (Op.bytesLess a p || a == p) = !Op.bytesLess p a
  | [], [] => rfl
  | [], _ :: _ => by simp [Op.bytesLess]
  | _ :: _, [] => by simp [Op.bytesLess]
  | x :: a, y :: p => by
    have ih := leq_not a p; unfold Op.bytesLess; rcases Nat.lt_trichotomy x.toNat y.toNat with h | h | h
    · have h1 : x < y := UInt8.lt_iff_toNat_lt.2 h
      have h2 : ¬ y < x := fun e => by have := UInt8.lt_iff_toNat_lt.1 e; omega
      have h3 : ¬ y = x := fun e => by subst e; omega
      simp [h1, h2, h3]
    · obtain rfl : x = y := UInt8.toNat.inj h
      simpa using ih
    · have h1 : y < x := UInt8.lt_iff_toNat_lt.2 h
      have h2 : ¬ x < y := fun e => by have := UInt8.lt_iff_toNat_lt.1 e; omega
      have h3 : ¬ x = y := fun e => by subst e; omega
      simp [h1, h2, h3]

theorem ret_bool {b b' : Bool} (h : b = b') : Ending.returned (.bool b) = Ending.returned (.bool b') := by rw [h]
abbrev six (v : V) (sn sk : Value) : List Value := [.int .i64 v.k, .int .i64 v.n, .int .i64 v.s, .string v.t, sn, sk]
def okN (l : List ByteArray) (i : Nat) : Bool := isNameB (l.getD i noT) && (decide (i = 0) || Op.bytesLess (l.getD (i - 1) noT).toList (l.getD i noT).toList)
theorem fields_iff (v : V) : fieldsB v = true ↔ (∀ i, i < v.names.length → okN v.names i = true) ∧ v.names.length = v.kids.length := by
  unfold fieldsB; rw [Bool.and_eq_true, Bool.and_eq_true, rises_iff, List.all_eq_true, decide_eq_true_iff, and_congr_left_iff]; intro _
  constructor
  · rintro ⟨h1, h2⟩ i hi
    unfold okN; rw [Bool.and_eq_true, Bool.or_eq_true, decide_eq_true_iff]; refine ⟨h1 _ (by simp [hi]), ?_⟩; cases i with
    | zero => exact .inl rfl
    | succ i => exact .inr (h2 i hi)
  · intro h
    constructor
    · intro x hx
      obtain ⟨j, hj, rfl⟩ := List.getElem_of_mem hx; have := h j hj; unfold okN at this; rw [Bool.and_eq_true] at this
      simpa [hj] using this.1
    · intro i hi
      have := h (i + 1) hi; unfold okN at this; rw [Bool.and_eq_true, Bool.or_eq_true, decide_eq_true_iff] at this; exact this.2.resolve_left (by omega)

set_option maxHeartbeats 8000000 in
theorem fields_any {f : Nat} {w : World} {v : V} {cs : List Value} (h : IsV f w v cs) :
    Calls Try.prog 57 #[.agg cs.toArray] w fun e w' => e = .returned (.bool (fieldsB v)) ∧ Below w.heap.size w w' := by
  cases f with
  | zero => exact h.elim
  | succ f =>
  obtain ⟨sn, sk, rfl, -, -, -, -, hn, kp, kc, rfl, kl, kc2, -⟩ := h; have hbel : Below w.heap.size w (w.alloc (.cells (six v sn (.slice kp v.kids.length kc)).toArray 37)) := (Below.refl _ w).alloc (Nat.le_refl _) _; have hR : VBlk 37 (w.alloc (.cells (six v sn (.slice kp v.kids.length kc)).toArray 37)) w.heap.size (six v sn (.slice kp v.kids.length kc)) := VBlk.mk w _ _; have hn1 := hn.below hbel; obtain ⟨np, nc, rfl, nl, nc2, nsz, nr⟩ := hn1; have c4 := hR.cell 4 (by simp); have c5 := hR.cell 5 (by simp); simp only [List.getD_cons_zero, List.getD_cons_succ] at c4 c5; have Hnr := Hid2.mk nr; have Hsz := Hid2.mk nsz; have HB := Hid2.mk hbel; have Hfi := Hid2.mk (fields_iff v); clear hbel hn hR nr nsz; generalize hN : v.names.length = N at nl c4 c5 HB Hnr Hsz Hfi ⊢; generalize hK : v.kids.length = K at kl c4 c5 Hnr Hsz HB Hfi ⊢; generalize v.names = nm at Hnr Hsz Hfi hN ⊢; clear hN hK
  go_enter Try.func57, Try.ntmps57
  go_wp2_with fail
  go_loopw [8] (fun i wr => ∃ k : Nat, k ≤ N ∧ i = .int .i64 (k : Nat) ∧ (∃ n, wr = (w.alloc (.cells (six v (.slice np N nc) (.slice kp K kc)).toArray 37)).drewN n) ∧ ∀ j, j < k → okN nm j = true) (fun i _ => N - (intOf i).toNat)
  case atStart => exact ⟨0, Nat.zero_le _, rfl, ⟨0, rfl⟩, fun j hj => absurd hj (by omega)⟩
  case round =>
    obtain ⟨k, hk, rfl, ⟨n, rfl⟩, hall⟩ := hrel
    by_cases hkN : k < N
    · have hkz : (k : Int) < (N : Int) := by omega
      obtain ⟨b, o, rfl, hb, hr⟩ := Hnr.out (by omega); have ck := hr k hkN; have hka := Hsz.out k hkN; have Hok := Hid2.mk (show okN nm k = (isNameB (nm.getD k noT) && (decide (k = 0) || Op.bytesLess (nm.getD (k - 1) noT).toList (nm.getD k noT).toList)) from rfl); have Hall := Hid2.mk hall
      by_cases hk0 : k = 0
      · have hk0' : ((k : Int) == 0) = true := by simp [hk0]
        have hk0'' : ¬ (0 : Int) < (k : Int) := by omega
        have hk00 := decide_eq_true hk0; rw [hk00] at Hok; clear hr hall hk0 hk00; generalize nm.getD k noT = a at ck hka Hok; generalize nm.getD (k - 1) noT = p at Hok; cases ha : isNameB a with
        | true =>
          rw [ha] at Hok; have Ha := Hid2.mk ha; clear ha
          go_wp2_with (go_fit (isName_any a _); rw [Ha.out]; rintro e w' ⟨rfl, rfl⟩)
          refine ⟨⟨k + 1, by omega, rfl, ⟨_, rfl⟩, fun j hj => (Nat.lt_succ_iff_lt_or_eq.1 hj).elim (Hall.out j) (fun e => by rw [e, Hok.out]; rfl)⟩, by show N - ((k : Int) + 1).toNat < N - ((k : Int)).toNat; omega⟩
        | false =>
          rw [ha] at Hok; have Ha := Hid2.mk ha; clear ha
          go_wp2_with (go_fit (isName_any a _); rw [Ha.out]; rintro e w' ⟨rfl, rfl⟩)
          go_ret
          refine ⟨ret_bool (b := false) (Bool.eq_false_iff.2 fun h => ?_).symm, belowN HB.out _⟩; have := (Hfi.out.1 h).1 k hkN; rw [Hok.out] at this; cases this
      · obtain ⟨m, rfl⟩ : ∃ m, k = m + 1 := ⟨k - 1, by omega⟩
        have cm := hr m (by omega); have hkm : IntKind.i64.wrap (((m + 1 : Nat) : Int) - 1) = (m : Nat) := by rw [IntWalk.i64_in _ (by omega)]; omega
        have hk0'' : (0 : Int) < ((m + 1 : Nat) : Int) := by omega
        have hk00 := decide_eq_false hk0; rw [hk00, Nat.add_sub_cancel] at Hok; clear hr hall hk0 hk00; generalize nm.getD (m + 1) noT = a at ck hka Hok; generalize nm.getD m noT = p at cm Hok; cases ha : isNameB a with
        | true =>
          cases hp : Op.bytesLess p.toList a.toList with
          | true =>
            have hle : (Op.bytesLess a.toList p.toList || a.toList == p.toList) = false := by rw [leq_not, hp]; rfl
            rw [ha, hp] at Hok; have Ha := Hid2.mk ha; have Hp := Hid2.mk hp; clear ha hp
            go_wp2_with (go_fit (isName_any a _); rw [Ha.out]; rintro e w' ⟨rfl, rfl⟩)
            refine ⟨⟨m + 2, by omega, rfl, ⟨_, rfl⟩, fun j hj => (Nat.lt_succ_iff_lt_or_eq.1 hj).elim (Hall.out j) (fun e => by rw [e, Hok.out]; rfl)⟩, by show N - ((m : Int) + 1 + 1).toNat < N - (((m + 1 : Nat) : Int)).toNat; omega⟩
          | false =>
            have hle : (Op.bytesLess a.toList p.toList || a.toList == p.toList) = true := by rw [leq_not, hp]; rfl
            rw [ha, hp] at Hok; have Ha := Hid2.mk ha; have Hp := Hid2.mk hp; clear ha hp
            go_wp2_with (go_fit (isName_any a _); rw [Ha.out]; rintro e w' ⟨rfl, rfl⟩)
            go_ret
            refine ⟨ret_bool (b := false) (Bool.eq_false_iff.2 fun h => ?_).symm, belowN HB.out _⟩; have := (Hfi.out.1 h).1 _ hkN; rw [Hok.out] at this; cases this
        | false =>
          rw [ha] at Hok; have Ha := Hid2.mk ha; clear ha
          go_wp2_with (go_fit (isName_any a _); rw [Ha.out]; rintro e w' ⟨rfl, rfl⟩)
          go_ret
          refine ⟨ret_bool (b := false) (Bool.eq_false_iff.2 fun h => ?_).symm, belowN HB.out _⟩; have := (Hfi.out.1 h).1 _ hkN; rw [Hok.out] at this; cases this
    · obtain rfl : k = N := by omega
      have hd : (k : Int) ≤ k := by omega
      have Hall := Hid2.mk hall; clear hall
      go_wp2_with fail
      go_ret
      refine ⟨ret_bool (b := (k : Int) == K) ?_, belowN HB.out _⟩; cases hf : fieldsB v with
      | true => have := (Hfi.out.1 hf).2; simp [this]
      | false =>
        refine beq_eq_false_iff_ne.2 fun e => ?_; have := Hfi.out.2 ⟨Hall.out, by omega⟩; rw [hf] at this; cases this
end Vl
end Go.Proofs.Ytfpakjbaiohcaaa

namespace Go.Proofs.Ytfpakjbaiohcaaa
open Go.RowKit
namespace Vl

def formC (k n s : Int) (B P E N0 : Bool) : Bool :=
  if k = 1 then B && P && E
  else if k = 2 then decide (n / 2 = 0) && decide (s = 0) && P && E
  else if k = 3 then decide (s = 0) && P && E
  else if k = 4 then decide (1 ≤ s) && decide (s ≤ 18) && decide (¬ n.tmod 10 = 0) && P && E
  else if k = 5 then decide (0 ≤ n) && decide (n ≤ 9007199254740992) && decide (s = 0) && P && E
  else if k = 6 ∨ k = 7 then B && P
  else if k = 8 then B && N0 && E
  else if k = 9 then B && E
  else false
theorem formB_eq (v : V) : formB v = formC v.k v.n v.s (bareB v) (plainB v) (noTextB v) (decide (v.names.length = 0)) := by
  have h : (decide (0 ≤ v.n) && decide (v.n ≤ 1)) = decide (v.n / 2 = 0) := by
    by_cases h : v.n / 2 = 0
    · simp [h]; omega
    · rw [decide_eq_false h, Bool.and_eq_false_iff, decide_eq_false_iff_not, decide_eq_false_iff_not]; omega
  unfold formB formC; rw [h]

theorem IsV.open {f : Nat} {w : World} {v : V} {cs : List Value} (h : IsV f w v cs) :
    ∃ np nc kp kc, cs = [.int .i64 v.k, .int .i64 v.n, .int .i64 v.s, .string v.t, .slice np v.names.length nc, .slice kp v.kids.length kc] ∧
      (-9223372036854775808 ≤ v.n ∧ v.n ≤ 9223372036854775807) ∧ v.t.size ≤ 140737488355328 ∧ v.names.length ≤ nc ∧ nc ≤ 9223372036854775807 ∧ v.kids.length ≤ kc ∧ kc ≤ 9223372036854775807 := by
  cases f with
  | zero => exact h.elim
  | succ f =>
    obtain ⟨sn, sk, rfl, -, hn, -, ht, ⟨np, nc, rfl, nl, nc2, -⟩, ⟨kp, kc, rfl, kl, kc2, -⟩⟩ := h; refine ⟨np, nc, kp, kc, rfl, ?_, ht, nl, nc2, kl, kc2⟩; simp [Lit.wf, IntKind.min, IntKind.max, IntKind.bits, IntKind.signed] at hn
    omega
theorem infoValue : (Try.prog.info? 37).map (·.size) = some 6 := by kernel_rfl

theorem empty_iff (t : ByteArray) : (t.toList == []) = decide (t.size = 0) := by
  have h : t.toList.length = t.size := by rw [ByteArray.toList_eq]; rfl
  cases hl : t.toList with
  | nil => rw [hl] at h; simp at h; simp [← h]
  | cons a l => rw [hl] at h; simp at h; simp [← h]

set_option maxRecDepth 100000 in
set_option maxHeartbeats 8000000 in
theorem shape_B {f : Nat} {w : World} {v : V} {cs : List Value} (h : IsV f w v cs) (hk : v.k = 1 ∨ v.k = 2 ∨ v.k = 3) :
    Calls Try.prog 48 #[.agg cs.toArray] w fun e w' => e = .returned (.int .i64 (shp v)) ∧ Below w.heap.size w w' := by
  obtain ⟨np, nc, kp, kc, hcs, hnn, ht, nl, nc2, kl, kc2⟩ := IsV.open h; have hform := formB_eq v; have hB : bareB v = (decide (v.n = 0) && decide (v.s = 0)) := rfl; have hP : plainB v = (decide (v.names.length = 0) && decide (v.kids.length = 0)) := rfl; have hE : noTextB v = decide (v.t.size = 0) := rfl; have hem := empty_iff v.t; have hshp : shp v = if formB v = false then 3 else if 16384 < v.t.size ∨ 200 < v.kids.length then 5 else if v.k = 9 ∧ fieldsB v = false then 3 else 0 := rfl
  rw [← hE] at hem; generalize formB v = F at hform hshp; generalize bareB v = B at hform hB; generalize plainB v = P at hform hP; generalize noTextB v = E at hform hE hem; generalize hG : fieldsB v = G at hshp; generalize shp v = R at hshp ⊢; generalize hN0 : decide (v.names.length = 0) = N0 at hform hP; generalize v.k = k at hk hcs hform hshp; generalize v.n = n at hcs hform hB hnn; generalize v.s = s at hcs hform hB; generalize v.t = t at hcs hE hem ht hshp; generalize v.names.length = N at hcs hN0 nl; generalize v.kids.length = K at hcs hP kl hshp; have hbel : Below w.heap.size w (w.alloc (.cells cs.toArray 37)) := (Below.refl _ w).alloc (Nat.le_refl _) _; have hR : VBlk 37 (w.alloc (.cells cs.toArray 37)) w.heap.size cs := VBlk.mk w _ _; have h1 := h.below hbel; have HF := Hid2.mk (fun m => fields_any (f := f) (v := v) (h1.below (belowN (Below.refl _ _) m))); rw [hG] at HF; have HR := Hid2.mk hR; have HB := Hid2.mk hbel; have Hshp := Hid2.mk hshp; have Hform := Hid2.mk hform; have hBv := Hid2.mk hB; have hPv := Hid2.mk hP; have hEv := Hid2.mk hE; have hN0v := Hid2.mk hN0; have c0 := hR.cell 0 (by subst hcs; simp); have c1 := hR.cell 1 (by subst hcs; simp); have c2 := hR.cell 2 (by subst hcs; simp); have c3 := hR.cell 3 (by subst hcs; simp); have c4 := hR.cell 4 (by subst hcs; simp); have c5 := hR.cell 5 (by subst hcs; simp); clear h hform hB hP hE hshp hG hbel hR h1 hN0; subst hcs; simp only [List.getD_cons_zero, List.getD_cons_succ] at c0 c1 c2 c3 c4 c5; have Hk := Hid2.mk hk; clear hk
  go_enter Try.func48, Try.ntmps48
  go_upto_region 1 with fail
  generalize hw1 : World.alloc _ _ = w1 at c0 c1 c2 c3 c4 c5 HF HR HB ⊢
  go_cut [3] (fun b wx => b = .bool B ∧ ∃ m, wx = w1.drewN m)
  case first =>
    by_cases h0 : n = 0
    · obtain rfl := h0
      go_wp2_with fail
      go_meet
      exact ⟨congrArg Value.bool (by rw [hBv.out]; by_cases e : s = 0 <;> simp [e]), 0, rfl⟩
    · have h0' : (n == 0) = false := beq_eq_false_iff_ne.2 h0
      go_wp2_with fail
      go_meet
      exact ⟨congrArg Value.bool (by rw [hBv.out]; simp [h0]), 0, rfl⟩
  case rest =>
  obtain ⟨rfl, m1, rfl⟩ := hcut
  go_upto_region 2 with fail
  go_cut [4] (fun b wx => b = .bool P ∧ ∃ m, wx = w1.drewN m)
  case first =>
    by_cases h0 : N = 0
    · obtain rfl := h0
      go_wp2_with fail
      go_meet
      exact ⟨congrArg Value.bool (by rw [hPv.out, ← hN0v.out]; by_cases e : K = 0 <;> simp [e]), m1, rfl⟩
    · have h0' : ((N : Int) == 0) = false := beq_eq_false_iff_ne.2 (by omega)
      go_wp2_with fail
      go_meet
      exact ⟨congrArg Value.bool (by rw [hPv.out, ← hN0v.out]; simp [h0]), m1, rfl⟩
  case rest =>
  obtain ⟨rfl, m2, rfl⟩ := hcut
  go_upto_block 0 with fail
  go_cut [5] (fun b wx => b = .bool F ∧ ∃ m, wx = w1.drewN m)
  case first =>
    clear Hshp HF HR HB hBv hPv hEv hnn
    by_cases k1 : k = 1
    · obtain rfl := k1
      cases B
      · (go_wp2_with fail; go_meet; exact ⟨congrArg Value.bool (by rw [Hid2.out Hform, ← Hid2.out hN0v]; simp [formC, *]), m2, rfl⟩)
      ·
        cases P
        · (go_wp2_with fail; go_meet; exact ⟨congrArg Value.bool (by rw [Hid2.out Hform, ← Hid2.out hN0v]; simp [formC, *]), m2, rfl⟩)
        ·
          (go_wp2_with fail; go_meet; exact ⟨congrArg Value.bool (by rw [Hid2.out Hform, ← Hid2.out hN0v]; simp [formC, *]), m2, rfl⟩)
    have q1 : (k == 1) = false := beq_eq_false_iff_ne.2 k1
    by_cases k2 : k = 2
    · obtain rfl := k2
      by_cases c3 : n / 2 = 0
      ·
        by_cases c2 : s = 0
        · obtain rfl := c2
          cases P
          · (go_wp2_with fail; go_meet; exact ⟨congrArg Value.bool (by rw [Hid2.out Hform, ← Hid2.out hN0v]; simp [formC, *]), m2, rfl⟩)
          ·
            (go_wp2_with fail; go_meet; exact ⟨congrArg Value.bool (by rw [Hid2.out Hform, ← Hid2.out hN0v]; simp [formC, *]), m2, rfl⟩)
        · have : (s == 0) = false := beq_eq_false_iff_ne.2 c2
          (go_wp2_with fail; go_meet; exact ⟨congrArg Value.bool (by rw [Hid2.out Hform, ← Hid2.out hN0v]; simp [formC, *]), m2, rfl⟩)
      · have : (n / 2 == 0) = false := beq_eq_false_iff_ne.2 c3
        (go_wp2_with fail; go_meet; exact ⟨congrArg Value.bool (by rw [Hid2.out Hform, ← Hid2.out hN0v]; simp [formC, *]), m2, rfl⟩)
    have q2 : (k == 2) = false := beq_eq_false_iff_ne.2 k2
    by_cases k3 : k = 3
    · obtain rfl := k3
      by_cases c2 : s = 0
      · obtain rfl := c2
        cases P
        · (go_wp2_with fail; go_meet; exact ⟨congrArg Value.bool (by rw [Hid2.out Hform, ← Hid2.out hN0v]; simp [formC, *]), m2, rfl⟩)
        ·
          (go_wp2_with fail; go_meet; exact ⟨congrArg Value.bool (by rw [Hid2.out Hform, ← Hid2.out hN0v]; simp [formC, *]), m2, rfl⟩)
      · have : (s == 0) = false := beq_eq_false_iff_ne.2 c2
        (go_wp2_with fail; go_meet; exact ⟨congrArg Value.bool (by rw [Hid2.out Hform, ← Hid2.out hN0v]; simp [formC, *]), m2, rfl⟩)
    have q3 : (k == 3) = false := beq_eq_false_iff_ne.2 k3; exact absurd Hk.out (by omega)
  case rest =>
  obtain ⟨rfl, m3, rfl⟩ := hcut; clear Hform hBv hPv hEv hN0v hnn; cases F
  · have Hr := Hid2.mk (show R = 3 by rw [Hshp.out]; rfl)
    clear Hshp
    go_wp2_with fail
    go_ret
    exact ⟨by rw [Hr.out]; rfl, belowN HB.out _⟩
  by_cases d1 : 16384 < t.size
  · have d1' : (16384 : Int) < t.size := by omega
    have Hr := Hid2.mk (show R = 5 by rw [Hshp.out]; simp [d1]); clear Hshp
    go_wp2_with fail
    go_ret
    exact ⟨by rw [Hr.out]; rfl, belowN HB.out _⟩
  have d1' : decide ((16384 : Int) < t.size) = false := decide_eq_false (by omega)
  by_cases d2 : 200 < K
  · have d2' : (200 : Int) < K := by omega
    have Hr := Hid2.mk (show R = 5 by rw [Hshp.out]; simp [d2]); clear Hshp
    go_wp2_with fail
    go_ret
    exact ⟨by rw [Hr.out]; rfl, belowN HB.out _⟩
  have d2' : decide ((200 : Int) < K) = false := decide_eq_false (by omega)
  by_cases d3 : k = 9
  · have Hr := Hid2.mk (show R = if G = false then 3 else 0 by rw [Hshp.out]; simp [d1, d2, d3])
    clear Hshp; subst d3; exact absurd Hk.out (by omega)
  have d3' : (k == 9) = false := beq_eq_false_iff_ne.2 d3; have Hr := Hid2.mk (show R = 0 by rw [Hshp.out]; simp [d1, d2, d3]); clear Hshp
  go_wp2_with fail
  go_ret
  exact ⟨by rw [Hr.out]; rfl, belowN HB.out _⟩
end Vl
end Go.Proofs.Ytfpakjbaiohcaaa

namespace Go.Proofs.Ytfpakjbaiohcaaa
open Go.RowKit
namespace Vl

set_option maxRecDepth 100000 in
set_option maxHeartbeats 8000000 in
theorem shape_C {f : Nat} {w : World} {v : V} {cs : List Value} (h : IsV f w v cs) (hk : v.k = 4) :
    Calls Try.prog 48 #[.agg cs.toArray] w fun e w' => e = .returned (.int .i64 (shp v)) ∧ Below w.heap.size w w' := by
  obtain ⟨np, nc, kp, kc, hcs, hnn, ht, nl, nc2, kl, kc2⟩ := IsV.open h; have hform := formB_eq v; have hB : bareB v = (decide (v.n = 0) && decide (v.s = 0)) := rfl; have hP : plainB v = (decide (v.names.length = 0) && decide (v.kids.length = 0)) := rfl; have hE : noTextB v = decide (v.t.size = 0) := rfl; have hem := empty_iff v.t; have hshp : shp v = if formB v = false then 3 else if 16384 < v.t.size ∨ 200 < v.kids.length then 5 else if v.k = 9 ∧ fieldsB v = false then 3 else 0 := rfl
  rw [← hE] at hem; generalize formB v = F at hform hshp; generalize bareB v = B at hform hB; generalize plainB v = P at hform hP; generalize noTextB v = E at hform hE hem; generalize hG : fieldsB v = G at hshp; generalize shp v = R at hshp ⊢; generalize hN0 : decide (v.names.length = 0) = N0 at hform hP; generalize v.k = k at hk hcs hform hshp; generalize v.n = n at hcs hform hB hnn; generalize v.s = s at hcs hform hB; generalize v.t = t at hcs hE hem ht hshp; generalize v.names.length = N at hcs hN0 nl; generalize v.kids.length = K at hcs hP kl hshp; have hbel : Below w.heap.size w (w.alloc (.cells cs.toArray 37)) := (Below.refl _ w).alloc (Nat.le_refl _) _; have hR : VBlk 37 (w.alloc (.cells cs.toArray 37)) w.heap.size cs := VBlk.mk w _ _; have h1 := h.below hbel; have HF := Hid2.mk (fun m => fields_any (f := f) (v := v) (h1.below (belowN (Below.refl _ _) m))); rw [hG] at HF; have HR := Hid2.mk hR; have HB := Hid2.mk hbel; have Hshp := Hid2.mk hshp; have Hform := Hid2.mk hform; have hBv := Hid2.mk hB; have hPv := Hid2.mk hP; have hEv := Hid2.mk hE; have hN0v := Hid2.mk hN0; have c0 := hR.cell 0 (by subst hcs; simp); have c1 := hR.cell 1 (by subst hcs; simp); have c2 := hR.cell 2 (by subst hcs; simp); have c3 := hR.cell 3 (by subst hcs; simp); have c4 := hR.cell 4 (by subst hcs; simp); have c5 := hR.cell 5 (by subst hcs; simp); clear h hform hB hP hE hshp hG hbel hR h1 hN0; subst hcs; simp only [List.getD_cons_zero, List.getD_cons_succ] at c0 c1 c2 c3 c4 c5; have q1 : (k == 1) = false := beq_eq_false_iff_ne.2 (by omega); have q2 : (k == 2) = false := beq_eq_false_iff_ne.2 (by omega); have q3 : (k == 3) = false := beq_eq_false_iff_ne.2 (by omega); have Hk := Hid2.mk hk; clear hk
  go_enter Try.func48, Try.ntmps48
  go_upto_region 1 with fail
  generalize hw1 : World.alloc _ _ = w1 at c0 c1 c2 c3 c4 c5 HF HR HB ⊢
  go_cut [3] (fun b wx => b = .bool B ∧ ∃ m, wx = w1.drewN m)
  case first =>
    by_cases h0 : n = 0
    · obtain rfl := h0
      go_wp2_with fail
      go_meet
      exact ⟨congrArg Value.bool (by rw [hBv.out]; by_cases e : s = 0 <;> simp [e]), 0, rfl⟩
    · have h0' : (n == 0) = false := beq_eq_false_iff_ne.2 h0
      go_wp2_with fail
      go_meet
      exact ⟨congrArg Value.bool (by rw [hBv.out]; simp [h0]), 0, rfl⟩
  case rest =>
  obtain ⟨rfl, m1, rfl⟩ := hcut
  go_upto_region 2 with fail
  go_cut [4] (fun b wx => b = .bool P ∧ ∃ m, wx = w1.drewN m)
  case first =>
    by_cases h0 : N = 0
    · obtain rfl := h0
      go_wp2_with fail
      go_meet
      exact ⟨congrArg Value.bool (by rw [hPv.out, ← hN0v.out]; by_cases e : K = 0 <;> simp [e]), m1, rfl⟩
    · have h0' : ((N : Int) == 0) = false := beq_eq_false_iff_ne.2 (by omega)
      go_wp2_with fail
      go_meet
      exact ⟨congrArg Value.bool (by rw [hPv.out, ← hN0v.out]; simp [h0]), m1, rfl⟩
  case rest =>
  obtain ⟨rfl, m2, rfl⟩ := hcut
  go_upto_block 0 with fail
  go_cut [5] (fun b wx => b = .bool F ∧ ∃ m, wx = w1.drewN m)
  case first =>
    clear Hshp HF HR HB hBv hPv hEv hnn
    by_cases k4 : k = 4
    · obtain rfl := k4
      by_cases c4 : 1 ≤ s
      ·
        by_cases c3 : s ≤ 18
        ·
          by_cases c2 : n.tmod 10 = 0
          · have : (n.tmod 10 != 0) = false := by simp [c2]
            (go_wp2_with fail; go_meet; exact ⟨congrArg Value.bool (by rw [Hid2.out Hform, ← Hid2.out hN0v]; simp [formC, *]), m2, rfl⟩)
          · have : (n.tmod 10 != 0) = true := by simp [c2]
            cases P
            · (go_wp2_with fail; go_meet; exact ⟨congrArg Value.bool (by rw [Hid2.out Hform, ← Hid2.out hN0v]; simp [formC, *]), m2, rfl⟩)
            ·
              (go_wp2_with fail; go_meet; exact ⟨congrArg Value.bool (by rw [Hid2.out Hform, ← Hid2.out hN0v]; simp [formC, *]), m2, rfl⟩)
        · have : decide (s ≤ 18) = false := decide_eq_false c3
          (go_wp2_with fail; go_meet; exact ⟨congrArg Value.bool (by rw [Hid2.out Hform, ← Hid2.out hN0v]; simp [formC, *]), m2, rfl⟩)
      · have : decide (1 ≤ s) = false := decide_eq_false c4
        (go_wp2_with fail; go_meet; exact ⟨congrArg Value.bool (by rw [Hid2.out Hform, ← Hid2.out hN0v]; simp [formC, *]), m2, rfl⟩)
    have q4 : (k == 4) = false := beq_eq_false_iff_ne.2 k4; exact absurd Hk.out (by omega)
  case rest =>
  obtain ⟨rfl, m3, rfl⟩ := hcut; clear Hform hBv hPv hEv hN0v hnn; cases F
  · have Hr := Hid2.mk (show R = 3 by rw [Hshp.out]; rfl)
    clear Hshp
    go_wp2_with fail
    go_ret
    exact ⟨by rw [Hr.out]; rfl, belowN HB.out _⟩
  by_cases d1 : 16384 < t.size
  · have d1' : (16384 : Int) < t.size := by omega
    have Hr := Hid2.mk (show R = 5 by rw [Hshp.out]; simp [d1]); clear Hshp
    go_wp2_with fail
    go_ret
    exact ⟨by rw [Hr.out]; rfl, belowN HB.out _⟩
  have d1' : decide ((16384 : Int) < t.size) = false := decide_eq_false (by omega)
  by_cases d2 : 200 < K
  · have d2' : (200 : Int) < K := by omega
    have Hr := Hid2.mk (show R = 5 by rw [Hshp.out]; simp [d2]); clear Hshp
    go_wp2_with fail
    go_ret
    exact ⟨by rw [Hr.out]; rfl, belowN HB.out _⟩
  have d2' : decide ((200 : Int) < K) = false := decide_eq_false (by omega)
  by_cases d3 : k = 9
  · have Hr := Hid2.mk (show R = if G = false then 3 else 0 by rw [Hshp.out]; simp [d1, d2, d3])
    clear Hshp; subst d3; exact absurd Hk.out (by omega)
  have d3' : (k == 9) = false := beq_eq_false_iff_ne.2 d3; have Hr := Hid2.mk (show R = 0 by rw [Hshp.out]; simp [d1, d2, d3]); clear Hshp
  go_wp2_with fail
  go_ret
  exact ⟨by rw [Hr.out]; rfl, belowN HB.out _⟩
end Vl
end Go.Proofs.Ytfpakjbaiohcaaa

namespace Go.Proofs.Ytfpakjbaiohcaaa
open Go.RowKit
namespace Vl

set_option maxRecDepth 100000 in
set_option maxHeartbeats 8000000 in
theorem shape_D {f : Nat} {w : World} {v : V} {cs : List Value} (h : IsV f w v cs) (hk : v.k = 5) :
    Calls Try.prog 48 #[.agg cs.toArray] w fun e w' => e = .returned (.int .i64 (shp v)) ∧ Below w.heap.size w w' := by
  obtain ⟨np, nc, kp, kc, hcs, hnn, ht, nl, nc2, kl, kc2⟩ := IsV.open h; have hform := formB_eq v; have hB : bareB v = (decide (v.n = 0) && decide (v.s = 0)) := rfl; have hP : plainB v = (decide (v.names.length = 0) && decide (v.kids.length = 0)) := rfl; have hE : noTextB v = decide (v.t.size = 0) := rfl; have hem := empty_iff v.t; have hshp : shp v = if formB v = false then 3 else if 16384 < v.t.size ∨ 200 < v.kids.length then 5 else if v.k = 9 ∧ fieldsB v = false then 3 else 0 := rfl
  rw [← hE] at hem; generalize formB v = F at hform hshp; generalize bareB v = B at hform hB; generalize plainB v = P at hform hP; generalize noTextB v = E at hform hE hem; generalize hG : fieldsB v = G at hshp; generalize shp v = R at hshp ⊢; generalize hN0 : decide (v.names.length = 0) = N0 at hform hP; generalize v.k = k at hk hcs hform hshp; generalize v.n = n at hcs hform hB hnn; generalize v.s = s at hcs hform hB; generalize v.t = t at hcs hE hem ht hshp; generalize v.names.length = N at hcs hN0 nl; generalize v.kids.length = K at hcs hP kl hshp; have hbel : Below w.heap.size w (w.alloc (.cells cs.toArray 37)) := (Below.refl _ w).alloc (Nat.le_refl _) _; have hR : VBlk 37 (w.alloc (.cells cs.toArray 37)) w.heap.size cs := VBlk.mk w _ _; have h1 := h.below hbel; have HF := Hid2.mk (fun m => fields_any (f := f) (v := v) (h1.below (belowN (Below.refl _ _) m))); rw [hG] at HF; have HR := Hid2.mk hR; have HB := Hid2.mk hbel; have Hshp := Hid2.mk hshp; have Hform := Hid2.mk hform; have hBv := Hid2.mk hB; have hPv := Hid2.mk hP; have hEv := Hid2.mk hE; have hN0v := Hid2.mk hN0; have c0 := hR.cell 0 (by subst hcs; simp); have c1 := hR.cell 1 (by subst hcs; simp); have c2 := hR.cell 2 (by subst hcs; simp); have c3 := hR.cell 3 (by subst hcs; simp); have c4 := hR.cell 4 (by subst hcs; simp); have c5 := hR.cell 5 (by subst hcs; simp); clear h hform hB hP hE hshp hG hbel hR h1 hN0; subst hcs; simp only [List.getD_cons_zero, List.getD_cons_succ] at c0 c1 c2 c3 c4 c5; have q1 : (k == 1) = false := beq_eq_false_iff_ne.2 (by omega); have q2 : (k == 2) = false := beq_eq_false_iff_ne.2 (by omega); have q3 : (k == 3) = false := beq_eq_false_iff_ne.2 (by omega); have q4 : (k == 4) = false := beq_eq_false_iff_ne.2 (by omega); have Hk := Hid2.mk hk; clear hk
  go_enter Try.func48, Try.ntmps48
  go_upto_region 1 with fail
  generalize hw1 : World.alloc _ _ = w1 at c0 c1 c2 c3 c4 c5 HF HR HB ⊢
  go_cut [3] (fun b wx => b = .bool B ∧ ∃ m, wx = w1.drewN m)
  case first =>
    by_cases h0 : n = 0
    · obtain rfl := h0
      go_wp2_with fail
      go_meet
      exact ⟨congrArg Value.bool (by rw [hBv.out]; by_cases e : s = 0 <;> simp [e]), 0, rfl⟩
    · have h0' : (n == 0) = false := beq_eq_false_iff_ne.2 h0
      go_wp2_with fail
      go_meet
      exact ⟨congrArg Value.bool (by rw [hBv.out]; simp [h0]), 0, rfl⟩
  case rest =>
  obtain ⟨rfl, m1, rfl⟩ := hcut
  go_upto_region 2 with fail
  go_cut [4] (fun b wx => b = .bool P ∧ ∃ m, wx = w1.drewN m)
  case first =>
    by_cases h0 : N = 0
    · obtain rfl := h0
      go_wp2_with fail
      go_meet
      exact ⟨congrArg Value.bool (by rw [hPv.out, ← hN0v.out]; by_cases e : K = 0 <;> simp [e]), m1, rfl⟩
    · have h0' : ((N : Int) == 0) = false := beq_eq_false_iff_ne.2 (by omega)
      go_wp2_with fail
      go_meet
      exact ⟨congrArg Value.bool (by rw [hPv.out, ← hN0v.out]; simp [h0]), m1, rfl⟩
  case rest =>
  obtain ⟨rfl, m2, rfl⟩ := hcut
  go_upto_block 0 with fail
  go_cut [5] (fun b wx => b = .bool F ∧ ∃ m, wx = w1.drewN m)
  case first =>
    clear Hshp HF HR HB hBv hPv hEv hnn
    by_cases k5 : k = 5
    · obtain rfl := k5
      by_cases c4 : 0 ≤ n
      ·
        by_cases c3 : n ≤ 9007199254740992
        ·
          by_cases c2 : s = 0
          · obtain rfl := c2
            cases P
            · (go_wp2_with fail; go_meet; exact ⟨congrArg Value.bool (by rw [Hid2.out Hform, ← Hid2.out hN0v]; simp [formC, *]), m2, rfl⟩)
            ·
              (go_wp2_with fail; go_meet; exact ⟨congrArg Value.bool (by rw [Hid2.out Hform, ← Hid2.out hN0v]; simp [formC, *]), m2, rfl⟩)
          · have : (s == 0) = false := beq_eq_false_iff_ne.2 c2
            (go_wp2_with fail; go_meet; exact ⟨congrArg Value.bool (by rw [Hid2.out Hform, ← Hid2.out hN0v]; simp [formC, *]), m2, rfl⟩)
        · have : decide (n ≤ 9007199254740992) = false := decide_eq_false c3
          (go_wp2_with fail; go_meet; exact ⟨congrArg Value.bool (by rw [Hid2.out Hform, ← Hid2.out hN0v]; simp [formC, *]), m2, rfl⟩)
      · have : decide (0 ≤ n) = false := decide_eq_false c4
        (go_wp2_with fail; go_meet; exact ⟨congrArg Value.bool (by rw [Hid2.out Hform, ← Hid2.out hN0v]; simp [formC, *]), m2, rfl⟩)
    have q5 : (k == 5) = false := beq_eq_false_iff_ne.2 k5; exact absurd Hk.out (by omega)
  case rest =>
  obtain ⟨rfl, m3, rfl⟩ := hcut; clear Hform hBv hPv hEv hN0v hnn; cases F
  · have Hr := Hid2.mk (show R = 3 by rw [Hshp.out]; rfl)
    clear Hshp
    go_wp2_with fail
    go_ret
    exact ⟨by rw [Hr.out]; rfl, belowN HB.out _⟩
  by_cases d1 : 16384 < t.size
  · have d1' : (16384 : Int) < t.size := by omega
    have Hr := Hid2.mk (show R = 5 by rw [Hshp.out]; simp [d1]); clear Hshp
    go_wp2_with fail
    go_ret
    exact ⟨by rw [Hr.out]; rfl, belowN HB.out _⟩
  have d1' : decide ((16384 : Int) < t.size) = false := decide_eq_false (by omega)
  by_cases d2 : 200 < K
  · have d2' : (200 : Int) < K := by omega
    have Hr := Hid2.mk (show R = 5 by rw [Hshp.out]; simp [d2]); clear Hshp
    go_wp2_with fail
    go_ret
    exact ⟨by rw [Hr.out]; rfl, belowN HB.out _⟩
  have d2' : decide ((200 : Int) < K) = false := decide_eq_false (by omega)
  by_cases d3 : k = 9
  · have Hr := Hid2.mk (show R = if G = false then 3 else 0 by rw [Hshp.out]; simp [d1, d2, d3])
    clear Hshp; subst d3; exact absurd Hk.out (by omega)
  have d3' : (k == 9) = false := beq_eq_false_iff_ne.2 d3; have Hr := Hid2.mk (show R = 0 by rw [Hshp.out]; simp [d1, d2, d3]); clear Hshp
  go_wp2_with fail
  go_ret
  exact ⟨by rw [Hr.out]; rfl, belowN HB.out _⟩
end Vl
end Go.Proofs.Ytfpakjbaiohcaaa

namespace Go.Proofs.Ytfpakjbaiohcaaa
open Go.RowKit
namespace Vl

set_option maxRecDepth 100000 in
set_option maxHeartbeats 8000000 in
theorem shape_E {f : Nat} {w : World} {v : V} {cs : List Value} (h : IsV f w v cs) (hk : ¬ v.k = 1 ∧ ¬ v.k = 2 ∧ ¬ v.k = 3 ∧ ¬ v.k = 4 ∧ ¬ v.k = 5) :
    Calls Try.prog 48 #[.agg cs.toArray] w fun e w' => e = .returned (.int .i64 (shp v)) ∧ Below w.heap.size w w' := by
  obtain ⟨np, nc, kp, kc, hcs, hnn, ht, nl, nc2, kl, kc2⟩ := IsV.open h; have hform := formB_eq v; have hB : bareB v = (decide (v.n = 0) && decide (v.s = 0)) := rfl; have hP : plainB v = (decide (v.names.length = 0) && decide (v.kids.length = 0)) := rfl; have hE : noTextB v = decide (v.t.size = 0) := rfl; have hem := empty_iff v.t; have hshp : shp v = if formB v = false then 3 else if 16384 < v.t.size ∨ 200 < v.kids.length then 5 else if v.k = 9 ∧ fieldsB v = false then 3 else 0 := rfl
  rw [← hE] at hem; generalize formB v = F at hform hshp; generalize bareB v = B at hform hB; generalize plainB v = P at hform hP; generalize noTextB v = E at hform hE hem; generalize hG : fieldsB v = G at hshp; generalize shp v = R at hshp ⊢; generalize hN0 : decide (v.names.length = 0) = N0 at hform hP; generalize v.k = k at hk hcs hform hshp; generalize v.n = n at hcs hform hB hnn; generalize v.s = s at hcs hform hB; generalize v.t = t at hcs hE hem ht hshp; generalize v.names.length = N at hcs hN0 nl; generalize v.kids.length = K at hcs hP kl hshp; have hbel : Below w.heap.size w (w.alloc (.cells cs.toArray 37)) := (Below.refl _ w).alloc (Nat.le_refl _) _; have hR : VBlk 37 (w.alloc (.cells cs.toArray 37)) w.heap.size cs := VBlk.mk w _ _; have h1 := h.below hbel; have HF := Hid2.mk (fun m => fields_any (f := f) (v := v) (h1.below (belowN (Below.refl _ _) m))); rw [hG] at HF; have HR := Hid2.mk hR; have HB := Hid2.mk hbel; have Hshp := Hid2.mk hshp; have Hform := Hid2.mk hform; have hBv := Hid2.mk hB; have hPv := Hid2.mk hP; have hEv := Hid2.mk hE; have hN0v := Hid2.mk hN0; have c0 := hR.cell 0 (by subst hcs; simp); have c1 := hR.cell 1 (by subst hcs; simp); have c2 := hR.cell 2 (by subst hcs; simp); have c3 := hR.cell 3 (by subst hcs; simp); have c4 := hR.cell 4 (by subst hcs; simp); have c5 := hR.cell 5 (by subst hcs; simp); clear h hform hB hP hE hshp hG hbel hR h1 hN0; subst hcs; simp only [List.getD_cons_zero, List.getD_cons_succ] at c0 c1 c2 c3 c4 c5; have q1 : (k == 1) = false := beq_eq_false_iff_ne.2 (by omega); have q2 : (k == 2) = false := beq_eq_false_iff_ne.2 (by omega); have q3 : (k == 3) = false := beq_eq_false_iff_ne.2 (by omega); have q4 : (k == 4) = false := beq_eq_false_iff_ne.2 (by omega); have q5 : (k == 5) = false := beq_eq_false_iff_ne.2 (by omega); have Hk := Hid2.mk hk; clear hk
  go_enter Try.func48, Try.ntmps48
  go_upto_region 1 with fail
  generalize hw1 : World.alloc _ _ = w1 at c0 c1 c2 c3 c4 c5 HF HR HB ⊢
  go_cut [3] (fun b wx => b = .bool B ∧ ∃ m, wx = w1.drewN m)
  case first =>
    by_cases h0 : n = 0
    · obtain rfl := h0
      go_wp2_with fail
      go_meet
      exact ⟨congrArg Value.bool (by rw [hBv.out]; by_cases e : s = 0 <;> simp [e]), 0, rfl⟩
    · have h0' : (n == 0) = false := beq_eq_false_iff_ne.2 h0
      go_wp2_with fail
      go_meet
      exact ⟨congrArg Value.bool (by rw [hBv.out]; simp [h0]), 0, rfl⟩
  case rest =>
  obtain ⟨rfl, m1, rfl⟩ := hcut
  go_upto_region 2 with fail
  go_cut [4] (fun b wx => b = .bool P ∧ ∃ m, wx = w1.drewN m)
  case first =>
    by_cases h0 : N = 0
    · obtain rfl := h0
      go_wp2_with fail
      go_meet
      exact ⟨congrArg Value.bool (by rw [hPv.out, ← hN0v.out]; by_cases e : K = 0 <;> simp [e]), m1, rfl⟩
    · have h0' : ((N : Int) == 0) = false := beq_eq_false_iff_ne.2 (by omega)
      go_wp2_with fail
      go_meet
      exact ⟨congrArg Value.bool (by rw [hPv.out, ← hN0v.out]; simp [h0]), m1, rfl⟩
  case rest =>
  obtain ⟨rfl, m2, rfl⟩ := hcut
  go_upto_block 0 with fail
  go_cut [5] (fun b wx => b = .bool F ∧ ∃ m, wx = w1.drewN m)
  case first =>
    clear Hshp HF HR HB hBv hPv hEv hnn
    by_cases k6 : k = 6
    · obtain rfl := k6
      cases B
      · (go_wp2_with fail; go_meet; exact ⟨congrArg Value.bool (by rw [Hid2.out Hform, ← Hid2.out hN0v]; simp [formC, *]), m2, rfl⟩)
      ·
        (go_wp2_with fail; go_meet; exact ⟨congrArg Value.bool (by rw [Hid2.out Hform, ← Hid2.out hN0v]; simp [formC, *]), m2, rfl⟩)
    have q6 : (k == 6) = false := beq_eq_false_iff_ne.2 k6
    by_cases k7 : k = 7
    · obtain rfl := k7
      cases B
      · (go_wp2_with fail; go_meet; exact ⟨congrArg Value.bool (by rw [Hid2.out Hform, ← Hid2.out hN0v]; simp [formC, *]), m2, rfl⟩)
      ·
        (go_wp2_with fail; go_meet; exact ⟨congrArg Value.bool (by rw [Hid2.out Hform, ← Hid2.out hN0v]; simp [formC, *]), m2, rfl⟩)
    have q7 : (k == 7) = false := beq_eq_false_iff_ne.2 k7
    by_cases k8 : k = 8
    · obtain rfl := k8
      cases B
      · (go_wp2_with fail; go_meet; exact ⟨congrArg Value.bool (by rw [Hid2.out Hform, ← Hid2.out hN0v]; simp [formC, *]), m2, rfl⟩)
      ·
        by_cases c1 : N = 0
        · obtain rfl := c1
          (go_wp2_with fail; go_meet; exact ⟨congrArg Value.bool (by rw [Hid2.out Hform, ← Hid2.out hN0v]; simp [formC, *]), m2, rfl⟩)
        · have : ((N : Int) == 0) = false := beq_eq_false_iff_ne.2 (by omega)
          (go_wp2_with fail; go_meet; exact ⟨congrArg Value.bool (by rw [Hid2.out Hform, ← Hid2.out hN0v]; simp [formC, *]), m2, rfl⟩)
    have q8 : (k == 8) = false := beq_eq_false_iff_ne.2 k8
    by_cases k9 : k = 9
    · obtain rfl := k9
      cases B
      · (go_wp2_with fail; go_meet; exact ⟨congrArg Value.bool (by rw [Hid2.out Hform, ← Hid2.out hN0v]; simp [formC, *]), m2, rfl⟩)
      ·
        (go_wp2_with fail; go_meet; exact ⟨congrArg Value.bool (by rw [Hid2.out Hform, ← Hid2.out hN0v]; simp [formC, *]), m2, rfl⟩)
    have q9 : (k == 9) = false := beq_eq_false_iff_ne.2 k9
    go_wp2_with fail
    go_meet
    exact ⟨congrArg Value.bool (by rw [Hform.out]; have hk := Hk.out; simp [formC, k6, k7, k8, k9, hk.1, hk.2.1, hk.2.2.1, hk.2.2.2.1, hk.2.2.2.2]), m2, rfl⟩
  case rest =>
  obtain ⟨rfl, m3, rfl⟩ := hcut; clear Hform hBv hPv hEv hN0v hnn; cases F
  · have Hr := Hid2.mk (show R = 3 by rw [Hshp.out]; rfl)
    clear Hshp
    go_wp2_with fail
    go_ret
    exact ⟨by rw [Hr.out]; rfl, belowN HB.out _⟩
  by_cases d1 : 16384 < t.size
  · have d1' : (16384 : Int) < t.size := by omega
    have Hr := Hid2.mk (show R = 5 by rw [Hshp.out]; simp [d1]); clear Hshp
    go_wp2_with fail
    go_ret
    exact ⟨by rw [Hr.out]; rfl, belowN HB.out _⟩
  have d1' : decide ((16384 : Int) < t.size) = false := decide_eq_false (by omega)
  by_cases d2 : 200 < K
  · have d2' : (200 : Int) < K := by omega
    have Hr := Hid2.mk (show R = 5 by rw [Hshp.out]; simp [d2]); clear Hshp
    go_wp2_with fail
    go_ret
    exact ⟨by rw [Hr.out]; rfl, belowN HB.out _⟩
  have d2' : decide ((200 : Int) < K) = false := decide_eq_false (by omega)
  by_cases d3 : k = 9
  · have Hr := Hid2.mk (show R = if G = false then 3 else 0 by rw [Hshp.out]; simp [d1, d2, d3])
    clear Hshp; subst d3; cases G <;>
    (go_wp2_with (first | (refine Ld.load_on (by rfl) 37 (.tmp 1) rfl w.heap.size rfl 37 _ (0, 0) _ HR.out Try.underlying37 rfl infoValue ?_) | (go_fit (HF.out _); rintro e w' ⟨rfl, hbw⟩))
     go_ret
     exact ⟨by rw [Hr.out]; rfl, (belowN HB.out _).trans (hbw.mono HB.out.size)⟩)
  have d3' : (k == 9) = false := beq_eq_false_iff_ne.2 d3; have Hr := Hid2.mk (show R = 0 by rw [Hshp.out]; simp [d1, d2, d3]); clear Hshp
  go_wp2_with fail
  go_ret
  exact ⟨by rw [Hr.out]; rfl, belowN HB.out _⟩
end Vl
end Go.Proofs.Ytfpakjbaiohcaaa

namespace Go.Proofs.Ytfpakjbaiohcaaa
open Go.RowKit
namespace Vl

theorem shape_any {f : Nat} {w : World} {v : V} {cs : List Value} (h : IsV f w v cs) :
    Calls Try.prog 48 #[.agg cs.toArray] w fun e w' => e = .returned (.int .i64 (shp v)) ∧ Below w.heap.size w w' := by
  by_cases h1 : v.k = 1 ∨ v.k = 2 ∨ v.k = 3
  · exact shape_B h h1
  by_cases h4 : v.k = 4
  · exact shape_C h h4
  by_cases h5 : v.k = 5
  · exact shape_D h h5
  exact shape_E h ⟨fun e => h1 (.inl e), fun e => h1 (.inr (.inl e)), fun e => h1 (.inr (.inr e)), h4, h5⟩

theorem IsV.kids {f : Nat} {w : World} {v : V} {cs : List Value} (h : IsV (f + 1) w v cs) :
    ∃ sn kp kc, cs = [.int .i64 v.k, .int .i64 v.n, .int .i64 v.s, .string v.t, sn, .slice kp v.kids.length kc] ∧ v.kids.length ≤ kc ∧ kc ≤ 9223372036854775807 ∧
      (0 < v.kids.length → ∃ b o, kp = some ⟨b, o, none⟩ ∧ b < w.heap.size ∧ ∀ j, j < v.kids.length → ∃ c, c.length = 6 ∧ IsV f w (v.kids.getD j noV) c ∧ w.rangeAt b (o + j * 6) c) := by
  obtain ⟨sn, sk, rfl, -, -, -, -, -, ⟨kp, kc, rfl, kl, kc2, kr⟩⟩ := h; exact ⟨sn, kp, kc, rfl, kl, kc2, kr⟩

theorem IsV.ones {f : Nat} {w : World} {v : V} {cs : List Value} (h : IsV f w v cs) : cs.toArray.all (·.oneCell') = true := by
  obtain ⟨np, nc, kp, kc, rfl, -⟩ := IsV.open h; simp [Value.oneCell']
abbrev zero6 : List Value := [.int .i64 0, .int .i64 0, .int .i64 0, .string ByteArray.empty, .slice none 0 0, .slice none 0 0]

set_option maxRecDepth 100000 in
set_option maxHeartbeats 8000000 in
theorem check_any : ∀ {f : Nat} {w : World} {v : V} {cs : List Value} (m : Nat) (d : Int), IsV f w v cs → m ≤ 16 → d = 17 - (m : Int) →
    Calls Try.prog 29 #[.agg cs.toArray, .int .i64 d] w fun e w' => e = .returned (.int .i64 (chk m v)) ∧ Below w.heap.size w w'
  | 0, _, _, _, _, _, h, _, _ => h.elim
  | f + 1, w, v, cs, m, d, h, hm, hd => by
    have ih : ∀ {w : World} {v : V} {cs : List Value} (m : Nat) (d : Int), IsV f w v cs → m ≤ 16 → d = 17 - (m : Int) → Calls Try.prog 29 #[.agg cs.toArray, .int .i64 d] w fun e w' => e = .returned (.int .i64 (chk m v)) ∧ Below w.heap.size w w' := @check_any f; obtain ⟨sn, kp, kc, hcs, kl, kc2, kr⟩ := IsV.kids h; have hlen := h.len; have hbel : Below w.heap.size w (w.alloc (.cells cs.toArray 37)) := (Below.refl _ w).alloc (Nat.le_refl _) _; have hR : VBlk 37 (w.alloc (.cells cs.toArray 37)) w.heap.size cs := VBlk.mk w _ _; have h1 := h.below hbel; have HF := Hid2.mk (shape_any (f := f + 1) (v := v) h1); have HR := Hid2.mk hR; have HB := Hid2.mk hbel; have Hkr := Hid2.mk kr; have c5 := hR.cell 5 (by subst hcs; simp); have hinf : (Try.prog.info? 37).map (·.size) = some cs.toArray.size := by rw [infoValue]; simp [hlen]
    have Hih := Hid2.mk @ih; clear h hbel hR h1 kr ih; cases m with
    | zero =>
      have hd1 : 16 < d := by omega
      clear hd; clear hinf HF Hih; subst hcs; simp only [List.getD_cons_zero, List.getD_cons_succ] at c5
      go_enter Try.func29, Try.ntmps29
      go_wp2_with fail
      go_ret
      exact ⟨rfl, HB.out⟩
    | succ m =>
      have hd1 : d ≤ 16 := by omega
      have hd2 : 1 ≤ d := by omega
      have hd3 : d + 1 = 17 - (m : Int) := by omega
      have Hd3 := Hid2.mk hd3; have Hm := Hid2.mk (show m ≤ 16 by omega); have Hchk := Hid2.mk (show chk (m + 1) v = if shp v = 0 then firstBad (v.kids.map (chk m)) else shp v from rfl); have Hcl := Hid2.mk hcs; clear hd hm hd3; subst hcs; simp only [List.getD_cons_zero, List.getD_cons_succ] at c5; generalize hS : shp v = S at HF Hchk; generalize chk (m + 1) v = R at Hchk ⊢; clear hS
      by_cases h0 : S = 0
      · have Hr := Hid2.mk (show R = firstBad (v.kids.map (chk m)) by rw [Hchk.out, if_pos h0])
        clear Hchk; rw [h0] at HF; clear h0
        go_enter Try.func29, Try.ntmps29
        generalize hw1 : World.alloc _ _ = w1 at c5 HF HR HB ⊢
        go_wp2_with (first | (refine Ld.load_on (by rfl) 37 (.tmp 2) rfl w.heap.size rfl 37 _ (0, 0) _ HR.out Try.underlying37 rfl hinf ?_) | (go_fit HF.out; rintro e w' ⟨rfl, hbw⟩; have c5' := (hbw.cell (p := ⟨w.heap.size, 5, none⟩) (VBlk.lt HR.out)).trans c5))
        have Hbw := Hid2.mk (HB.out.trans (hbw.mono HB.out.size)); have Hkr1 := Hid2.mk (fun h0 => Hkr.out h0); clear hbw c5 c5' HR hinf
        go_loopw [19] (fun i wr => ∃ k : Nat, k ≤ v.kids.length ∧ i = .int .i64 (k : Nat) ∧ Below w.heap.size w wr ∧ ∀ j, j < k → chk m (v.kids.getD j noV) = 0) (fun i _ => v.kids.length - (intOf i).toNat)
        case atStart => exact ⟨0, Nat.zero_le _, rfl, Hbw.out, fun j hj => absurd hj (by omega)⟩
        case round =>
          clear Hbw; obtain ⟨k, hk, rfl, hbr, hall⟩ := hrel; have Hbr := Hid2.mk hbr; have Hall := Hid2.mk hall; clear hbr hall
          by_cases hkN : k < v.kids.length
          · have hkz : (k : Int) < (v.kids.length : Int) := by omega
            obtain ⟨b, o, rfl, hb, hr⟩ := Hkr.out (by omega); obtain ⟨c, hc6, hci, hcr⟩ := hr k hkN; have Hc1 := Hid2.mk (show wr.rangeAt b (o + k * 6) c from fun i u hu => by rw [Hbr.out.cell (p := ⟨b, o + k * 6 + i, none⟩) hb]; exact hcr i u hu); have Hci := Hid2.mk hci; have hic : (Try.prog.info? 37).map (·.size) = some c.length := by rw [infoValue, hc6]
            have hone := IsV.ones hci; have hinf2 : (Try.prog.info? 37).map (·.size) = some c.toArray.size := by rw [infoValue]; simp [hc6]
            have hZ : VBlk 37 (wr.alloc (.cells zero6.toArray 37)) wr.heap.size zero6 := VBlk.mk wr _ _; have hZ2 : VBlk 37 ((wr.alloc (.cells zero6.toArray 37)).setRow wr.heap.size c.toArray) wr.heap.size c := hZ.setRow c; have hbz : Below w.heap.size w ((wr.alloc (.cells zero6.toArray 37)).setRow wr.heap.size c.toArray) := below_setRow (Hbr.out.alloc Hbr.out.size _) Hbr.out.size _; have Hca := Hid2.mk (Hih.out m (d + 1) (hci.below hbz) Hm.out Hd3.out); have HZ := Hid2.mk hZ; have HZ2 := Hid2.mk hZ2; have Hbz := Hid2.mk hbz; have Hck := Hid2.mk (show (v.kids.map (chk m)).getD k 0 = chk m (v.kids.getD k noV) from chk_map m v.kids k hkN); generalize hx : chk m (v.kids.getD k noV) = x at Hca Hck; have Hx := Hid2.mk hx; clear hr hcr hci Hkr Hkr1 hZ hZ2 hbz hx
            by_cases hx0 : x = 0
            · obtain rfl := hx0
              go_wp2_with (first | (refine wpList_load_mid rfl 37 (.tmp 21) rfl b (o + k * 6) rfl c _ Hc1.out Try.underlying37 rfl hic ?_) | (refine wpList_store_row rfl 37 (.tmp 7) (.tmp 22) rfl wr.heap.size c.toArray rfl rfl 37 zero6.toArray HZ.out hinf2 (by simp [hc6]) hone ?_) | (refine Ld.load_on (by rfl) 37 (.tmp 7) rfl wr.heap.size rfl 37 _ (0, 0) _ HZ2.out Try.underlying37 rfl hinf2 ?_) | (go_fit Hca.out; rintro e w' ⟨rfl, hbw⟩))
              refine ⟨⟨k + 1, by omega, rfl, Hbz.out.trans (hbw.mono Hbz.out.size), fun j hj => (Nat.lt_succ_iff_lt_or_eq.1 hj).elim (Hall.out j) (fun e => by rw [e]; exact Hx.out)⟩, ?_⟩
              show v.kids.length - ((k : Int) + 1).toNat < v.kids.length - (k : Int).toNat
              omega
            · have hx0' : (x == 0) = false := beq_eq_false_iff_ne.2 hx0
              go_wp2_with (first | (refine wpList_load_mid rfl 37 (.tmp 21) rfl b (o + k * 6) rfl c _ Hc1.out Try.underlying37 rfl hic ?_) | (refine wpList_store_row rfl 37 (.tmp 7) (.tmp 22) rfl wr.heap.size c.toArray rfl rfl 37 zero6.toArray HZ.out hinf2 (by simp [hc6]) hone ?_) | (refine Ld.load_on (by rfl) 37 (.tmp 7) rfl wr.heap.size rfl 37 _ (0, 0) _ HZ2.out Try.underlying37 rfl hinf2 ?_) | (go_fit Hca.out; rintro e w' ⟨rfl, hbw⟩))
              go_ret
              refine ⟨?_, Hbz.out.trans (hbw.mono Hbz.out.size)⟩; rw [Hr.out, firstBad_take (i := k) (by rw [List.length_map]; exact hkN) (fun j hj => by rw [chk_map m v.kids j (by omega)]; exact Hall.out j hj) (by rw [Hck.out]; exact hx0), Hck.out]
              rfl
          · obtain rfl : k = v.kids.length := by omega
            have hkz : (v.kids.length : Int) ≤ (v.kids.length : Int) := by omega
            have Hr2 := Hid2.mk (show R = 0 by rw [Hr.out]; exact firstBad_all fun j hj => by rw [List.length_map] at hj; rw [chk_map m v.kids j hj]; exact Hall.out j hj)
            go_wp2_with fail
            go_ret
            exact ⟨by rw [Hr2.out]; rfl, Hbr.out⟩
      · have Hr := Hid2.mk (show R = S by rw [Hchk.out, if_neg h0])
        have h0' : (S == 0) = false := beq_eq_false_iff_ne.2 h0
        go_enter Try.func29, Try.ntmps29
        go_wp2_with (first | (refine Ld.load_on (by rfl) 37 (.tmp 2) rfl w.heap.size rfl 37 _ (0, 0) _ HR.out Try.underlying37 rfl hinf ?_) | (go_fit HF.out; rintro e w' ⟨rfl, hbw⟩))
        go_ret
        exact ⟨by rw [Hr.out]; rfl, HB.out.trans (hbw.mono HB.out.size)⟩

set_option maxHeartbeats 800000 in
theorem Check_any {f : Nat} {w : World} {v : V} {cs : List Value} (h : IsV f w v cs) :
    Calls Try.prog 18 #[.agg cs.toArray] w fun e w' => e = .returned (.int .i64 (chk 16 v)) ∧ Below w.heap.size w w' := by
  have hlen := h.len; have hbel : Below w.heap.size w (w.alloc (.cells cs.toArray 37)) := (Below.refl _ w).alloc (Nat.le_refl _) _; have hR : VBlk 37 (w.alloc (.cells cs.toArray 37)) w.heap.size cs := VBlk.mk w _ _; have HF := Hid2.mk (check_any (f := f) (v := v) 16 1 (h.below hbel) (by omega) (by omega)); have HR := Hid2.mk hR; have HB := Hid2.mk hbel; have hinf : (Try.prog.info? 37).map (·.size) = some cs.toArray.size := by rw [infoValue]; simp [hlen]
  clear h hbel hR hlen
  go_enter Try.func18, Try.ntmps18
  go_wp2_with (first | (refine Ld.load_on (by rfl) 37 (.tmp 1) rfl w.heap.size rfl 37 _ (0, 0) _ HR.out Try.underlying37 rfl hinf ?_) | (go_fit HF.out; rintro e w' ⟨rfl, hbw⟩))
  go_ret
  exact ⟨rfl, HB.out.trans (hbw.mono HB.out.size)⟩
end Vl
end Go.Proofs.Ytfpakjbaiohcaaa

namespace Go.Proofs.Ytfpakjbaiohcaaa
open Go.RowKit
namespace K

def keyOf (l : List V) : ByteArray := if firstBad (l.map (chk 16)) = 0 then strOfNums (keysV 16 l) else ⟨#[]⟩
theorem take_V {l : List V} {i : Nat} (h : i < l.length) : l.take (i + 1) = l.take i ++ [l.getD i noV] := by
  rw [List.take_add_one]; simp [h]
theorem flatMap_take_le {g : V → List Int} (l : List V) {i : Nat} : ((l.take i).flatMap g).length ≤ (l.flatMap g).length := by
  have : l.flatMap g = (l.take i).flatMap g ++ (l.drop i).flatMap g := by rw [← List.flatMap_append, List.take_append_drop]
  rw [this, List.length_append]; omega

theorem Key_any {f : Nat} {w : World} {sl : Value} {l : List V} (h : IsVs f w sl l) (hl : l.length ≤ 9223372036854775807) (hm : firstBad (l.map (chk 16)) = 0 → (keysV 16 l).length ≤ 70368744177664) :
    Calls Try.prog 8 #[sl] w fun e w' => e = .returned (.tuple #[.string (keyOf l), .int .i64 (firstBad (l.map (chk 16)))]) ∧ Below w.heap.size w w' := by
  obtain ⟨sp, cap, rfl, hcap1, hcap2, hrow⟩ := h; refine enter (args := [.slice sp l.length cap]) Try.func8 rfl Try.ntmps8 rfl ?_; refine K.kgo ?_; refine WC.loop (fun i : Nat => [(0, .slice sp l.length cap), (10, .slice sp l.length cap), (11, .int .i64 l.length), (12, .int .i64 i)])
    (fun i w' => i ≤ l.length ∧ Below w.heap.size w w' ∧ ∀ j, j < i → chk 16 (l.getD j noV) = 0) (fun i => l.length - i) 0 ⟨rfl, rfl, rfl, rfl, trivial⟩ ⟨Nat.zero_le _, Below.refl _ _, fun j hj => absurd hj (by omega)⟩ ?_
  rintro i wr ⟨hi, hbel, hall⟩
  by_cases hik : i < l.length
  · obtain ⟨kb, ko, rfl, hkb, hcells⟩ := hrow (by omega)
    obtain ⟨c, hc6, hci, hcr⟩ := hcells i hik; have hcr' : wr.rangeAt kb (ko + i * 6) c := fun j u hu => by rw [hbel.cell (p := ⟨kb, ko + i * 6 + j, none⟩) hkb]; exact hcr j u hu
    refine K.kgo ?_; refine WL.idx i (ko + i * 6) rfl rfl rfl rfl rfl rfl rfl rfl hik rfl ?_; refine WL.loadMid rfl rfl rfl rfl rfl rfl hcr' hc6 ?_; refine WL.alloc (z := .agg #[.int .i64 0, .int .i64 0, .int .i64 0, .string ByteArray.empty, .slice none 0 0, .slice none 0 0]) rfl rfl rfl rfl (fun _ => by kernel_rfl) fun g2 w2 hf2 => ?_; refine WL.storeRow rfl rfl rfl rfl rfl rfl hf2.blk hc6 rfl (IsV.one hci) ?_; have hb3 : Below wr.heap.size wr (w2.setRow g2 c.toArray) := below_setRow hf2.below (by rw [hf2.eq]; exact Nat.le_refl _) _; have hblk : VBlk 37 (w2.setRow g2 c.toArray) g2 c := hf2.blk.setRow c; generalize w2.setRow g2 c.toArray = w3 at hb3 hblk; have hbel3 : Below w.heap.size w w3 := hbel.trans (hb3.mono hbel.size); refine K.kgo ?_; refine WL.loadMid rfl rfl rfl rfl rfl rfl (VBlk.rangeAt hblk) hc6 ?_; refine WL.call rfl rfl rfl rfl rfl Try.func18 rfl (by kernel_rfl) (Vl.Check_any (hci.below hbel3)) ?_; rintro e w4 ⟨rfl, hb4⟩; refine ⟨_, rfl, ?_⟩; have hbel4 : Below w.heap.size w w4 := hbel3.trans (hb4.mono hbel3.size)
    by_cases h0 : chk 16 (l.getD i noV) = 0
    · refine K.kgo ?_
      refine WQ.again (i + 1) ⟨rfl, rfl, rfl, rfl, trivial⟩ ⟨hik, hbel4, fun j hj => (Nat.lt_succ_iff_lt_or_eq.1 hj).elim (hall j) (fun e => by rw [e]; exact h0)⟩ (by show l.length - (i + 1) < l.length - i; omega)
    · have hfb : firstBad (l.map (chk 16)) = chk 16 (l.getD i noV) := by
        rw [firstBad_take (i := i) (by rw [List.length_map]; exact hik) (fun j hj => by rw [chk_map 16 l j (by omega)]; exact hall j hj) (by rw [chk_map 16 l i hik]; exact h0), chk_map 16 l i hik]
      refine K.kgo ?_; refine WQ.ret2 rfl rfl rfl ⟨?_, hbel4⟩; unfold keyOf; rw [hfb, if_neg h0]
  · obtain rfl : i = l.length := by omega
    have hfb : firstBad (l.map (chk 16)) = 0 := firstBad_all fun j hj => by rw [List.length_map] at hj; rw [chk_map 16 l j hj]; exact hall j hj
    have hm' := hm hfb; refine K.kgo ?_; refine WC.loop (fun i : Nat × Value => [(7, i.2), (22, .slice sp l.length cap), (23, .int .i64 l.length), (24, .int .i64 i.1)])
      (fun i w' => i.1 ≤ l.length ∧ Bu w' i.2 (keysV 16 (l.take i.1)) ∧ Apart w w' i.2) (fun i => l.length - i.1) (0, .slice none 0 0) ⟨rfl, rfl, rfl, rfl, trivial⟩
      ⟨Nat.zero_le _, Bu.nil _, hbel, fun g hg => by cases hg⟩ ?_
    rintro ⟨i, bb⟩ wr2 ⟨hi2, hbr, hap⟩; simp only at hi2 hbr hap ⊢
    by_cases hik2 : i < l.length
    · obtain ⟨kb, ko, rfl, hkb, hcells⟩ := hrow (by omega)
      obtain ⟨c, hc6, hci, hcr⟩ := hcells i hik2; have hcr' : wr2.rangeAt kb (ko + i * 6) c := fun j u hu => by rw [hap.below.cell (p := ⟨kb, ko + i * 6 + j, none⟩) hkb]; exact hcr j u hu
      have hstep : keysV 16 (l.take (i + 1)) = keysV 16 (l.take i) ++ keyV 16 (l.getD i noV) := by unfold keysV; rw [take_V hik2, List.flatMap_append]; simp
      have hle : (keysV 16 (l.take (i + 1))).length ≤ 70368744177664 := Nat.le_trans (flatMap_take_le l) hm'; rw [hstep, List.length_append] at hle; refine K.kgo ?_; refine WL.idx i (ko + i * 6) rfl rfl rfl rfl rfl rfl rfl rfl hik2 rfl ?_; refine WL.loadMid rfl rfl rfl rfl rfl rfl hcr' hc6 ?_; refine WL.alloc (z := .agg #[.int .i64 0, .int .i64 0, .int .i64 0, .string ByteArray.empty, .slice none 0 0, .slice none 0 0]) rfl rfl rfl rfl (fun _ => by kernel_rfl) fun g2 w2 hf2 => ?_; refine WL.storeRow rfl rfl rfl rfl rfl rfl hf2.blk hc6 rfl (IsV.one hci) ?_; have hb3 : Below wr2.heap.size wr2 (w2.setRow g2 c.toArray) := below_setRow hf2.below (by rw [hf2.eq]; exact Nat.le_refl _) _; have hblk : VBlk 37 (w2.setRow g2 c.toArray) g2 c := hf2.blk.setRow c; generalize w2.setRow g2 c.toArray = w3 at hb3 hblk; have hap3 : Apart w w3 bb := ⟨hap.below.trans (hb3.mono hap.below.size), hap.own⟩; refine K.kgo ?_; refine WL.loadMid rfl rfl rfl rfl rfl rfl (VBlk.rangeAt hblk) hc6 ?_; refine WL.call rfl rfl rfl rfl rfl Try.func19 rfl (by kernel_rfl) (lay_all 16 hci (hall i hik2) (hbr.below hb3) hap3 hle) ?_; rintro e w4 ⟨b4, rfl, hb4, hg4⟩; refine ⟨_, rfl, ?_⟩; refine K.kgo ?_; refine WQ.again (i + 1, b4) ⟨rfl, rfl, rfl, rfl, trivial⟩ ⟨hik2, ?_, hap3.grow hg4⟩ (by show l.length - (i + 1) < l.length - i; omega)
      show Bu w4 b4 (keysV 16 (l.take (i + 1)))
      rw [hstep]; exact hb4
    · obtain rfl : i = l.length := by omega
      refine K.kgo ?_; refine WL.strOf rfl rfl rfl rfl rfl rfl rfl rfl hbr.sl ?_; refine K.kgo ?_; refine WQ.ret2 rfl rfl rfl ⟨?_, hap.below⟩; unfold keyOf; rw [hfb, if_pos rfl, List.take_length]
end K
end Go.Proofs.Ytfpakjbaiohcaaa

namespace Go.Proofs.Ytfpakjbaiohcaaa
open Go.RowKit
namespace K
open Vl (formC formB_eq okN fields_iff)

theorem chk_bad {m : Nat} {v : V} {x : Int} (h : shp v = x) (h0 : ¬ x = 0) : chk (m + 1) v = x := by
  unfold chk; rw [if_neg (by rw [h]; exact h0)]; exact h
theorem shp_form3 {v : V} (h : formB v = false) : shp v = 3 := by unfold shp; rw [if_pos h]
theorem text_ne (v : V) : (!(v.t.toList == (ByteArray.mk #[]).toList)) = !noTextB v := by
  have h0 : (ByteArray.mk #[]).toList = [] := by decide +kernel
  have hl : v.t.toList.length = v.t.size := by rw [ByteArray.toList_eq]; rfl
  rw [h0]; unfold noTextB; cases h : v.t.toList with
  | nil => rw [h] at hl; simp at hl; simp [← hl]
  | cons a r => rw [h] at hl; simp at hl; simp [← hl]
theorem ret_i64 {x y : Int} (h : x = y) : Ending.returned (.int .i64 x) = .returned (.int .i64 y) := by rw [h]


set_option maxRecDepth 100000 in
set_option maxHeartbeats 16000000 in
theorem rchk_k1 {f : Nat} {w : World} {v : V} {cs : List Value} {m : Nat} {d : Int} (hv : IsV (f + 1) w v cs) (q : v.k = 1) (_hd1 : d ≤ 16) (_hd0 : 0 ≤ d) :
    Calls Try.prog 34 #[.agg cs.toArray, .int .i64 d] w fun e w' => e = .returned (.int .i64 (chk (m + 1) v)) ∧ Below w.heap.size w w' := by
  obtain ⟨sn, sk, rfl, -, hn64, -, htz, ⟨np, nc, rfl, nl, nc2, nsz, nr⟩, ⟨sp, cap, rfl, hcap1, hcap2, hrow⟩⟩ := hv; have hn : -9223372036854775808 ≤ v.n ∧ v.n ≤ 9223372036854775807 := by simp [Lit.wf, IntKind.min, IntKind.max, IntKind.bits, IntKind.signed] at hn64; omega
  clear hn64; refine enter (args := [.agg (six v (.slice np v.names.length nc) (.slice sp v.kids.length cap)).toArray, .int .i64 d]) Try.func34 rfl Try.ntmps34 rfl ?_; refine K.kgo ?_; refine WL.box rfl rfl rfl rfl rfl fun g w1 hf => ?_; have hR : VBlk 37 w1 g (six v (.slice np v.names.length nc) (.slice sp v.kids.length cap)) := hf.blk; have hbel : Below w.heap.size w w1 := hf.below; have c0 : w1.cell? ⟨g, 0, none⟩ = some (.int .i64 v.k) := hR.cell 0 (by simp); have c1 : w1.cell? ⟨g, 1, none⟩ = some (.int .i64 v.n) := hR.cell 1 (by simp); have c2 : w1.cell? ⟨g, 2, none⟩ = some (.int .i64 v.s) := hR.cell 2 (by simp); have c3 : w1.cell? ⟨g, 3, none⟩ = some (.string v.t) := hR.cell 3 (by simp); have c4 : w1.cell? ⟨g, 4, none⟩ = some (.slice np v.names.length nc) := hR.cell 4 (by simp); have c5 : w1.cell? ⟨g, 5, none⟩ = some (.slice sp v.kids.length cap) := hR.cell 5 (by simp); clear hf; have hfc := formB_eq v; have hB : bareB v = (decide (v.n = 0) && decide (v.s = 0)) := rfl; have hP : plainB v = (decide (v.names.length = 0) && decide (v.kids.length = 0)) := rfl; have hE := text_ne v; have bad3 : formB v = false → Ending.returned (.int .i64 3) = .returned (.int .i64 (chk (m + 1) v)) ∧ Below w.heap.size w w1 := fun h => ⟨ret_i64 (chk_bad (shp_form3 h) (by decide)).symm, hbel⟩; refine K.kgb ?_; refine WL.as 5 (.bool (!noTextB v)) rfl (congrArg Value.bool hE) ?_; refine WL.mid (fun _ : Unit => [(1, .int .i64 d), (2, .pointer (some ⟨g, 0, none⟩)), (5, .bool (!noTextB v)), (6, .bool (!plainB v))]) (fun _ w' => w1 = w') rfl ?_ ?_
  · by_cases hK : v.kids.length = 0
    · have hK0 : ¬ (0 : Int) < v.kids.length := by omega
      refine WL.as 19 (.bool false) rfl (congrArg Value.bool (decide_eq_false hK0)) ?_
      by_cases hN : v.names.length = 0
      · refine K.kgl ?_
        exact WQ.meet () ⟨rfl, rfl, rfl, congrArg (fun b => some (Value.bool b)) (by rw [hP]; simp [hN, hK]), trivial⟩ rfl
      · refine K.kgl ?_
        exact WQ.meet () ⟨rfl, rfl, rfl, congrArg (fun b => some (Value.bool b)) (by rw [hP]; simp [hN]), trivial⟩ rfl
    · have hK0 : (0 : Int) < v.kids.length := by omega
      refine WL.as 19 (.bool true) rfl (congrArg Value.bool (decide_eq_true hK0)) ?_; refine K.kgl ?_; exact WQ.meet () ⟨rfl, rfl, rfl, congrArg (fun b => some (Value.bool b)) (by rw [hP]; simp [hK]), trivial⟩ rfl
  rintro _ _ rfl; have shp5 : formB v = true → (16384 < v.t.size ∨ 200 < v.kids.length) → shp v = 5 := fun h1 h2 => by unfold shp; rw [if_neg (by rw [h1]; exact Bool.noConfusion), if_pos h2]
  have shp0 : formB v = true → v.t.size ≤ 16384 → v.kids.length ≤ 200 → (v.k = 9 → fieldsB v = true) → shp v = 0 := fun h1 h2 h3 h4 => by
    unfold shp; rw [if_neg (by rw [h1]; exact Bool.noConfusion), if_neg (by omega), if_neg (fun h => by have := h4 h.1; rw [this] at h; exact Bool.noConfusion h.2)]
  have hEt : noTextB v = true → v.t.size = 0 := fun h => of_decide_eq_true h; have hPk : plainB v = true → v.kids.length = 0 := fun h => by rw [hP] at h; rw [Bool.and_eq_true] at h; exact of_decide_eq_true h.2
  have chk0 : shp v = 0 → v.kids.length = 0 → chk (m + 1) v = 0 := fun h1 h2 => by
    unfold chk; rw [if_pos h1, List.eq_nil_of_length_eq_zero h2]
    rfl
  clear hE hP

  by_cases a1 : v.n = 0
  · skip
    by_cases a2 : v.s = 0
    · skip
      cases hE1 : noTextB v with
      | false =>
        rw [hE1] at hfc; refine K.kgl ?_; exact WQ.ret1 rfl rfl (bad3 (by rw [hfc]; simp [formC, *]))
      | true =>
        rw [hE1] at hfc; cases hP1 : plainB v with
        | false =>
          rw [hP1] at hfc; refine K.kgl ?_; exact WQ.ret1 rfl rfl (bad3 (by rw [hfc]; simp [formC, *]))
        | true =>
          rw [hP1] at hfc; have h0 : shp v = 0 := shp0 (by rw [hfc]; simp [formC, *]) (by have := hEt hE1; omega) (by have := hPk hP1; omega) (fun h => by omega); have hk0 : v.kids.length = 0 := hPk hP1; refine K.kgl ?_; refine WC.loop (fun _ : Unit => [(1, .int .i64 d), (2, .pointer (some ⟨g, 0, none⟩)), (8, .int .i64 0)]) (fun _ w' => w1 = w') (fun _ => 0) () ⟨rfl, rfl, rfl, trivial⟩ rfl ?_; rintro _ _ rfl; refine K.kgl ?_; exact WQ.ret1 rfl rfl ⟨ret_i64 (chk0 h0 hk0).symm, hbel⟩
    · skip
      refine K.kgl ?_; exact WQ.ret1 rfl rfl (bad3 (by rw [hfc]; simp [formC, *]))
  · skip
    refine K.kgl ?_; exact WQ.ret1 rfl rfl (bad3 (by rw [hfc]; simp [formC, *]))

set_option maxRecDepth 100000 in
set_option maxHeartbeats 16000000 in
theorem rchk_k2 {f : Nat} {w : World} {v : V} {cs : List Value} {m : Nat} {d : Int} (hv : IsV (f + 1) w v cs) (q : v.k = 2) (_hd1 : d ≤ 16) (_hd0 : 0 ≤ d) :
    Calls Try.prog 34 #[.agg cs.toArray, .int .i64 d] w fun e w' => e = .returned (.int .i64 (chk (m + 1) v)) ∧ Below w.heap.size w w' := by
  obtain ⟨sn, sk, rfl, -, hn64, -, htz, ⟨np, nc, rfl, nl, nc2, nsz, nr⟩, ⟨sp, cap, rfl, hcap1, hcap2, hrow⟩⟩ := hv; have hn : -9223372036854775808 ≤ v.n ∧ v.n ≤ 9223372036854775807 := by simp [Lit.wf, IntKind.min, IntKind.max, IntKind.bits, IntKind.signed] at hn64; omega
  clear hn64; refine enter (args := [.agg (six v (.slice np v.names.length nc) (.slice sp v.kids.length cap)).toArray, .int .i64 d]) Try.func34 rfl Try.ntmps34 rfl ?_; refine K.kgo ?_; refine WL.box rfl rfl rfl rfl rfl fun g w1 hf => ?_; have hR : VBlk 37 w1 g (six v (.slice np v.names.length nc) (.slice sp v.kids.length cap)) := hf.blk; have hbel : Below w.heap.size w w1 := hf.below; have c0 : w1.cell? ⟨g, 0, none⟩ = some (.int .i64 v.k) := hR.cell 0 (by simp); have c1 : w1.cell? ⟨g, 1, none⟩ = some (.int .i64 v.n) := hR.cell 1 (by simp); have c2 : w1.cell? ⟨g, 2, none⟩ = some (.int .i64 v.s) := hR.cell 2 (by simp); have c3 : w1.cell? ⟨g, 3, none⟩ = some (.string v.t) := hR.cell 3 (by simp); have c4 : w1.cell? ⟨g, 4, none⟩ = some (.slice np v.names.length nc) := hR.cell 4 (by simp); have c5 : w1.cell? ⟨g, 5, none⟩ = some (.slice sp v.kids.length cap) := hR.cell 5 (by simp); clear hf; have hfc := formB_eq v; have hB : bareB v = (decide (v.n = 0) && decide (v.s = 0)) := rfl; have hP : plainB v = (decide (v.names.length = 0) && decide (v.kids.length = 0)) := rfl; have hE := text_ne v; have bad3 : formB v = false → Ending.returned (.int .i64 3) = .returned (.int .i64 (chk (m + 1) v)) ∧ Below w.heap.size w w1 := fun h => ⟨ret_i64 (chk_bad (shp_form3 h) (by decide)).symm, hbel⟩; refine K.kgb ?_; refine WL.as 5 (.bool (!noTextB v)) rfl (congrArg Value.bool hE) ?_; refine WL.mid (fun _ : Unit => [(1, .int .i64 d), (2, .pointer (some ⟨g, 0, none⟩)), (5, .bool (!noTextB v)), (6, .bool (!plainB v))]) (fun _ w' => w1 = w') rfl ?_ ?_
  · by_cases hK : v.kids.length = 0
    · have hK0 : ¬ (0 : Int) < v.kids.length := by omega
      refine WL.as 19 (.bool false) rfl (congrArg Value.bool (decide_eq_false hK0)) ?_
      by_cases hN : v.names.length = 0
      · refine K.kgl ?_
        exact WQ.meet () ⟨rfl, rfl, rfl, congrArg (fun b => some (Value.bool b)) (by rw [hP]; simp [hN, hK]), trivial⟩ rfl
      · refine K.kgl ?_
        exact WQ.meet () ⟨rfl, rfl, rfl, congrArg (fun b => some (Value.bool b)) (by rw [hP]; simp [hN]), trivial⟩ rfl
    · have hK0 : (0 : Int) < v.kids.length := by omega
      refine WL.as 19 (.bool true) rfl (congrArg Value.bool (decide_eq_true hK0)) ?_; refine K.kgl ?_; exact WQ.meet () ⟨rfl, rfl, rfl, congrArg (fun b => some (Value.bool b)) (by rw [hP]; simp [hK]), trivial⟩ rfl
  rintro _ _ rfl; have shp5 : formB v = true → (16384 < v.t.size ∨ 200 < v.kids.length) → shp v = 5 := fun h1 h2 => by unfold shp; rw [if_neg (by rw [h1]; exact Bool.noConfusion), if_pos h2]
  have shp0 : formB v = true → v.t.size ≤ 16384 → v.kids.length ≤ 200 → (v.k = 9 → fieldsB v = true) → shp v = 0 := fun h1 h2 h3 h4 => by
    unfold shp; rw [if_neg (by rw [h1]; exact Bool.noConfusion), if_neg (by omega), if_neg (fun h => by have := h4 h.1; rw [this] at h; exact Bool.noConfusion h.2)]
  have hEt : noTextB v = true → v.t.size = 0 := fun h => of_decide_eq_true h; have hPk : plainB v = true → v.kids.length = 0 := fun h => by rw [hP] at h; rw [Bool.and_eq_true] at h; exact of_decide_eq_true h.2
  have chk0 : shp v = 0 → v.kids.length = 0 → chk (m + 1) v = 0 := fun h1 h2 => by
    unfold chk; rw [if_pos h1, List.eq_nil_of_length_eq_zero h2]
    rfl
  clear hE hP

  by_cases a1 : 0 ≤ v.n
  · skip
    by_cases a2 : v.n ≤ 1
    · skip
      have x2 : v.n / 2 = 0 := by omega
      by_cases a4 : v.s = 0
      · skip
        cases hE1 : noTextB v with
        | false =>
          rw [hE1] at hfc; refine K.kgl ?_; exact WQ.ret1 rfl rfl (bad3 (by rw [hfc]; simp [formC, *]))
        | true =>
          rw [hE1] at hfc; cases hP1 : plainB v with
          | false =>
            rw [hP1] at hfc; refine K.kgl ?_; exact WQ.ret1 rfl rfl (bad3 (by rw [hfc]; simp [formC, *]))
          | true =>
            rw [hP1] at hfc; have h0 : shp v = 0 := shp0 (by rw [hfc]; simp [formC, *]) (by have := hEt hE1; omega) (by have := hPk hP1; omega) (fun h => by omega); have hk0 : v.kids.length = 0 := hPk hP1; refine K.kgl ?_; refine WC.loop (fun _ : Unit => [(1, .int .i64 d), (2, .pointer (some ⟨g, 0, none⟩)), (8, .int .i64 0)]) (fun _ w' => w1 = w') (fun _ => 0) () ⟨rfl, rfl, rfl, trivial⟩ rfl ?_; rintro _ _ rfl; refine K.kgl ?_; exact WQ.ret1 rfl rfl ⟨ret_i64 (chk0 h0 hk0).symm, hbel⟩
      · skip
        refine K.kgl ?_; exact WQ.ret1 rfl rfl (bad3 (by rw [hfc]; simp [formC, *]))
    · skip
      have x2 : ¬ v.n / 2 = 0 := by omega
      refine K.kgl ?_; exact WQ.ret1 rfl rfl (bad3 (by rw [hfc]; simp [formC, *]))
  · skip
    have x2 : ¬ v.n / 2 = 0 := by omega
    refine K.kgl ?_; exact WQ.ret1 rfl rfl (bad3 (by rw [hfc]; simp [formC, *]))

set_option maxRecDepth 100000 in
set_option maxHeartbeats 16000000 in
theorem rchk_k3 {f : Nat} {w : World} {v : V} {cs : List Value} {m : Nat} {d : Int} (hv : IsV (f + 1) w v cs) (q : v.k = 3) (_hd1 : d ≤ 16) (_hd0 : 0 ≤ d) :
    Calls Try.prog 34 #[.agg cs.toArray, .int .i64 d] w fun e w' => e = .returned (.int .i64 (chk (m + 1) v)) ∧ Below w.heap.size w w' := by
  obtain ⟨sn, sk, rfl, -, hn64, -, htz, ⟨np, nc, rfl, nl, nc2, nsz, nr⟩, ⟨sp, cap, rfl, hcap1, hcap2, hrow⟩⟩ := hv; have hn : -9223372036854775808 ≤ v.n ∧ v.n ≤ 9223372036854775807 := by simp [Lit.wf, IntKind.min, IntKind.max, IntKind.bits, IntKind.signed] at hn64; omega
  clear hn64; refine enter (args := [.agg (six v (.slice np v.names.length nc) (.slice sp v.kids.length cap)).toArray, .int .i64 d]) Try.func34 rfl Try.ntmps34 rfl ?_; refine K.kgo ?_; refine WL.box rfl rfl rfl rfl rfl fun g w1 hf => ?_; have hR : VBlk 37 w1 g (six v (.slice np v.names.length nc) (.slice sp v.kids.length cap)) := hf.blk; have hbel : Below w.heap.size w w1 := hf.below; have c0 : w1.cell? ⟨g, 0, none⟩ = some (.int .i64 v.k) := hR.cell 0 (by simp); have c1 : w1.cell? ⟨g, 1, none⟩ = some (.int .i64 v.n) := hR.cell 1 (by simp); have c2 : w1.cell? ⟨g, 2, none⟩ = some (.int .i64 v.s) := hR.cell 2 (by simp); have c3 : w1.cell? ⟨g, 3, none⟩ = some (.string v.t) := hR.cell 3 (by simp); have c4 : w1.cell? ⟨g, 4, none⟩ = some (.slice np v.names.length nc) := hR.cell 4 (by simp); have c5 : w1.cell? ⟨g, 5, none⟩ = some (.slice sp v.kids.length cap) := hR.cell 5 (by simp); clear hf; have hfc := formB_eq v; have hB : bareB v = (decide (v.n = 0) && decide (v.s = 0)) := rfl; have hP : plainB v = (decide (v.names.length = 0) && decide (v.kids.length = 0)) := rfl; have hE := text_ne v; have bad3 : formB v = false → Ending.returned (.int .i64 3) = .returned (.int .i64 (chk (m + 1) v)) ∧ Below w.heap.size w w1 := fun h => ⟨ret_i64 (chk_bad (shp_form3 h) (by decide)).symm, hbel⟩; refine K.kgb ?_; refine WL.as 5 (.bool (!noTextB v)) rfl (congrArg Value.bool hE) ?_; refine WL.mid (fun _ : Unit => [(1, .int .i64 d), (2, .pointer (some ⟨g, 0, none⟩)), (5, .bool (!noTextB v)), (6, .bool (!plainB v))]) (fun _ w' => w1 = w') rfl ?_ ?_
  · by_cases hK : v.kids.length = 0
    · have hK0 : ¬ (0 : Int) < v.kids.length := by omega
      refine WL.as 19 (.bool false) rfl (congrArg Value.bool (decide_eq_false hK0)) ?_
      by_cases hN : v.names.length = 0
      · refine K.kgl ?_
        exact WQ.meet () ⟨rfl, rfl, rfl, congrArg (fun b => some (Value.bool b)) (by rw [hP]; simp [hN, hK]), trivial⟩ rfl
      · refine K.kgl ?_
        exact WQ.meet () ⟨rfl, rfl, rfl, congrArg (fun b => some (Value.bool b)) (by rw [hP]; simp [hN]), trivial⟩ rfl
    · have hK0 : (0 : Int) < v.kids.length := by omega
      refine WL.as 19 (.bool true) rfl (congrArg Value.bool (decide_eq_true hK0)) ?_; refine K.kgl ?_; exact WQ.meet () ⟨rfl, rfl, rfl, congrArg (fun b => some (Value.bool b)) (by rw [hP]; simp [hK]), trivial⟩ rfl
  rintro _ _ rfl; have shp5 : formB v = true → (16384 < v.t.size ∨ 200 < v.kids.length) → shp v = 5 := fun h1 h2 => by unfold shp; rw [if_neg (by rw [h1]; exact Bool.noConfusion), if_pos h2]
  have shp0 : formB v = true → v.t.size ≤ 16384 → v.kids.length ≤ 200 → (v.k = 9 → fieldsB v = true) → shp v = 0 := fun h1 h2 h3 h4 => by
    unfold shp; rw [if_neg (by rw [h1]; exact Bool.noConfusion), if_neg (by omega), if_neg (fun h => by have := h4 h.1; rw [this] at h; exact Bool.noConfusion h.2)]
  have hEt : noTextB v = true → v.t.size = 0 := fun h => of_decide_eq_true h; have hPk : plainB v = true → v.kids.length = 0 := fun h => by rw [hP] at h; rw [Bool.and_eq_true] at h; exact of_decide_eq_true h.2
  have chk0 : shp v = 0 → v.kids.length = 0 → chk (m + 1) v = 0 := fun h1 h2 => by
    unfold chk; rw [if_pos h1, List.eq_nil_of_length_eq_zero h2]
    rfl
  clear hE hP

  by_cases a1 : v.s = 0
  · skip
    cases hE1 : noTextB v with
    | false =>
      rw [hE1] at hfc; refine K.kgl ?_; exact WQ.ret1 rfl rfl (bad3 (by rw [hfc]; simp [formC, *]))
    | true =>
      rw [hE1] at hfc; cases hP1 : plainB v with
      | false =>
        rw [hP1] at hfc; refine K.kgl ?_; exact WQ.ret1 rfl rfl (bad3 (by rw [hfc]; simp [formC, *]))
      | true =>
        rw [hP1] at hfc; have h0 : shp v = 0 := shp0 (by rw [hfc]; simp [formC, *]) (by have := hEt hE1; omega) (by have := hPk hP1; omega) (fun h => by omega); have hk0 : v.kids.length = 0 := hPk hP1; refine K.kgl ?_; refine WC.loop (fun _ : Unit => [(1, .int .i64 d), (2, .pointer (some ⟨g, 0, none⟩)), (8, .int .i64 0)]) (fun _ w' => w1 = w') (fun _ => 0) () ⟨rfl, rfl, rfl, trivial⟩ rfl ?_; rintro _ _ rfl; refine K.kgl ?_; exact WQ.ret1 rfl rfl ⟨ret_i64 (chk0 h0 hk0).symm, hbel⟩
  · skip
    refine K.kgl ?_; exact WQ.ret1 rfl rfl (bad3 (by rw [hfc]; simp [formC, *]))

set_option maxRecDepth 100000 in
set_option maxHeartbeats 16000000 in
theorem rchk_k4 {f : Nat} {w : World} {v : V} {cs : List Value} {m : Nat} {d : Int} (hv : IsV (f + 1) w v cs) (q : v.k = 4) (_hd1 : d ≤ 16) (_hd0 : 0 ≤ d) :
    Calls Try.prog 34 #[.agg cs.toArray, .int .i64 d] w fun e w' => e = .returned (.int .i64 (chk (m + 1) v)) ∧ Below w.heap.size w w' := by
  obtain ⟨sn, sk, rfl, -, hn64, -, htz, ⟨np, nc, rfl, nl, nc2, nsz, nr⟩, ⟨sp, cap, rfl, hcap1, hcap2, hrow⟩⟩ := hv; have hn : -9223372036854775808 ≤ v.n ∧ v.n ≤ 9223372036854775807 := by simp [Lit.wf, IntKind.min, IntKind.max, IntKind.bits, IntKind.signed] at hn64; omega
  clear hn64; refine enter (args := [.agg (six v (.slice np v.names.length nc) (.slice sp v.kids.length cap)).toArray, .int .i64 d]) Try.func34 rfl Try.ntmps34 rfl ?_; refine K.kgo ?_; refine WL.box rfl rfl rfl rfl rfl fun g w1 hf => ?_; have hR : VBlk 37 w1 g (six v (.slice np v.names.length nc) (.slice sp v.kids.length cap)) := hf.blk; have hbel : Below w.heap.size w w1 := hf.below; have c0 : w1.cell? ⟨g, 0, none⟩ = some (.int .i64 v.k) := hR.cell 0 (by simp); have c1 : w1.cell? ⟨g, 1, none⟩ = some (.int .i64 v.n) := hR.cell 1 (by simp); have c2 : w1.cell? ⟨g, 2, none⟩ = some (.int .i64 v.s) := hR.cell 2 (by simp); have c3 : w1.cell? ⟨g, 3, none⟩ = some (.string v.t) := hR.cell 3 (by simp); have c4 : w1.cell? ⟨g, 4, none⟩ = some (.slice np v.names.length nc) := hR.cell 4 (by simp); have c5 : w1.cell? ⟨g, 5, none⟩ = some (.slice sp v.kids.length cap) := hR.cell 5 (by simp); clear hf; have hfc := formB_eq v; have hB : bareB v = (decide (v.n = 0) && decide (v.s = 0)) := rfl; have hP : plainB v = (decide (v.names.length = 0) && decide (v.kids.length = 0)) := rfl; have hE := text_ne v; have bad3 : formB v = false → Ending.returned (.int .i64 3) = .returned (.int .i64 (chk (m + 1) v)) ∧ Below w.heap.size w w1 := fun h => ⟨ret_i64 (chk_bad (shp_form3 h) (by decide)).symm, hbel⟩; refine K.kgb ?_; refine WL.as 5 (.bool (!noTextB v)) rfl (congrArg Value.bool hE) ?_; refine WL.mid (fun _ : Unit => [(1, .int .i64 d), (2, .pointer (some ⟨g, 0, none⟩)), (5, .bool (!noTextB v)), (6, .bool (!plainB v))]) (fun _ w' => w1 = w') rfl ?_ ?_
  · by_cases hK : v.kids.length = 0
    · have hK0 : ¬ (0 : Int) < v.kids.length := by omega
      refine WL.as 19 (.bool false) rfl (congrArg Value.bool (decide_eq_false hK0)) ?_
      by_cases hN : v.names.length = 0
      · refine K.kgl ?_
        exact WQ.meet () ⟨rfl, rfl, rfl, congrArg (fun b => some (Value.bool b)) (by rw [hP]; simp [hN, hK]), trivial⟩ rfl
      · refine K.kgl ?_
        exact WQ.meet () ⟨rfl, rfl, rfl, congrArg (fun b => some (Value.bool b)) (by rw [hP]; simp [hN]), trivial⟩ rfl
    · have hK0 : (0 : Int) < v.kids.length := by omega
      refine WL.as 19 (.bool true) rfl (congrArg Value.bool (decide_eq_true hK0)) ?_; refine K.kgl ?_; exact WQ.meet () ⟨rfl, rfl, rfl, congrArg (fun b => some (Value.bool b)) (by rw [hP]; simp [hK]), trivial⟩ rfl
  rintro _ _ rfl; have shp5 : formB v = true → (16384 < v.t.size ∨ 200 < v.kids.length) → shp v = 5 := fun h1 h2 => by unfold shp; rw [if_neg (by rw [h1]; exact Bool.noConfusion), if_pos h2]
  have shp0 : formB v = true → v.t.size ≤ 16384 → v.kids.length ≤ 200 → (v.k = 9 → fieldsB v = true) → shp v = 0 := fun h1 h2 h3 h4 => by
    unfold shp; rw [if_neg (by rw [h1]; exact Bool.noConfusion), if_neg (by omega), if_neg (fun h => by have := h4 h.1; rw [this] at h; exact Bool.noConfusion h.2)]
  have hEt : noTextB v = true → v.t.size = 0 := fun h => of_decide_eq_true h; have hPk : plainB v = true → v.kids.length = 0 := fun h => by rw [hP] at h; rw [Bool.and_eq_true] at h; exact of_decide_eq_true h.2
  have chk0 : shp v = 0 → v.kids.length = 0 → chk (m + 1) v = 0 := fun h1 h2 => by
    unfold chk; rw [if_pos h1, List.eq_nil_of_length_eq_zero h2]
    rfl
  clear hE hP

  by_cases a1 : 1 ≤ v.s
  · skip
    by_cases a2 : v.s ≤ 18
    · skip
      by_cases a3 : ¬ v.n.tmod 10 = 0
      · skip
        cases hE1 : noTextB v with
        | false =>
          rw [hE1] at hfc; refine K.kgl ?_; exact WQ.ret1 rfl rfl (bad3 (by rw [hfc]; simp [formC, *]))
        | true =>
          rw [hE1] at hfc; cases hP1 : plainB v with
          | false =>
            rw [hP1] at hfc; refine K.kgl ?_; exact WQ.ret1 rfl rfl (bad3 (by rw [hfc]; simp [formC, *]))
          | true =>
            rw [hP1] at hfc; have h0 : shp v = 0 := shp0 (by rw [hfc]; simp [formC, *]) (by have := hEt hE1; omega) (by have := hPk hP1; omega) (fun h => by omega); have hk0 : v.kids.length = 0 := hPk hP1; refine K.kgl ?_; refine WC.loop (fun _ : Unit => [(1, .int .i64 d), (2, .pointer (some ⟨g, 0, none⟩)), (8, .int .i64 0)]) (fun _ w' => w1 = w') (fun _ => 0) () ⟨rfl, rfl, rfl, trivial⟩ rfl ?_; rintro _ _ rfl; refine K.kgl ?_; exact WQ.ret1 rfl rfl ⟨ret_i64 (chk0 h0 hk0).symm, hbel⟩
      · skip
        refine K.kgl ?_; exact WQ.ret1 rfl rfl (bad3 (by rw [hfc]; simp [formC, *]))
    · skip
      refine K.kgl ?_; exact WQ.ret1 rfl rfl (bad3 (by rw [hfc]; simp [formC, *]))
  · skip
    refine K.kgl ?_; exact WQ.ret1 rfl rfl (bad3 (by rw [hfc]; simp [formC, *]))

set_option maxRecDepth 100000 in
set_option maxHeartbeats 16000000 in
theorem rchk_k5 {f : Nat} {w : World} {v : V} {cs : List Value} {m : Nat} {d : Int} (hv : IsV (f + 1) w v cs) (q : v.k = 5) (_hd1 : d ≤ 16) (_hd0 : 0 ≤ d) :
    Calls Try.prog 34 #[.agg cs.toArray, .int .i64 d] w fun e w' => e = .returned (.int .i64 (chk (m + 1) v)) ∧ Below w.heap.size w w' := by
  obtain ⟨sn, sk, rfl, -, hn64, -, htz, ⟨np, nc, rfl, nl, nc2, nsz, nr⟩, ⟨sp, cap, rfl, hcap1, hcap2, hrow⟩⟩ := hv; have hn : -9223372036854775808 ≤ v.n ∧ v.n ≤ 9223372036854775807 := by simp [Lit.wf, IntKind.min, IntKind.max, IntKind.bits, IntKind.signed] at hn64; omega
  clear hn64; refine enter (args := [.agg (six v (.slice np v.names.length nc) (.slice sp v.kids.length cap)).toArray, .int .i64 d]) Try.func34 rfl Try.ntmps34 rfl ?_; refine K.kgo ?_; refine WL.box rfl rfl rfl rfl rfl fun g w1 hf => ?_; have hR : VBlk 37 w1 g (six v (.slice np v.names.length nc) (.slice sp v.kids.length cap)) := hf.blk; have hbel : Below w.heap.size w w1 := hf.below; have c0 : w1.cell? ⟨g, 0, none⟩ = some (.int .i64 v.k) := hR.cell 0 (by simp); have c1 : w1.cell? ⟨g, 1, none⟩ = some (.int .i64 v.n) := hR.cell 1 (by simp); have c2 : w1.cell? ⟨g, 2, none⟩ = some (.int .i64 v.s) := hR.cell 2 (by simp); have c3 : w1.cell? ⟨g, 3, none⟩ = some (.string v.t) := hR.cell 3 (by simp); have c4 : w1.cell? ⟨g, 4, none⟩ = some (.slice np v.names.length nc) := hR.cell 4 (by simp); have c5 : w1.cell? ⟨g, 5, none⟩ = some (.slice sp v.kids.length cap) := hR.cell 5 (by simp); clear hf; have hfc := formB_eq v; have hB : bareB v = (decide (v.n = 0) && decide (v.s = 0)) := rfl; have hP : plainB v = (decide (v.names.length = 0) && decide (v.kids.length = 0)) := rfl; have hE := text_ne v; have bad3 : formB v = false → Ending.returned (.int .i64 3) = .returned (.int .i64 (chk (m + 1) v)) ∧ Below w.heap.size w w1 := fun h => ⟨ret_i64 (chk_bad (shp_form3 h) (by decide)).symm, hbel⟩; refine K.kgb ?_; refine WL.as 5 (.bool (!noTextB v)) rfl (congrArg Value.bool hE) ?_; refine WL.mid (fun _ : Unit => [(1, .int .i64 d), (2, .pointer (some ⟨g, 0, none⟩)), (5, .bool (!noTextB v)), (6, .bool (!plainB v))]) (fun _ w' => w1 = w') rfl ?_ ?_
  · by_cases hK : v.kids.length = 0
    · have hK0 : ¬ (0 : Int) < v.kids.length := by omega
      refine WL.as 19 (.bool false) rfl (congrArg Value.bool (decide_eq_false hK0)) ?_
      by_cases hN : v.names.length = 0
      · refine K.kgl ?_
        exact WQ.meet () ⟨rfl, rfl, rfl, congrArg (fun b => some (Value.bool b)) (by rw [hP]; simp [hN, hK]), trivial⟩ rfl
      · refine K.kgl ?_
        exact WQ.meet () ⟨rfl, rfl, rfl, congrArg (fun b => some (Value.bool b)) (by rw [hP]; simp [hN]), trivial⟩ rfl
    · have hK0 : (0 : Int) < v.kids.length := by omega
      refine WL.as 19 (.bool true) rfl (congrArg Value.bool (decide_eq_true hK0)) ?_; refine K.kgl ?_; exact WQ.meet () ⟨rfl, rfl, rfl, congrArg (fun b => some (Value.bool b)) (by rw [hP]; simp [hK]), trivial⟩ rfl
  rintro _ _ rfl; have shp5 : formB v = true → (16384 < v.t.size ∨ 200 < v.kids.length) → shp v = 5 := fun h1 h2 => by unfold shp; rw [if_neg (by rw [h1]; exact Bool.noConfusion), if_pos h2]
  have shp0 : formB v = true → v.t.size ≤ 16384 → v.kids.length ≤ 200 → (v.k = 9 → fieldsB v = true) → shp v = 0 := fun h1 h2 h3 h4 => by
    unfold shp; rw [if_neg (by rw [h1]; exact Bool.noConfusion), if_neg (by omega), if_neg (fun h => by have := h4 h.1; rw [this] at h; exact Bool.noConfusion h.2)]
  have hEt : noTextB v = true → v.t.size = 0 := fun h => of_decide_eq_true h; have hPk : plainB v = true → v.kids.length = 0 := fun h => by rw [hP] at h; rw [Bool.and_eq_true] at h; exact of_decide_eq_true h.2
  have chk0 : shp v = 0 → v.kids.length = 0 → chk (m + 1) v = 0 := fun h1 h2 => by
    unfold chk; rw [if_pos h1, List.eq_nil_of_length_eq_zero h2]
    rfl
  clear hE hP

  by_cases a1 : 0 ≤ v.n
  · skip
    by_cases a2 : v.n ≤ 9007199254740992
    · skip
      by_cases a3 : v.s = 0
      · skip
        cases hE1 : noTextB v with
        | false =>
          rw [hE1] at hfc; refine K.kgl ?_; exact WQ.ret1 rfl rfl (bad3 (by rw [hfc]; simp [formC, *]))
        | true =>
          rw [hE1] at hfc; cases hP1 : plainB v with
          | false =>
            rw [hP1] at hfc; refine K.kgl ?_; exact WQ.ret1 rfl rfl (bad3 (by rw [hfc]; simp [formC, *]))
          | true =>
            rw [hP1] at hfc; have h0 : shp v = 0 := shp0 (by rw [hfc]; simp [formC, *]) (by have := hEt hE1; omega) (by have := hPk hP1; omega) (fun h => by omega); have hk0 : v.kids.length = 0 := hPk hP1; refine K.kgl ?_; refine WC.loop (fun _ : Unit => [(1, .int .i64 d), (2, .pointer (some ⟨g, 0, none⟩)), (8, .int .i64 0)]) (fun _ w' => w1 = w') (fun _ => 0) () ⟨rfl, rfl, rfl, trivial⟩ rfl ?_; rintro _ _ rfl; refine K.kgl ?_; exact WQ.ret1 rfl rfl ⟨ret_i64 (chk0 h0 hk0).symm, hbel⟩
      · skip
        refine K.kgl ?_; exact WQ.ret1 rfl rfl (bad3 (by rw [hfc]; simp [formC, *]))
    · skip
      refine K.kgl ?_; exact WQ.ret1 rfl rfl (bad3 (by rw [hfc]; simp [formC, *]))
  · skip
    refine K.kgl ?_; exact WQ.ret1 rfl rfl (bad3 (by rw [hfc]; simp [formC, *]))

set_option maxRecDepth 100000 in
set_option maxHeartbeats 16000000 in
theorem rchk_k67 {f : Nat} {w : World} {v : V} {cs : List Value} {m : Nat} {d : Int} (hv : IsV (f + 1) w v cs) (q : v.k = 6 ∨ v.k = 7) (_hd1 : d ≤ 16) (_hd0 : 0 ≤ d) :
    Calls Try.prog 34 #[.agg cs.toArray, .int .i64 d] w fun e w' => e = .returned (.int .i64 (chk (m + 1) v)) ∧ Below w.heap.size w w' := by
  obtain ⟨sn, sk, rfl, -, hn64, -, htz, ⟨np, nc, rfl, nl, nc2, nsz, nr⟩, ⟨sp, cap, rfl, hcap1, hcap2, hrow⟩⟩ := hv; have hn : -9223372036854775808 ≤ v.n ∧ v.n ≤ 9223372036854775807 := by simp [Lit.wf, IntKind.min, IntKind.max, IntKind.bits, IntKind.signed] at hn64; omega
  clear hn64; refine enter (args := [.agg (six v (.slice np v.names.length nc) (.slice sp v.kids.length cap)).toArray, .int .i64 d]) Try.func34 rfl Try.ntmps34 rfl ?_; refine K.kgo ?_; refine WL.box rfl rfl rfl rfl rfl fun g w1 hf => ?_; have hR : VBlk 37 w1 g (six v (.slice np v.names.length nc) (.slice sp v.kids.length cap)) := hf.blk; have hbel : Below w.heap.size w w1 := hf.below; have c0 : w1.cell? ⟨g, 0, none⟩ = some (.int .i64 v.k) := hR.cell 0 (by simp); have c1 : w1.cell? ⟨g, 1, none⟩ = some (.int .i64 v.n) := hR.cell 1 (by simp); have c2 : w1.cell? ⟨g, 2, none⟩ = some (.int .i64 v.s) := hR.cell 2 (by simp); have c3 : w1.cell? ⟨g, 3, none⟩ = some (.string v.t) := hR.cell 3 (by simp); have c4 : w1.cell? ⟨g, 4, none⟩ = some (.slice np v.names.length nc) := hR.cell 4 (by simp); have c5 : w1.cell? ⟨g, 5, none⟩ = some (.slice sp v.kids.length cap) := hR.cell 5 (by simp); clear hf; have hfc := formB_eq v; have hB : bareB v = (decide (v.n = 0) && decide (v.s = 0)) := rfl; have hP : plainB v = (decide (v.names.length = 0) && decide (v.kids.length = 0)) := rfl; have hE := text_ne v; have bad3 : formB v = false → Ending.returned (.int .i64 3) = .returned (.int .i64 (chk (m + 1) v)) ∧ Below w.heap.size w w1 := fun h => ⟨ret_i64 (chk_bad (shp_form3 h) (by decide)).symm, hbel⟩; refine K.kgb ?_; refine WL.as 5 (.bool (!noTextB v)) rfl (congrArg Value.bool hE) ?_; refine WL.mid (fun _ : Unit => [(1, .int .i64 d), (2, .pointer (some ⟨g, 0, none⟩)), (5, .bool (!noTextB v)), (6, .bool (!plainB v))]) (fun _ w' => w1 = w') rfl ?_ ?_
  · by_cases hK : v.kids.length = 0
    · have hK0 : ¬ (0 : Int) < v.kids.length := by omega
      refine WL.as 19 (.bool false) rfl (congrArg Value.bool (decide_eq_false hK0)) ?_
      by_cases hN : v.names.length = 0
      · refine K.kgl ?_
        exact WQ.meet () ⟨rfl, rfl, rfl, congrArg (fun b => some (Value.bool b)) (by rw [hP]; simp [hN, hK]), trivial⟩ rfl
      · refine K.kgl ?_
        exact WQ.meet () ⟨rfl, rfl, rfl, congrArg (fun b => some (Value.bool b)) (by rw [hP]; simp [hN]), trivial⟩ rfl
    · have hK0 : (0 : Int) < v.kids.length := by omega
      refine WL.as 19 (.bool true) rfl (congrArg Value.bool (decide_eq_true hK0)) ?_; refine K.kgl ?_; exact WQ.meet () ⟨rfl, rfl, rfl, congrArg (fun b => some (Value.bool b)) (by rw [hP]; simp [hK]), trivial⟩ rfl
  rintro _ _ rfl; have shp5 : formB v = true → (16384 < v.t.size ∨ 200 < v.kids.length) → shp v = 5 := fun h1 h2 => by unfold shp; rw [if_neg (by rw [h1]; exact Bool.noConfusion), if_pos h2]
  have shp0 : formB v = true → v.t.size ≤ 16384 → v.kids.length ≤ 200 → (v.k = 9 → fieldsB v = true) → shp v = 0 := fun h1 h2 h3 h4 => by
    unfold shp; rw [if_neg (by rw [h1]; exact Bool.noConfusion), if_neg (by omega), if_neg (fun h => by have := h4 h.1; rw [this] at h; exact Bool.noConfusion h.2)]
  have hEt : noTextB v = true → v.t.size = 0 := fun h => of_decide_eq_true h; have hPk : plainB v = true → v.kids.length = 0 := fun h => by rw [hP] at h; rw [Bool.and_eq_true] at h; exact of_decide_eq_true h.2
  have chk0 : shp v = 0 → v.kids.length = 0 → chk (m + 1) v = 0 := fun h1 h2 => by
    unfold chk; rw [if_pos h1, List.eq_nil_of_length_eq_zero h2]
    rfl
  clear hE hP

  clear nr nsz hrow; have q9 : ¬ v.k = 9 := by omega
  rcases q with q | q
  · skip
    by_cases a1 : v.n = 0
    · skip
      by_cases a2 : v.s = 0
      · skip
        cases hP1 : plainB v with
        | false =>
          rw [hP1] at hfc; refine K.kgl ?_; exact WQ.ret1 rfl rfl (bad3 (by rw [hfc]; simp [formC, *]))
        | true =>
          rw [hP1] at hfc
          by_cases a3 : 16384 < v.t.size
          · refine K.kgl ?_
            exact WQ.ret1 rfl rfl ⟨ret_i64 (chk_bad (shp5 (by rw [hfc]; simp [formC, *]) (.inl a3)) (by decide)).symm, hbel⟩
          · skip
            have h0 : shp v = 0 := shp0 (by rw [hfc]; simp [formC, *]) (by omega) (by have := hPk hP1; omega) (fun h => by omega); have hk0 : v.kids.length = 0 := hPk hP1; refine K.kgl ?_; refine WC.loop (fun _ : Unit => [(1, .int .i64 d), (2, .pointer (some ⟨g, 0, none⟩)), (8, .int .i64 0)]) (fun _ w' => w1 = w') (fun _ => 0) () ⟨rfl, rfl, rfl, trivial⟩ rfl ?_; rintro _ _ rfl; refine K.kgl ?_; exact WQ.ret1 rfl rfl ⟨ret_i64 (chk0 h0 hk0).symm, hbel⟩
      · skip
        refine K.kgl ?_; exact WQ.ret1 rfl rfl (bad3 (by rw [hfc]; simp [formC, *]))
    · skip
      refine K.kgl ?_; exact WQ.ret1 rfl rfl (bad3 (by rw [hfc]; simp [formC, *]))
  · skip
    by_cases a1 : v.n = 0
    · skip
      by_cases a2 : v.s = 0
      · skip
        cases hP1 : plainB v with
        | false =>
          rw [hP1] at hfc; refine K.kgl ?_; exact WQ.ret1 rfl rfl (bad3 (by rw [hfc]; simp [formC, *]))
        | true =>
          rw [hP1] at hfc
          by_cases a3 : 16384 < v.t.size
          · refine K.kgl ?_
            exact WQ.ret1 rfl rfl ⟨ret_i64 (chk_bad (shp5 (by rw [hfc]; simp [formC, *]) (.inl a3)) (by decide)).symm, hbel⟩
          · skip
            have h0 : shp v = 0 := shp0 (by rw [hfc]; simp [formC, *]) (by omega) (by have := hPk hP1; omega) (fun h => by omega); have hk0 : v.kids.length = 0 := hPk hP1; refine K.kgl ?_; refine WC.loop (fun _ : Unit => [(1, .int .i64 d), (2, .pointer (some ⟨g, 0, none⟩)), (8, .int .i64 0)]) (fun _ w' => w1 = w') (fun _ => 0) () ⟨rfl, rfl, rfl, trivial⟩ rfl ?_; rintro _ _ rfl; refine K.kgl ?_; exact WQ.ret1 rfl rfl ⟨ret_i64 (chk0 h0 hk0).symm, hbel⟩
      · skip
        refine K.kgl ?_; exact WQ.ret1 rfl rfl (bad3 (by rw [hfc]; simp [formC, *]))
    · skip
      refine K.kgl ?_; exact WQ.ret1 rfl rfl (bad3 (by rw [hfc]; simp [formC, *]))

set_option maxRecDepth 100000 in
set_option maxHeartbeats 16000000 in
theorem rchk_kx {f : Nat} {w : World} {v : V} {cs : List Value} {m : Nat} {d : Int} (hv : IsV (f + 1) w v cs) (q : ¬ (1 ≤ v.k ∧ v.k ≤ 9)) (_hd1 : d ≤ 16) (_hd0 : 0 ≤ d) :
    Calls Try.prog 34 #[.agg cs.toArray, .int .i64 d] w fun e w' => e = .returned (.int .i64 (chk (m + 1) v)) ∧ Below w.heap.size w w' := by
  obtain ⟨sn, sk, rfl, -, hn64, -, htz, ⟨np, nc, rfl, nl, nc2, nsz, nr⟩, ⟨sp, cap, rfl, hcap1, hcap2, hrow⟩⟩ := hv; have hn : -9223372036854775808 ≤ v.n ∧ v.n ≤ 9223372036854775807 := by simp [Lit.wf, IntKind.min, IntKind.max, IntKind.bits, IntKind.signed] at hn64; omega
  clear hn64; refine enter (args := [.agg (six v (.slice np v.names.length nc) (.slice sp v.kids.length cap)).toArray, .int .i64 d]) Try.func34 rfl Try.ntmps34 rfl ?_; refine K.kgo ?_; refine WL.box rfl rfl rfl rfl rfl fun g w1 hf => ?_; have hR : VBlk 37 w1 g (six v (.slice np v.names.length nc) (.slice sp v.kids.length cap)) := hf.blk; have hbel : Below w.heap.size w w1 := hf.below; have c0 : w1.cell? ⟨g, 0, none⟩ = some (.int .i64 v.k) := hR.cell 0 (by simp); have c1 : w1.cell? ⟨g, 1, none⟩ = some (.int .i64 v.n) := hR.cell 1 (by simp); have c2 : w1.cell? ⟨g, 2, none⟩ = some (.int .i64 v.s) := hR.cell 2 (by simp); have c3 : w1.cell? ⟨g, 3, none⟩ = some (.string v.t) := hR.cell 3 (by simp); have c4 : w1.cell? ⟨g, 4, none⟩ = some (.slice np v.names.length nc) := hR.cell 4 (by simp); have c5 : w1.cell? ⟨g, 5, none⟩ = some (.slice sp v.kids.length cap) := hR.cell 5 (by simp); clear hf; have hfc := formB_eq v; have hB : bareB v = (decide (v.n = 0) && decide (v.s = 0)) := rfl; have hP : plainB v = (decide (v.names.length = 0) && decide (v.kids.length = 0)) := rfl; have hE := text_ne v; have bad3 : formB v = false → Ending.returned (.int .i64 3) = .returned (.int .i64 (chk (m + 1) v)) ∧ Below w.heap.size w w1 := fun h => ⟨ret_i64 (chk_bad (shp_form3 h) (by decide)).symm, hbel⟩; refine K.kgb ?_; refine WL.as 5 (.bool (!noTextB v)) rfl (congrArg Value.bool hE) ?_; refine WL.mid (fun _ : Unit => [(1, .int .i64 d), (2, .pointer (some ⟨g, 0, none⟩)), (5, .bool (!noTextB v)), (6, .bool (!plainB v))]) (fun _ w' => w1 = w') rfl ?_ ?_
  · by_cases hK : v.kids.length = 0
    · have hK0 : ¬ (0 : Int) < v.kids.length := by omega
      refine WL.as 19 (.bool false) rfl (congrArg Value.bool (decide_eq_false hK0)) ?_
      by_cases hN : v.names.length = 0
      · refine K.kgl ?_
        exact WQ.meet () ⟨rfl, rfl, rfl, congrArg (fun b => some (Value.bool b)) (by rw [hP]; simp [hN, hK]), trivial⟩ rfl
      · refine K.kgl ?_
        exact WQ.meet () ⟨rfl, rfl, rfl, congrArg (fun b => some (Value.bool b)) (by rw [hP]; simp [hN]), trivial⟩ rfl
    · have hK0 : (0 : Int) < v.kids.length := by omega
      refine WL.as 19 (.bool true) rfl (congrArg Value.bool (decide_eq_true hK0)) ?_; refine K.kgl ?_; exact WQ.meet () ⟨rfl, rfl, rfl, congrArg (fun b => some (Value.bool b)) (by rw [hP]; simp [hK]), trivial⟩ rfl
  rintro _ _ rfl; have shp5 : formB v = true → (16384 < v.t.size ∨ 200 < v.kids.length) → shp v = 5 := fun h1 h2 => by unfold shp; rw [if_neg (by rw [h1]; exact Bool.noConfusion), if_pos h2]
  have shp0 : formB v = true → v.t.size ≤ 16384 → v.kids.length ≤ 200 → (v.k = 9 → fieldsB v = true) → shp v = 0 := fun h1 h2 h3 h4 => by
    unfold shp; rw [if_neg (by rw [h1]; exact Bool.noConfusion), if_neg (by omega), if_neg (fun h => by have := h4 h.1; rw [this] at h; exact Bool.noConfusion h.2)]
  have hEt : noTextB v = true → v.t.size = 0 := fun h => of_decide_eq_true h; have hPk : plainB v = true → v.kids.length = 0 := fun h => by rw [hP] at h; rw [Bool.and_eq_true] at h; exact of_decide_eq_true h.2
  have chk0 : shp v = 0 → v.kids.length = 0 → chk (m + 1) v = 0 := fun h1 h2 => by
    unfold chk; rw [if_pos h1, List.eq_nil_of_length_eq_zero h2]
    rfl
  clear hE hP

  clear nr nsz hrow; have hff : formB v = false := by
    rw [hfc]; unfold formC; rw [if_neg (show ¬ v.k = 1 by omega), if_neg (show ¬ v.k = 2 by omega), if_neg (show ¬ v.k = 3 by omega), if_neg (show ¬ v.k = 4 by omega), if_neg (show ¬ v.k = 5 by omega), if_neg (show ¬ (v.k = 6 ∨ v.k = 7) by omega), if_neg (show ¬ v.k = 8 by omega), if_neg (show ¬ v.k = 9 by omega)]
  refine K.kgl ?_; exact WQ.ret1 rfl rfl (bad3 hff)
end K
end Go.Proofs.Ytfpakjbaiohcaaa

namespace Go.Proofs.Ytfpakjbaiohcaaa
open Go.RowKit
namespace K
open Vl (formC formB_eq okN fields_iff)


set_option maxRecDepth 100000 in
set_option maxHeartbeats 16000000 in
theorem rchk_k8 {f : Nat} {w : World} {v : V} {cs : List Value} {m : Nat} {d : Int} (ih : ∀ {w : World} {v : V} {cs : List Value} (d : Int), IsV f w v cs → d = 17 - (m : Int) → Calls Try.prog 34 #[.agg cs.toArray, .int .i64 d] w fun e w' => e = .returned (.int .i64 (chk m v)) ∧ Below w.heap.size w w') (hd : d + 1 = 17 - (m : Int)) (hv : IsV (f + 1) w v cs) (q : v.k = 8) (_hd1 : d ≤ 16) (_hd0 : 0 ≤ d) :
    Calls Try.prog 34 #[.agg cs.toArray, .int .i64 d] w fun e w' => e = .returned (.int .i64 (chk (m + 1) v)) ∧ Below w.heap.size w w' := by
  obtain ⟨sn, sk, rfl, -, hn64, -, htz, ⟨np, nc, rfl, nl, nc2, nsz, nr⟩, ⟨sp, cap, rfl, hcap1, hcap2, hrow⟩⟩ := hv; have hn : -9223372036854775808 ≤ v.n ∧ v.n ≤ 9223372036854775807 := by simp [Lit.wf, IntKind.min, IntKind.max, IntKind.bits, IntKind.signed] at hn64; omega
  clear hn64; refine enter (args := [.agg (six v (.slice np v.names.length nc) (.slice sp v.kids.length cap)).toArray, .int .i64 d]) Try.func34 rfl Try.ntmps34 rfl ?_; refine K.kgo ?_; refine WL.box rfl rfl rfl rfl rfl fun g w1 hf => ?_; have hR : VBlk 37 w1 g (six v (.slice np v.names.length nc) (.slice sp v.kids.length cap)) := hf.blk; have hbel : Below w.heap.size w w1 := hf.below; have c0 : w1.cell? ⟨g, 0, none⟩ = some (.int .i64 v.k) := hR.cell 0 (by simp); have c1 : w1.cell? ⟨g, 1, none⟩ = some (.int .i64 v.n) := hR.cell 1 (by simp); have c2 : w1.cell? ⟨g, 2, none⟩ = some (.int .i64 v.s) := hR.cell 2 (by simp); have c3 : w1.cell? ⟨g, 3, none⟩ = some (.string v.t) := hR.cell 3 (by simp); have c4 : w1.cell? ⟨g, 4, none⟩ = some (.slice np v.names.length nc) := hR.cell 4 (by simp); have c5 : w1.cell? ⟨g, 5, none⟩ = some (.slice sp v.kids.length cap) := hR.cell 5 (by simp); clear hf; have hfc := formB_eq v; have hB : bareB v = (decide (v.n = 0) && decide (v.s = 0)) := rfl; have hP : plainB v = (decide (v.names.length = 0) && decide (v.kids.length = 0)) := rfl; have hE := text_ne v; have bad3 : formB v = false → Ending.returned (.int .i64 3) = .returned (.int .i64 (chk (m + 1) v)) ∧ Below w.heap.size w w1 := fun h => ⟨ret_i64 (chk_bad (shp_form3 h) (by decide)).symm, hbel⟩; refine K.kgb ?_; refine WL.as 5 (.bool (!noTextB v)) rfl (congrArg Value.bool hE) ?_; refine WL.mid (fun _ : Unit => [(1, .int .i64 d), (2, .pointer (some ⟨g, 0, none⟩)), (5, .bool (!noTextB v)), (6, .bool (!plainB v))]) (fun _ w' => w1 = w') rfl ?_ ?_
  · by_cases hK : v.kids.length = 0
    · have hK0 : ¬ (0 : Int) < v.kids.length := by omega
      refine WL.as 19 (.bool false) rfl (congrArg Value.bool (decide_eq_false hK0)) ?_
      by_cases hN : v.names.length = 0
      · refine K.kgl ?_
        exact WQ.meet () ⟨rfl, rfl, rfl, congrArg (fun b => some (Value.bool b)) (by rw [hP]; simp [hN, hK]), trivial⟩ rfl
      · refine K.kgl ?_
        exact WQ.meet () ⟨rfl, rfl, rfl, congrArg (fun b => some (Value.bool b)) (by rw [hP]; simp [hN]), trivial⟩ rfl
    · have hK0 : (0 : Int) < v.kids.length := by omega
      refine WL.as 19 (.bool true) rfl (congrArg Value.bool (decide_eq_true hK0)) ?_; refine K.kgl ?_; exact WQ.meet () ⟨rfl, rfl, rfl, congrArg (fun b => some (Value.bool b)) (by rw [hP]; simp [hK]), trivial⟩ rfl
  rintro _ _ rfl; have shp5 : formB v = true → (16384 < v.t.size ∨ 200 < v.kids.length) → shp v = 5 := fun h1 h2 => by unfold shp; rw [if_neg (by rw [h1]; exact Bool.noConfusion), if_pos h2]
  have shp0 : formB v = true → v.t.size ≤ 16384 → v.kids.length ≤ 200 → (v.k = 9 → fieldsB v = true) → shp v = 0 := fun h1 h2 h3 h4 => by
    unfold shp; rw [if_neg (by rw [h1]; exact Bool.noConfusion), if_neg (by omega), if_neg (fun h => by have := h4 h.1; rw [this] at h; exact Bool.noConfusion h.2)]
  have hEt : noTextB v = true → v.t.size = 0 := fun h => of_decide_eq_true h; have hPk : plainB v = true → v.kids.length = 0 := fun h => by rw [hP] at h; rw [Bool.and_eq_true] at h; exact of_decide_eq_true h.2
  have chk0 : shp v = 0 → v.kids.length = 0 → chk (m + 1) v = 0 := fun h1 h2 => by
    unfold chk; rw [if_pos h1, List.eq_nil_of_length_eq_zero h2]
    rfl
  clear hE hP

  clear nr nsz
  by_cases a1 : v.n = 0
  · skip
    by_cases a2 : v.s = 0
    · skip
      cases hE1 : noTextB v with
      | false =>
        rw [hE1] at hfc; refine K.kgl ?_; exact WQ.ret1 rfl rfl (bad3 (by rw [hfc]; simp [formC, *]))
      | true =>
        rw [hE1] at hfc
        by_cases a3 : v.names.length = 0
        · skip
          by_cases a4 : 200 < v.kids.length
          · refine K.kgl ?_
            exact WQ.ret1 rfl rfl ⟨ret_i64 (chk_bad (shp5 (by rw [hfc]; simp [formC, *]) (.inr a4)) (by decide)).symm, hbel⟩
          have h0 : shp v = 0 := shp0 (by rw [hfc]; simp [formC, *]) (by have := hEt hE1; omega) (by omega) (fun h => by omega); have hchk : chk (m + 1) v = firstBad (v.kids.map (chk m)) := by
            conv => lhs; unfold chk
            rw [if_pos h0]
          have hb1 : Below w1.heap.size w1 w1 := Below.refl _ _; refine K.kgl ?_; refine WC.loop (fun i : Nat => [(1, .int .i64 d), (2, .pointer (some ⟨g, 0, none⟩)), (8, .int .i64 i)]) (fun i w' => i ≤ v.kids.length ∧ Below w1.heap.size w1 w' ∧ ∀ j, j < i → chk m (v.kids.getD j noV) = 0) (fun i => v.kids.length - i) 0 ⟨rfl, rfl, rfl, trivial⟩ ⟨Nat.zero_le _, hb1, fun j hj => absurd hj (by omega)⟩ ?_; clear hb1 c0 c1 c2 c3 c4 c5; rintro i wr ⟨hi, hbr, hall⟩; have hgw : g < w1.heap.size := hR.lt; have c5 : wr.cell? ⟨g, 5, none⟩ = some (.slice sp v.kids.length cap) := (hR.below hbr hgw).cell 5 (by simp); have hbelr : Below w.heap.size w wr := hbel.trans (hbr.mono hbel.size)
          by_cases hik : i < v.kids.length
          · obtain ⟨kb, ko, rfl, hkb, hcells⟩ := hrow (by omega)
            obtain ⟨c, hc6, hci, hcr⟩ := hcells i hik; clear hrow hcells; have hcr' : wr.rangeAt kb (ko + i * 6) c := fun j u hu => by rw [hbelr.cell (p := ⟨kb, ko + i * 6 + j, none⟩) hkb]; exact hcr j u hu
            refine K.kgl ?_; refine WL.idx i (ko + i * 6) rfl rfl rfl rfl rfl rfl rfl rfl hik rfl ?_; refine WL.loadMid rfl rfl rfl rfl rfl rfl hcr' hc6 ?_; refine K.kgo ?_; refine WL.call rfl rfl rfl rfl rfl Try.func34 rfl (by kernel_rfl) (ih (d + 1) (hci.below hbelr) hd) ?_; rintro e w4 ⟨rfl, hb4⟩; refine ⟨_, rfl, ?_⟩; have hb4' : Below w1.heap.size w1 w4 := hbr.trans (hb4.mono hbr.size)
            by_cases h0 : chk m (v.kids.getD i noV) = 0
            · refine K.kgo ?_
              refine WQ.again (i + 1) ⟨rfl, rfl, rfl, trivial⟩ ⟨hik, hb4', fun j hj => (Nat.lt_succ_iff_lt_or_eq.1 hj).elim (hall j) (fun e => by rw [e]; exact h0)⟩ (by show v.kids.length - (i + 1) < v.kids.length - i; omega)
            · have hfb : chk (m + 1) v = chk m (v.kids.getD i noV) := by
                rw [hchk, firstBad_take (i := i) (by rw [List.length_map]; exact hik) (fun j hj => by rw [chk_map m v.kids j (by omega)]; exact hall j hj) (by rw [chk_map m v.kids i hik]; exact h0), chk_map m v.kids i hik]
              refine K.kgo ?_; exact WQ.ret1 rfl rfl ⟨ret_i64 hfb.symm, hbel.trans (hb4'.mono hbel.size)⟩
          · obtain rfl : i = v.kids.length := by omega
            refine K.kgl ?_; refine WQ.ret1 rfl rfl ⟨ret_i64 ?_, hbelr⟩; rw [hchk]; exact (firstBad_all fun j hj => by rw [List.length_map] at hj; rw [chk_map m v.kids j hj]; exact hall j hj).symm
        · skip
          refine K.kgl ?_; exact WQ.ret1 rfl rfl (bad3 (by rw [hfc]; simp [formC, *]))
    · skip
      refine K.kgl ?_; exact WQ.ret1 rfl rfl (bad3 (by rw [hfc]; simp [formC, *]))
  · skip
    refine K.kgl ?_; exact WQ.ret1 rfl rfl (bad3 (by rw [hfc]; simp [formC, *]))

set_option maxRecDepth 100000 in
set_option maxHeartbeats 16000000 in
theorem rchk_k9 {f : Nat} {w : World} {v : V} {cs : List Value} {m : Nat} {d : Int} (ih : ∀ {w : World} {v : V} {cs : List Value} (d : Int), IsV f w v cs → d = 17 - (m : Int) → Calls Try.prog 34 #[.agg cs.toArray, .int .i64 d] w fun e w' => e = .returned (.int .i64 (chk m v)) ∧ Below w.heap.size w w') (hd : d + 1 = 17 - (m : Int)) (hv : IsV (f + 1) w v cs) (q : v.k = 9) (_hd1 : d ≤ 16) (_hd0 : 0 ≤ d) :
    Calls Try.prog 34 #[.agg cs.toArray, .int .i64 d] w fun e w' => e = .returned (.int .i64 (chk (m + 1) v)) ∧ Below w.heap.size w w' := by
  obtain ⟨sn, sk, rfl, -, hn64, -, htz, ⟨np, nc, rfl, nl, nc2, nsz, nr⟩, ⟨sp, cap, rfl, hcap1, hcap2, hrow⟩⟩ := hv; have hn : -9223372036854775808 ≤ v.n ∧ v.n ≤ 9223372036854775807 := by simp [Lit.wf, IntKind.min, IntKind.max, IntKind.bits, IntKind.signed] at hn64; omega
  clear hn64; refine enter (args := [.agg (six v (.slice np v.names.length nc) (.slice sp v.kids.length cap)).toArray, .int .i64 d]) Try.func34 rfl Try.ntmps34 rfl ?_; refine K.kgo ?_; refine WL.box rfl rfl rfl rfl rfl fun g w1 hf => ?_; have hR : VBlk 37 w1 g (six v (.slice np v.names.length nc) (.slice sp v.kids.length cap)) := hf.blk; have hbel : Below w.heap.size w w1 := hf.below; have c0 : w1.cell? ⟨g, 0, none⟩ = some (.int .i64 v.k) := hR.cell 0 (by simp); have c1 : w1.cell? ⟨g, 1, none⟩ = some (.int .i64 v.n) := hR.cell 1 (by simp); have c2 : w1.cell? ⟨g, 2, none⟩ = some (.int .i64 v.s) := hR.cell 2 (by simp); have c3 : w1.cell? ⟨g, 3, none⟩ = some (.string v.t) := hR.cell 3 (by simp); have c4 : w1.cell? ⟨g, 4, none⟩ = some (.slice np v.names.length nc) := hR.cell 4 (by simp); have c5 : w1.cell? ⟨g, 5, none⟩ = some (.slice sp v.kids.length cap) := hR.cell 5 (by simp); clear hf; have hfc := formB_eq v; have hB : bareB v = (decide (v.n = 0) && decide (v.s = 0)) := rfl; have hP : plainB v = (decide (v.names.length = 0) && decide (v.kids.length = 0)) := rfl; have hE := text_ne v; have bad3 : formB v = false → Ending.returned (.int .i64 3) = .returned (.int .i64 (chk (m + 1) v)) ∧ Below w.heap.size w w1 := fun h => ⟨ret_i64 (chk_bad (shp_form3 h) (by decide)).symm, hbel⟩; refine K.kgb ?_; refine WL.as 5 (.bool (!noTextB v)) rfl (congrArg Value.bool hE) ?_; refine WL.mid (fun _ : Unit => [(1, .int .i64 d), (2, .pointer (some ⟨g, 0, none⟩)), (5, .bool (!noTextB v)), (6, .bool (!plainB v))]) (fun _ w' => w1 = w') rfl ?_ ?_
  · by_cases hK : v.kids.length = 0
    · have hK0 : ¬ (0 : Int) < v.kids.length := by omega
      refine WL.as 19 (.bool false) rfl (congrArg Value.bool (decide_eq_false hK0)) ?_
      by_cases hN : v.names.length = 0
      · refine K.kgl ?_
        exact WQ.meet () ⟨rfl, rfl, rfl, congrArg (fun b => some (Value.bool b)) (by rw [hP]; simp [hN, hK]), trivial⟩ rfl
      · refine K.kgl ?_
        exact WQ.meet () ⟨rfl, rfl, rfl, congrArg (fun b => some (Value.bool b)) (by rw [hP]; simp [hN]), trivial⟩ rfl
    · have hK0 : (0 : Int) < v.kids.length := by omega
      refine WL.as 19 (.bool true) rfl (congrArg Value.bool (decide_eq_true hK0)) ?_; refine K.kgl ?_; exact WQ.meet () ⟨rfl, rfl, rfl, congrArg (fun b => some (Value.bool b)) (by rw [hP]; simp [hK]), trivial⟩ rfl
  rintro _ _ rfl; have shp5 : formB v = true → (16384 < v.t.size ∨ 200 < v.kids.length) → shp v = 5 := fun h1 h2 => by unfold shp; rw [if_neg (by rw [h1]; exact Bool.noConfusion), if_pos h2]
  have shp0 : formB v = true → v.t.size ≤ 16384 → v.kids.length ≤ 200 → (v.k = 9 → fieldsB v = true) → shp v = 0 := fun h1 h2 h3 h4 => by
    unfold shp; rw [if_neg (by rw [h1]; exact Bool.noConfusion), if_neg (by omega), if_neg (fun h => by have := h4 h.1; rw [this] at h; exact Bool.noConfusion h.2)]
  have hEt : noTextB v = true → v.t.size = 0 := fun h => of_decide_eq_true h; have hPk : plainB v = true → v.kids.length = 0 := fun h => by rw [hP] at h; rw [Bool.and_eq_true] at h; exact of_decide_eq_true h.2
  have chk0 : shp v = 0 → v.kids.length = 0 → chk (m + 1) v = 0 := fun h1 h2 => by
    unfold chk; rw [if_pos h1, List.eq_nil_of_length_eq_zero h2]
    rfl
  clear hE hP

  by_cases a1 : v.n = 0
  · skip
    by_cases a2 : v.s = 0
    · skip
      cases hE1 : noTextB v with
      | false =>
        rw [hE1] at hfc; refine K.kgl ?_; exact WQ.ret1 rfl rfl (bad3 (by rw [hfc]; simp [formC, *]))
      | true =>
        rw [hE1] at hfc; have hform : formB v = true := by rw [hfc]; simp [formC, *]
        by_cases a4 : 200 < v.kids.length
        · refine K.kgl ?_
          exact WQ.ret1 rfl rfl ⟨ret_i64 (chk_bad (shp5 hform (.inr a4)) (by decide)).symm, hbel⟩
        have hfi := fields_iff v; have shp3 : fieldsB v = false → shp v = 3 := fun h => by
          unfold shp; rw [if_neg (by rw [hform]; exact Bool.noConfusion), if_neg (by have := hEt hE1; omega), if_pos ⟨q, h⟩]
        by_cases a5 : v.names.length = v.kids.length
        · refine K.kgl ?_
          refine WC.loop (fun i : Nat => [(1, .int .i64 d), (2, .pointer (some ⟨g, 0, none⟩)), (7, .int .i64 i)]) (fun i w' => i ≤ v.names.length ∧ Below w1.heap.size w1 w' ∧ ∀ j, j < i → okN v.names j = true) (fun i => v.names.length - i) 0 ⟨rfl, rfl, rfl, trivial⟩ ⟨Nat.zero_le _, Below.refl _ _, fun j hj => absurd hj (by omega)⟩ ?_; rintro i wz ⟨hi, hbz, hall⟩; have hgw : g < w1.heap.size := hR.lt; have hRz : VBlk 37 wz g (six v (.slice np v.names.length nc) (.slice sp v.kids.length cap)) := hR.below hbz hgw; have hbelz : Below w.heap.size w wz := hbel.trans (hbz.mono hbel.size); have z4 : wz.cell? ⟨g, 4, none⟩ = some (.slice np v.names.length nc) := hRz.cell 4 (by simp)
          by_cases hin : i < v.names.length
          · obtain ⟨nb, no, rfl, hnb, hnr⟩ := nr (by omega)
            have hnc := hnr i hin; have hnp := hnr (i - 1) (by omega); have hnz := nsz i hin; clear hnr nr hrow nsz; have hok : okN v.names i = (isNameB (v.names.getD i noT) && (decide (i = 0) || Op.bytesLess (v.names.getD (i - 1) noT).toList (v.names.getD i noT).toList)) := rfl; have hleq := Vl.leq_not (v.names.getD i noT).toList (v.names.getD (i - 1) noT).toList; have hnm : isNameB (v.names.getD i noT) = (decide (1 ≤ (v.names.getD i noT).size) && decide ((v.names.getD i noT).size ≤ 40)) := rfl; have badn : okN v.names i = false → Ending.returned (.int .i64 3) = .returned (.int .i64 (chk (m + 1) v)) := fun h => ret_i64 (chk_bad (shp3 (by
              cases hf : fieldsB v with
              | false => rfl
              | true => have := (hfi.1 hf).1 i hin; rw [h] at this; cases this)) (by decide)).symm
            generalize v.names.getD i noT = nm at hnc hnz hok hleq hnm; generalize v.names.getD (i - 1) noT = pm at hnp hok hleq; refine K.kgl ?_; refine WC.drawn 33 (fun wx => Below w.heap.size w wx ∧ VBlk 37 wx g (six v (.slice (some ⟨nb, no, none⟩) v.names.length nc) (.slice sp v.kids.length cap))) fun w2 hd2 => ?_; have hS : Below w.heap.size w w2 ∧ VBlk 37 w2 g (six v (.slice (some ⟨nb, no, none⟩) v.names.length nc) (.slice sp v.kids.length cap)) := ⟨hbelz.trans (hd2.below _), hRz.below (hd2.below _) hRz.lt⟩; have hb2 : Below w1.heap.size w1 w2 := hbz.trans (hd2.below _)
            by_cases x1 : nm.size < 1
            · skip
              refine K.fr [0] hS ?_; refine K.wl 1 [3, 4, 5, 6, 7, 8, 9, 10, 11, 12, 13, 14, 15, 16, 17, 18, 19, 20, 21, 22, 23, 24, 25, 26, 27, 28, 29, 30, 31, 32, 33] rfl rfl rfl rfl rfl rfl rfl (fun wx hx => hx.2.cell 4 (by simp)) hS ?_; refine K.fr [2] hS ?_; refine K.wi 3 i (no + i) rfl rfl rfl rfl rfl rfl rfl rfl rfl (by omega) (by omega) (.inr hS) ?_; refine K.wl 4 [5, 6, 7, 8, 9, 10, 11, 12, 13, 14, 15, 16, 17, 18, 19, 20, 21, 22, 23, 24, 25, 26, 27, 28, 29, 30, 31, 32, 33] rfl rfl rfl rfl rfl rfl rfl (fun wx hx => (hx.1.cell (p := ⟨nb, no + i, none⟩) hnb).trans hnc) hS ?_; refine K.fr [5, 6, 7, 8] hS ?_; refine K.fr [9, 10, 11, 12, 13, 14, 15, 16] hS ?_; refine K.fr [17, 18, 19, 20] hS ?_; refine K.fr [21, 22, 23, 24, 25, 26, 27, 28, 29, 30, 31, 32] hS ?_; refine K.wo 33 ?_; refine WL.pure rfl rfl rfl rfl ?_; refine K.dl ?_; refine WD.done (by kernel_rfl) ?_; refine K.kgo ?_; exact WQ.ret1 rfl rfl ⟨badn (by rw [hok, hnm, decide_eq_false (by omega)]; rfl), hS.1⟩
            by_cases x2 : 40 < nm.size
            · skip
              refine K.fr [0] hS ?_; refine K.wl 1 [3, 4, 5, 6, 7, 8, 9, 10, 11, 12, 13, 14, 15, 16, 17, 18, 19, 20, 21, 22, 23, 24, 25, 26, 27, 28, 29, 30, 31, 32, 33] rfl rfl rfl rfl rfl rfl rfl (fun wx hx => hx.2.cell 4 (by simp)) hS ?_; refine K.fr [2] hS ?_; refine K.wi 3 i (no + i) rfl rfl rfl rfl rfl rfl rfl rfl rfl (by omega) (by omega) (.inr hS) ?_; refine K.wl 4 [5, 6, 7, 8, 9, 10, 11, 12, 13, 14, 15, 16, 17, 18, 19, 20, 21, 22, 23, 24, 25, 26, 27, 28, 29, 30, 31, 32, 33] rfl rfl rfl rfl rfl rfl rfl (fun wx hx => (hx.1.cell (p := ⟨nb, no + i, none⟩) hnb).trans hnc) hS ?_; refine K.fr [5, 6, 7, 8] hS ?_; refine K.wl 9 [11, 12, 13, 14, 15, 16, 17, 18, 19, 20, 21, 22, 23, 24, 25, 26, 27, 28, 29, 30, 31, 32, 33] rfl rfl rfl rfl rfl rfl rfl (fun wx hx => hx.2.cell 4 (by simp)) hS ?_; refine K.fr [10] hS ?_; refine K.wi 11 i (no + i) rfl rfl rfl rfl rfl rfl rfl rfl rfl (by omega) (by omega) (.inr hS) ?_; refine K.wl 12 [13, 14, 15, 16, 17, 18, 19, 20, 21, 22, 23, 24, 25, 26, 27, 28, 29, 30, 31, 32, 33] rfl rfl rfl rfl rfl rfl rfl (fun wx hx => (hx.1.cell (p := ⟨nb, no + i, none⟩) hnb).trans hnc) hS ?_; refine K.fr [13, 14, 15, 16] hS ?_; refine K.fr [17, 18, 19, 20] hS ?_; refine K.fr [21, 22, 23, 24, 25, 26, 27, 28, 29, 30, 31, 32] hS ?_; refine K.wo 33 ?_; refine WL.pure rfl rfl rfl rfl ?_; refine K.dl ?_; refine WD.done (by kernel_rfl) ?_; refine K.kgo ?_; exact WQ.ret1 rfl rfl ⟨badn (by rw [hok, hnm, decide_eq_false (show ¬ nm.size ≤ 40 by omega), Bool.and_false]; rfl), hS.1⟩
            have hnm1 : isNameB nm = true := by rw [hnm, decide_eq_true (by omega), decide_eq_true (by omega)]; rfl
            by_cases x3 : i = 0
            · skip
              refine K.fr [0] hS ?_; refine K.wl 1 [3, 4, 5, 6, 7, 8, 9, 10, 11, 12, 13, 14, 15, 16, 17, 18, 19, 20, 21, 22, 23, 24, 25, 26, 27, 28, 29, 30, 31, 32, 33] rfl rfl rfl rfl rfl rfl rfl (fun wx hx => hx.2.cell 4 (by simp)) hS ?_; refine K.fr [2] hS ?_; refine K.wi 3 i (no + i) rfl rfl rfl rfl rfl rfl rfl rfl rfl (by omega) (by omega) (.inr hS) ?_; refine K.wl 4 [5, 6, 7, 8, 9, 10, 11, 12, 13, 14, 15, 16, 17, 18, 19, 20, 21, 22, 23, 24, 25, 26, 27, 28, 29, 30, 31, 32, 33] rfl rfl rfl rfl rfl rfl rfl (fun wx hx => (hx.1.cell (p := ⟨nb, no + i, none⟩) hnb).trans hnc) hS ?_; refine K.fr [5, 6, 7, 8] hS ?_; refine K.wl 9 [11, 12, 13, 14, 15, 16, 17, 18, 19, 20, 21, 22, 23, 24, 25, 26, 27, 28, 29, 30, 31, 32, 33] rfl rfl rfl rfl rfl rfl rfl (fun wx hx => hx.2.cell 4 (by simp)) hS ?_; refine K.fr [10] hS ?_; refine K.wi 11 i (no + i) rfl rfl rfl rfl rfl rfl rfl rfl rfl (by omega) (by omega) (.inr hS) ?_; refine K.wl 12 [13, 14, 15, 16, 17, 18, 19, 20, 21, 22, 23, 24, 25, 26, 27, 28, 29, 30, 31, 32, 33] rfl rfl rfl rfl rfl rfl rfl (fun wx hx => (hx.1.cell (p := ⟨nb, no + i, none⟩) hnb).trans hnc) hS ?_; refine K.fr [13, 14, 15, 16] hS ?_; refine K.fr [17, 18, 19, 20] hS ?_; refine K.fr [21, 22, 23, 24, 25, 26, 27, 28, 29, 30, 31, 32] hS ?_; refine K.wo 33 ?_; refine WL.pure rfl rfl rfl rfl ?_; refine K.dl ?_; refine WD.done (by kernel_rfl) ?_; refine K.kgo ?_; refine WQ.again (i + 1) ⟨rfl, rfl, rfl, trivial⟩ ⟨hin, hb2, fun j hj => (Nat.lt_succ_iff_lt_or_eq.1 hj).elim (hall j) (fun e => by rw [e]; rw [hok, hnm1, x3]; rfl)⟩ (by show v.names.length - (i + 1) < v.names.length - i; omega)
            have hw : IntKind.i64.wrap ((i : Int) - 1) = ((i - 1 : Nat) : Int) := by rw [IntWalk.i64_in _ (by omega)]; omega
            cases hlt : Op.bytesLess pm.toList nm.toList with
            | true =>
              rw [hlt] at hleq hok; refine K.fr [0] hS ?_; refine K.wl 1 [3, 4, 5, 6, 7, 8, 9, 10, 11, 12, 13, 14, 15, 16, 17, 18, 19, 20, 21, 22, 23, 24, 25, 26, 27, 28, 29, 30, 31, 32, 33] rfl rfl rfl rfl rfl rfl rfl (fun wx hx => hx.2.cell 4 (by simp)) hS ?_; refine K.fr [2] hS ?_; refine K.wi 3 i (no + i) rfl rfl rfl rfl rfl rfl rfl rfl rfl (by omega) (by omega) (.inr hS) ?_; refine K.wl 4 [5, 6, 7, 8, 9, 10, 11, 12, 13, 14, 15, 16, 17, 18, 19, 20, 21, 22, 23, 24, 25, 26, 27, 28, 29, 30, 31, 32, 33] rfl rfl rfl rfl rfl rfl rfl (fun wx hx => (hx.1.cell (p := ⟨nb, no + i, none⟩) hnb).trans hnc) hS ?_; refine K.fr [5, 6, 7, 8] hS ?_; refine K.wl 9 [11, 12, 13, 14, 15, 16, 17, 18, 19, 20, 21, 22, 23, 24, 25, 26, 27, 28, 29, 30, 31, 32, 33] rfl rfl rfl rfl rfl rfl rfl (fun wx hx => hx.2.cell 4 (by simp)) hS ?_; refine K.fr [10] hS ?_; refine K.wi 11 i (no + i) rfl rfl rfl rfl rfl rfl rfl rfl rfl (by omega) (by omega) (.inr hS) ?_; refine K.wl 12 [13, 14, 15, 16, 17, 18, 19, 20, 21, 22, 23, 24, 25, 26, 27, 28, 29, 30, 31, 32, 33] rfl rfl rfl rfl rfl rfl rfl (fun wx hx => (hx.1.cell (p := ⟨nb, no + i, none⟩) hnb).trans hnc) hS ?_; refine K.fr [13, 14, 15, 16] hS ?_; refine K.fr [17, 18, 19, 20] hS ?_; refine K.wl 21 [23, 24, 31, 32, 33] rfl rfl rfl rfl rfl rfl rfl (fun wx hx => hx.2.cell 4 (by simp)) hS ?_; refine K.fr [22] hS ?_; refine K.wi 23 i (no + i) rfl rfl rfl rfl rfl rfl rfl rfl rfl (by omega) (by omega) (.inr hS) ?_; refine K.wl 24 [31, 32, 33] rfl rfl rfl rfl rfl rfl rfl (fun wx hx => (hx.1.cell (p := ⟨nb, no + i, none⟩) hnb).trans hnc) hS ?_; refine K.fr [25] hS ?_; refine K.wl 26 [29, 30, 31, 32, 33] rfl rfl rfl rfl rfl rfl rfl (fun wx hx => hx.2.cell 4 (by simp)) hS ?_; refine K.fr [27, 28] hS ?_; refine K.wi 29 (i - 1) (no + (i - 1)) rfl rfl rfl rfl rfl rfl rfl rfl (by omega) (by omega) (by omega) (.inr hS) ?_; refine K.wl 30 [31, 32, 33] rfl rfl rfl rfl rfl rfl rfl (fun wx hx => (hx.1.cell (p := ⟨nb, no + (i - 1), none⟩) hnb).trans hnp) hS ?_; refine K.fr [31, 32] hS ?_; refine K.wo 33 ?_; refine WL.pure rfl rfl rfl rfl ?_; refine K.dl ?_; refine WD.done (by kernel_rfl) ?_; refine K.kgn ?_; refine WC.as 215 (.bool false) rfl (congrArg Value.bool hleq) ?_; refine K.kgo ?_; refine WQ.again (i + 1) ⟨rfl, rfl, rfl, trivial⟩ ⟨hin, hb2, fun j hj => (Nat.lt_succ_iff_lt_or_eq.1 hj).elim (hall j) (fun e => by rw [e]; rw [hok, hnm1]; simp)⟩ (by show v.names.length - (i + 1) < v.names.length - i; omega)
            | false =>
              rw [hlt] at hleq hok; refine K.fr [0] hS ?_; refine K.wl 1 [3, 4, 5, 6, 7, 8, 9, 10, 11, 12, 13, 14, 15, 16, 17, 18, 19, 20, 21, 22, 23, 24, 25, 26, 27, 28, 29, 30, 31, 32, 33] rfl rfl rfl rfl rfl rfl rfl (fun wx hx => hx.2.cell 4 (by simp)) hS ?_; refine K.fr [2] hS ?_; refine K.wi 3 i (no + i) rfl rfl rfl rfl rfl rfl rfl rfl rfl (by omega) (by omega) (.inr hS) ?_; refine K.wl 4 [5, 6, 7, 8, 9, 10, 11, 12, 13, 14, 15, 16, 17, 18, 19, 20, 21, 22, 23, 24, 25, 26, 27, 28, 29, 30, 31, 32, 33] rfl rfl rfl rfl rfl rfl rfl (fun wx hx => (hx.1.cell (p := ⟨nb, no + i, none⟩) hnb).trans hnc) hS ?_; refine K.fr [5, 6, 7, 8] hS ?_; refine K.wl 9 [11, 12, 13, 14, 15, 16, 17, 18, 19, 20, 21, 22, 23, 24, 25, 26, 27, 28, 29, 30, 31, 32, 33] rfl rfl rfl rfl rfl rfl rfl (fun wx hx => hx.2.cell 4 (by simp)) hS ?_; refine K.fr [10] hS ?_; refine K.wi 11 i (no + i) rfl rfl rfl rfl rfl rfl rfl rfl rfl (by omega) (by omega) (.inr hS) ?_; refine K.wl 12 [13, 14, 15, 16, 17, 18, 19, 20, 21, 22, 23, 24, 25, 26, 27, 28, 29, 30, 31, 32, 33] rfl rfl rfl rfl rfl rfl rfl (fun wx hx => (hx.1.cell (p := ⟨nb, no + i, none⟩) hnb).trans hnc) hS ?_; refine K.fr [13, 14, 15, 16] hS ?_; refine K.fr [17, 18, 19, 20] hS ?_; refine K.wl 21 [23, 24, 31, 32, 33] rfl rfl rfl rfl rfl rfl rfl (fun wx hx => hx.2.cell 4 (by simp)) hS ?_; refine K.fr [22] hS ?_; refine K.wi 23 i (no + i) rfl rfl rfl rfl rfl rfl rfl rfl rfl (by omega) (by omega) (.inr hS) ?_; refine K.wl 24 [31, 32, 33] rfl rfl rfl rfl rfl rfl rfl (fun wx hx => (hx.1.cell (p := ⟨nb, no + i, none⟩) hnb).trans hnc) hS ?_; refine K.fr [25] hS ?_; refine K.wl 26 [29, 30, 31, 32, 33] rfl rfl rfl rfl rfl rfl rfl (fun wx hx => hx.2.cell 4 (by simp)) hS ?_; refine K.fr [27, 28] hS ?_; refine K.wi 29 (i - 1) (no + (i - 1)) rfl rfl rfl rfl rfl rfl rfl rfl (by omega) (by omega) (by omega) (.inr hS) ?_; refine K.wl 30 [31, 32, 33] rfl rfl rfl rfl rfl rfl rfl (fun wx hx => (hx.1.cell (p := ⟨nb, no + (i - 1), none⟩) hnb).trans hnp) hS ?_; refine K.fr [31, 32] hS ?_; refine K.wo 33 ?_; refine WL.pure rfl rfl rfl rfl ?_; refine K.dl ?_; refine WD.done (by kernel_rfl) ?_; refine K.kgn ?_; refine WC.as 215 (.bool true) rfl (congrArg Value.bool hleq) ?_; refine K.kgo ?_; exact WQ.ret1 rfl rfl ⟨badn (by rw [hok, hnm1, decide_eq_false x3]; rfl), hS.1⟩
          · obtain rfl : i = v.names.length := by omega
            have hff : fieldsB v = true := hfi.2 ⟨hall, a5⟩; have h0 : shp v = 0 := shp0 hform (by have := hEt hE1; omega) (by omega) (fun _ => hff); have hchk : chk (m + 1) v = firstBad (v.kids.map (chk m)) := by
              conv => lhs; unfold chk
              rw [if_pos h0]
            clear hfi hall nr nsz; refine K.kgl ?_; have hb1 := hbz; refine WC.loop (fun i : Nat => [(1, .int .i64 d), (2, .pointer (some ⟨g, 0, none⟩)), (8, .int .i64 i)]) (fun i w' => i ≤ v.kids.length ∧ Below w1.heap.size w1 w' ∧ ∀ j, j < i → chk m (v.kids.getD j noV) = 0) (fun i => v.kids.length - i) 0 ⟨rfl, rfl, rfl, trivial⟩ ⟨Nat.zero_le _, hb1, fun j hj => absurd hj (by omega)⟩ ?_; clear hb1 c0 c1 c2 c3 c4 c5; rintro i wr ⟨hi, hbr, hall⟩; have hgw : g < w1.heap.size := hR.lt; have c5 : wr.cell? ⟨g, 5, none⟩ = some (.slice sp v.kids.length cap) := (hR.below hbr hgw).cell 5 (by simp); have hbelr : Below w.heap.size w wr := hbel.trans (hbr.mono hbel.size)
            by_cases hik : i < v.kids.length
            · obtain ⟨kb, ko, rfl, hkb, hcells⟩ := hrow (by omega)
              obtain ⟨c, hc6, hci, hcr⟩ := hcells i hik; clear hrow hcells; have hcr' : wr.rangeAt kb (ko + i * 6) c := fun j u hu => by rw [hbelr.cell (p := ⟨kb, ko + i * 6 + j, none⟩) hkb]; exact hcr j u hu
              refine K.kgl ?_; refine WL.idx i (ko + i * 6) rfl rfl rfl rfl rfl rfl rfl rfl hik rfl ?_; refine WL.loadMid rfl rfl rfl rfl rfl rfl hcr' hc6 ?_; refine K.kgo ?_; refine WL.call rfl rfl rfl rfl rfl Try.func34 rfl (by kernel_rfl) (ih (d + 1) (hci.below hbelr) hd) ?_; rintro e w4 ⟨rfl, hb4⟩; refine ⟨_, rfl, ?_⟩; have hb4' : Below w1.heap.size w1 w4 := hbr.trans (hb4.mono hbr.size)
              by_cases h0 : chk m (v.kids.getD i noV) = 0
              · refine K.kgo ?_
                refine WQ.again (i + 1) ⟨rfl, rfl, rfl, trivial⟩ ⟨hik, hb4', fun j hj => (Nat.lt_succ_iff_lt_or_eq.1 hj).elim (hall j) (fun e => by rw [e]; exact h0)⟩ (by show v.kids.length - (i + 1) < v.kids.length - i; omega)
              · have hfb : chk (m + 1) v = chk m (v.kids.getD i noV) := by
                  rw [hchk, firstBad_take (i := i) (by rw [List.length_map]; exact hik) (fun j hj => by rw [chk_map m v.kids j (by omega)]; exact hall j hj) (by rw [chk_map m v.kids i hik]; exact h0), chk_map m v.kids i hik]
                refine K.kgo ?_; exact WQ.ret1 rfl rfl ⟨ret_i64 hfb.symm, hbel.trans (hb4'.mono hbel.size)⟩
            · obtain rfl : i = v.kids.length := by omega
              refine K.kgl ?_; refine WQ.ret1 rfl rfl ⟨ret_i64 ?_, hbelr⟩; rw [hchk]; exact (firstBad_all fun j hj => by rw [List.length_map] at hj; rw [chk_map m v.kids j hj]; exact hall j hj).symm
        · have hff : fieldsB v = false := by cases h : fieldsB v with | false => rfl | true => exact (a5 (hfi.1 h).2).elim
          refine K.kgl ?_; exact WQ.ret1 rfl rfl ⟨ret_i64 (chk_bad (shp3 hff) (by decide)).symm, hbel⟩
    · skip
      refine K.kgl ?_; exact WQ.ret1 rfl rfl (bad3 (by rw [hfc]; simp [formC, *]))
  · skip
    refine K.kgl ?_; exact WQ.ret1 rfl rfl (bad3 (by rw [hfc]; simp [formC, *]))

theorem rcheck_any : ∀ {f : Nat} {w : World} {v : V} {cs : List Value} (m : Nat) (d : Int), IsV f w v cs → m ≤ 16 → d = 17 - (m : Int) →
    Calls Try.prog 34 #[.agg cs.toArray, .int .i64 d] w fun e w' => e = .returned (.int .i64 (chk m v)) ∧ Below w.heap.size w w'
  | 0, _, _, _, _, _, h, _, _ => h.elim
  | f + 1, w, v, cs, 0, d, hv, _, hd => by
    refine enter (args := [.agg cs.toArray, .int .i64 d]) Try.func34 rfl Try.ntmps34 rfl ?_; have hd1 : 16 < d := by omega
    refine K.kgo ?_; refine WL.box rfl rfl rfl rfl rfl fun g w1 hf => ?_; refine K.kgo ?_; exact WQ.ret1 rfl rfl ⟨rfl, hf.below⟩
  | f + 1, w, v, cs, m + 1, d, hv, hm, hd => by
    have ih := fun {w : World} {v : V} {cs : List Value} (d : Int) (h1 : IsV f w v cs) (h2 : d = 17 - (m : Int)) => @rcheck_any f w v cs m d h1 (by omega) h2; have hd1 : d ≤ 16 := by omega
    have hd0 : 0 ≤ d := by omega
    by_cases q1 : v.k = 1
    · exact rchk_k1 hv q1 hd1 hd0
    by_cases q2 : v.k = 2
    · exact rchk_k2 hv q2 hd1 hd0
    by_cases q3 : v.k = 3
    · exact rchk_k3 hv q3 hd1 hd0
    by_cases q4 : v.k = 4
    · exact rchk_k4 hv q4 hd1 hd0
    by_cases q5 : v.k = 5
    · exact rchk_k5 hv q5 hd1 hd0
    by_cases q67 : v.k = 6 ∨ v.k = 7
    · exact rchk_k67 hv q67 hd1 hd0
    by_cases q8 : v.k = 8
    · exact rchk_k8 ih (by omega) hv q8 hd1 hd0
    by_cases q9 : v.k = 9
    · exact rchk_k9 ih (by omega) hv q9 hd1 hd0
    exact rchk_kx hv (by omega) hd1 hd0
theorem rCheck_any {f : Nat} {w : World} {v : V} {cs : List Value} (h : IsV f w v cs) :
    Calls Try.prog 20 #[.agg cs.toArray] w fun e w' => e = .returned (.int .i64 (chk 16 v)) ∧ Below w.heap.size w w' := by
  refine enter (args := [.agg cs.toArray]) Try.func20 rfl Try.ntmps20 rfl ?_; refine K.kgo ?_; refine WL.box rfl rfl rfl rfl rfl fun g w1 hf => ?_; have hf' : Fresh w g w1 37 cs := hf; refine K.kgo ?_; refine WL.loadMid rfl rfl rfl rfl rfl rfl (VBlk.rangeAt hf'.blk) h.len ?_; refine WL.call rfl rfl rfl rfl rfl Try.func34 rfl (by kernel_rfl) (rcheck_any 16 1 (h.below hf'.below) (by omega) (by omega)) ?_; rintro e w2 ⟨rfl, hb2⟩; refine ⟨_, rfl, ?_⟩; refine K.kgo ?_; exact WQ.ret1 rfl rfl ⟨rfl, hf'.below.trans (hb2.mono hf'.below.size)⟩
end K
end Go.Proofs.Ytfpakjbaiohcaaa

namespace Go.Proofs.Ytfpakjbaiohcaaa
namespace K

def grtK (B : Nat) (g : V → Nat → Nat) : List V → Nat → Nat
  | [], n => n
  | k :: r, n => if n ≤ B then grtK B g r (g k n) else n
def grt (B : Nat) : Nat → V → Nat → Nat
  | 0, _, n => n
  | f + 1, v, n => grtK B (grt B f) v.kids (n + 1 + v.t.size / 20 + v.names.length)
def Sml : Nat → V → Prop
  | 0, _ => False
  | f + 1, v => v.names.length ≤ 140737488355328 ∧ v.kids.length ≤ 140737488355328 ∧ ∀ x ∈ v.kids, Sml f x

theorem grtK_over {B : Nat} {g : V → Nat → Nat} {n : Nat} (l : List V) (h : B < n) : grtK B g l n = n := by
  cases l with
  | nil => rfl
  | cons k r => unfold grtK; rw [if_neg (by omega)]
end K
end Go.Proofs.Ytfpakjbaiohcaaa

namespace Go.Proofs.Ytfpakjbaiohcaaa
open Go.RowKit
namespace K

set_option maxHeartbeats 4000000 in
theorem great_any : ∀ (f : Nat) {w0 w : World} {v : V} {cs : List Value} {pb n : Nat}, IsV f w0 v cs → Sml f v → Below w0.heap.size w0 w → w0.heap.size ≤ pb → VBlk 3 w pb [.int .i64 n] → n ≤ 2000 →
    Calls Try.prog 17 #[.agg cs.toArray, .pointer (some ⟨pb, 0, none⟩)] w fun e w' => e = .returned (.bool (decide (2000 < grt 2000 f v n))) ∧ VBlk 3 w' pb [.int .i64 (grt 2000 f v n)] ∧ Keep (fun b => b < w.heap.size ∧ b ≠ pb) w w'
  | 0, _, _, _, _, _, _, h, _, _, _, _, _ => h.elim
  | f + 1, w0, w, v, cs, pb, n, hv, hs, hbel, hpb, hblk, hn => by
    have ih := @great_any f; obtain ⟨sn, sk, rfl, -, -, -, htz, ⟨np, nc, rfl, nl, nc2, -, -⟩, ⟨sp, cap, rfl, hcap1, hcap2, hrow⟩⟩ := hv; obtain ⟨hsn, hsk, hsm⟩ := hs; have hgr : grt 2000 (f + 1) v n = grtK 2000 (grt 2000 f) v.kids (n + 1 + v.t.size / 20 + v.names.length) := rfl; rw [hgr]; refine enter (args := [.agg (six v (.slice np v.names.length nc) (.slice sp v.kids.length cap)).toArray, .pointer (some ⟨pb, 0, none⟩)]) Try.func17 rfl Try.ntmps17 rfl ?_; refine K.kgo ?_; refine WL.box rfl rfl rfl rfl rfl fun g w1 hf => ?_; have hf' : Fresh w g w1 37 (six v (.slice np v.names.length nc) (.slice sp v.kids.length cap)) := hf; clear hf; have hpw := hblk.lt; have hne : g ≠ pb := by rw [hf'.eq]; omega
    have hblk1 : VBlk 3 w1 pb [.int .i64 n] := hblk.below hf'.below hpw; have hkeep1 : Keep (fun b => b < w.heap.size ∧ b ≠ pb) w w1 := (Keep.of_below hf'.below).mono fun _ h => h.1; refine K.kgo ?_; refine WC.drawn 15 (fun wx => VBlk 3 wx pb [.int .i64 n] ∧ VBlk 37 wx g (six v (.slice np v.names.length nc) (.slice sp v.kids.length cap))) fun w2 hd2 => ?_; have hS : VBlk 3 w2 pb [.int .i64 n] ∧ VBlk 37 w2 g (six v (.slice np v.names.length nc) (.slice sp v.kids.length cap)) := ⟨hblk1.below (hd2.below _) hblk1.lt, hf'.blk.below (hd2.below _) hf'.blk.lt⟩; refine K.fr [0, 1, 2] hS ?_; refine K.wl 3 [4, 9, 13, 15] rfl rfl rfl rfl rfl rfl rfl (fun wx hx => hx.1.cell 0 (by simp)) hS ?_; refine K.fr [4, 5] hS ?_; refine K.wl 6 [7, 8, 9, 13, 15] rfl rfl rfl rfl rfl rfl rfl (fun wx hx => hx.2.cell 3 (by simp)) hS ?_; refine K.fr [7, 8, 9, 10] hS ?_; refine K.wl 11 [12, 13, 15] rfl rfl rfl rfl rfl rfl rfl (fun wx hx => hx.2.cell 4 (by simp)) hS ?_; refine K.fr [12, 13, 14] hS ?_; refine K.wo 15 ?_; have e : IntKind.i64.wrap ((v.t.size : Int).tdiv 20) = ((v.t.size / 20 : Nat) : Int) := by rw [Int.tdiv_eq_ediv_of_nonneg (by omega), IntKind.wrap_i64]; omega
    have e2 : IntKind.i64.wrap (IntKind.i64.wrap ((n : Int) + 1 + IntKind.i64.wrap ((v.t.size : Int).tdiv 20)) + (v.names.length : Int)) = ((n + 1 + v.t.size / 20 + v.names.length : Nat) : Int) := by
      rw [e, show IntKind.i64.wrap ((n : Int) + 1 + ((v.t.size / 20 : Nat) : Int)) = (n : Int) + 1 + ((v.t.size / 20 : Nat) : Int) from IntWalk.i64_in _ (by omega), IntWalk.i64_in _ (by omega)]; omega
    generalize n + 1 + v.t.size / 20 + v.names.length = n1 at e2 ⊢; refine WL.store (v := .int .i64 n1) rfl rfl rfl rfl (congrArg (fun z => some (Value.int .i64 z)) e2) rfl (by kernel_rfl) (hS.1.cell 0 (by simp)) (hS.1.free 0) ?_; have hb2 : VBlk 3 (w2.setCell ⟨pb, 0, none⟩ (.int .i64 n1)) pb [.int .i64 n1] := hS.1.set 0 (.int .i64 n1); have hg2 : VBlk 37 (w2.setCell ⟨pb, 0, none⟩ (.int .i64 n1)) g (six v (.slice np v.names.length nc) (.slice sp v.kids.length cap)) := hS.2.other _ _ hne; have hk2 : Keep (fun b => b < w.heap.size ∧ b ≠ pb) w (w2.setCell ⟨pb, 0, none⟩ (.int .i64 n1)) := (hkeep1.trans ((Keep.of_below (hd2.below w1.heap.size)).mono fun b hb => Nat.lt_of_lt_of_le hb.1 hf'.below.size)).setCell (fun h => h.2 rfl) _; generalize w2.setCell ⟨pb, 0, none⟩ (.int .i64 n1) = w3 at hb2 hg2 hk2; refine K.dl ?_; refine WD.done (by kernel_rfl) ?_; refine K.kgo ?_; generalize hRR : grtK 2000 (grt 2000 f) v.kids n1 = RR; have hgw : g < w3.heap.size := hg2.lt; refine WC.loop (fun i : Nat => [(1, .pointer (some ⟨pb, 0, none⟩)), (2, .pointer (some ⟨g, 0, none⟩)), (5, .int .i64 i)])
      (fun i w' => i ≤ v.kids.length ∧ Keep (fun b => b < w3.heap.size ∧ b ≠ pb) w3 w' ∧ ∃ x : Nat, VBlk 3 w' pb [.int .i64 x] ∧ grtK 2000 (grt 2000 f) (v.kids.drop i) x = RR) (fun i => v.kids.length - i) 0
      ⟨rfl, rfl, rfl, trivial⟩ ⟨Nat.zero_le _, Keep.refl _ _, n1, hb2, hRR⟩ ?_
    rintro i wr ⟨hi, hkr, x, hbx, hx⟩; have hgr2 : VBlk 37 wr g (six v (.slice np v.names.length nc) (.slice sp v.kids.length cap)) := hg2.keep hkr ⟨hgw, hne⟩; have hkw : Keep (fun b => b < w.heap.size ∧ b ≠ pb) w wr := hk2.trans (hkr.mono fun b hb => ⟨Nat.lt_of_lt_of_le hb.1 hk2.size, hb.2⟩); have hlast : ∀ {wz : World} {xz : Nat}, VBlk 3 wz pb [.int .i64 xz] → Keep (fun b => b < w.heap.size ∧ b ≠ pb) w wz → xz = RR → (Ending.returned (.bool (decide ((2000 : Int) < (xz : Int)))) = .returned (.bool (decide (2000 < RR))) ∧ VBlk 3 wz pb [.int .i64 (RR)] ∧ Keep (fun b => b < w.heap.size ∧ b ≠ pb) w wz) :=
      fun h1 h2 h3 => ⟨by rw [← h3]; congr 2; simp only [decide_eq_decide]; omega, by rw [← h3]; exact h1, h2⟩
    refine K.kgo ?_; refine WL.load rfl rfl rfl rfl rfl rfl (hgr2.cell 5 (by simp)) ?_
    by_cases hik : i < v.kids.length
    · have hdr : v.kids.drop i = v.kids.getD i noV :: v.kids.drop (i + 1) := by
        rw [List.drop_eq_getElem_cons hik]; simp [hik]
      rw [hdr] at hx; refine K.kgo ?_; refine WL.load rfl rfl rfl rfl rfl rfl (hbx.cell 0 (by simp)) ?_
      by_cases hx2 : x ≤ 2000
      · obtain ⟨kb, ko, rfl, hkb, hcells⟩ := hrow (by omega)
        obtain ⟨c, hc6, hci, hcr⟩ := hcells i hik; have hbelr : Below w0.heap.size w0 wr := (hbel.trans ((hkw.mono fun b hb => ⟨Nat.lt_of_lt_of_le hb hbel.size, Nat.ne_of_lt (Nat.lt_of_lt_of_le hb hpb)⟩ : Keep (fun b => b < w0.heap.size) w wr).below)); have hcr' : wr.rangeAt kb (ko + i * 6) c := fun j u hu => by rw [hbelr.cell (p := ⟨kb, ko + i * 6 + j, none⟩) hkb]; exact hcr j u hu
        unfold grtK at hx; rw [if_pos hx2] at hx; refine K.kgo ?_; refine WL.load rfl rfl rfl rfl rfl rfl (hgr2.cell 5 (by simp)) ?_; refine K.kgo ?_; refine WL.idx i (ko + i * 6) rfl rfl rfl rfl rfl rfl rfl rfl hik rfl ?_; refine WL.loadMid rfl rfl rfl rfl rfl rfl hcr' hc6 ?_; refine K.kgo ?_; refine WL.call rfl rfl rfl rfl rfl Try.func17 rfl (by kernel_rfl) (ih (n := x) hci (hsm _ (by rw [List.getD_eq_getElem?_getD, List.getElem?_eq_getElem hik]; exact List.getElem_mem hik)) hbelr hpb hbx hx2) ?_; rintro e w4 ⟨rfl, hb4, hk4⟩; refine ⟨_, rfl, ?_⟩; refine K.kgo ?_; exact WQ.again (i + 1) ⟨rfl, rfl, rfl, trivial⟩ ⟨hik, hkr.trans (hk4.mono fun b hb => ⟨Nat.lt_of_lt_of_le hb.1 hkr.size, hb.2⟩), _, hb4, hx⟩ (by show v.kids.length - (i + 1) < v.kids.length - i; omega)
      · unfold grtK at hx
        rw [if_neg hx2] at hx; refine K.kgo ?_; refine WL.load rfl rfl rfl rfl rfl rfl (hbx.cell 0 (by simp)) ?_; refine WL.pure rfl rfl rfl rfl ?_; refine WL.pure rfl rfl rfl rfl ?_; refine K.kgo ?_; exact WQ.ret1 rfl rfl ⟨congrArg (fun b => Ending.returned (Value.bool b)) (decide_eq_true (by omega)).symm, (hlast hbx hkw hx).2⟩
    · obtain rfl : i = v.kids.length := by omega
      rw [List.drop_length] at hx; unfold grtK at hx; refine K.kgo ?_; refine WL.load rfl rfl rfl rfl rfl rfl (hbx.cell 0 (by simp)) ?_; refine WL.pure rfl rfl rfl rfl ?_; refine WL.pure rfl rfl rfl rfl ?_; refine K.kgo ?_; exact WQ.ret1 rfl rfl (hlast hbx hkw hx)
end K
end Go.Proofs.Ytfpakjbaiohcaaa
