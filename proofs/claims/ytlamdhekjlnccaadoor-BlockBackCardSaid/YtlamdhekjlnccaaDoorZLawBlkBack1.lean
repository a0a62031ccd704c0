/-
  For every block the law BlockBack answers true, and the argument reads as it did. The library's table lies as the program's text lays it: that is the card's tie; no other condition.
-/
import Derived.Test.YtlamdhekjlnccaaDoorZLawBlkJ4
import Derived.Test.YtlamdhekjlnccaaDoorTie
import Derived.Test.YtlamdhekjlnccaaDoorCards
import Derived.SevenTiedAt
import Derived.ChangeMaps5
import Derived.Stop.Joined
/- Blocks (chapter 11): their bytes are bytes; a block without its data. -/
namespace Go.Proofs.YtlamdhekjlnccaaDoor
open Go.RowKit
namespace K
theorem layB_size {b : Bk} (h : chkB b = 0) (hr : RngB b) : (layB true b).length ≤ 262144 ∧ 0 < (layB true b).length := by
  refine ⟨(chkB_ok h).2.2, ?_⟩
  have h2 := hr.2
  unfold layB headL
  simp only [List.length_append]
  omega
theorem hash_byt {f : Nat} {w : World} {b : Bk} {cs : List Value} (h : IsB f w b cs) : ∀ e ∈ b.ents, Byt e.hash := by
  intro e he
  obtain ⟨j, hj, rfl⟩ := List.getElem_of_mem he
  obtain ⟨se, -, hents, -⟩ := h
  obtain ⟨_, _, _, cs, -, -, -, ⟨dc, -, -, -, -, -, hb, -⟩, -⟩ := hents.at hj
  have e1 : b.ents.getD j noE = b.ents[j] := by simp [hj]
  rw [e1] at hb
  exact hb
theorem layE_byt {e : En} (hk : 1 ≤ e.kind ∧ e.kind ≤ 7) (hh : Byt e.hash) : Byt (layE e) := by
  unfold layE
  refine Byt.cons (by omega) ((uvB_byt _).app ((uvB_byt _).app ((uvB_byt _).app ((uvB_byt _).app ((byI_byt _).app ((uvB_byt _).app ((uvB_byt _).app ?_)))))))
  split
  · exact hh
  · exact Byt.nil
theorem layD_byt {e : En} (h : chkE e = 0) : Byt (layD true e) := by
  unfold layD
  by_cases hk : e.kind = 2
  · rw [if_pos hk]
    by_cases hg : e.gone = true
    · rw [if_pos (Or.inl hg)]; exact Byt.one (by omega)
    · rw [if_neg (by simp [hg])]
      have he : (encR e.data).2 = 0 := by
        have h0 := h
        unfold chkE at h0
        by_cases hf : formE e
        · rw [if_pos hf, if_neg (by simp [hk, hg])] at h0
          by_cases h2 : (encR e.data).2 ≠ 0
          · rw [if_pos h2] at h0; exact h0
          · exact Classical.not_not.1 h2
        · rw [if_neg hf] at h0; cases h0
      obtain ⟨hc, -, hx⟩ := encR_ok he
      rw [hx]
      exact Byt.cons (by omega) ((uvB_byt _).app (encV_byt 16 hc))
  · rw [if_neg hk]; exact Byt.nil
theorem layB_byt {f : Nat} {w : World} {b : Bk} {cs : List Value} (h : chkB b = 0) (hb : IsB f w b cs) : Byt (layB true b) := by
  obtain ⟨-, hce, -⟩ := chkB_ok h
  have hp : Byt b.prev := by obtain ⟨_, -, -, -, h, -⟩ := hb; exact h
  unfold layB headL
  refine ((uvB_byt _).app ((uvB_byt _).app ((uvB_byt _).app hp))).app ((uvB_byt _).app fun c hc => ?_)
  obtain ⟨e, he, hc⟩ := List.mem_flatMap.1 hc
  have hkind := (formE_rng (chkE_ok (hce e he)).1).1
  exact ((layE_byt hkind (hash_byt hb e he)).app (layD_byt (hce e he))) c hc
theorem layB_byt2 {b : Bk} (h : chkB b = 0) (hp : Byt b.prev) (hh : ∀ e ∈ b.ents, Byt e.hash) : Byt (layB true b) := by
  obtain ⟨-, hce, -⟩ := chkB_ok h
  unfold layB headL
  refine ((uvB_byt _).app ((uvB_byt _).app ((uvB_byt _).app hp))).app ((uvB_byt _).app fun c hc => ?_)
  obtain ⟨e, he, hc⟩ := List.mem_flatMap.1 hc
  have hkind := (formE_rng (chkE_ok (hce e he)).1).1
  exact ((layE_byt hkind (hh e he)).app (layD_byt (hce e he))) c hc
/-- A block without its data. -/
def redB (b : Bk) : Bk := { b with ents := b.ents.map (redE false) }
theorem redB_len (b : Bk) : (redB b).ents.length = b.ents.length := List.length_map _
theorem redE_not {e : En} (k : ¬ e.kind = 2) : redE false e = e := by unfold redE; rw [if_neg (fun h => k h.1)]
theorem redE_two {e : En} (k : e.kind = 2) : redE false e = { e with gone := true, data := zV } := by unfold redE; rw [if_pos ⟨k, rfl⟩]
theorem redE_kind (e : En) : (redE false e).kind = e.kind := by unfold redE; split <;> rfl
theorem redE_hash (e : En) : (redE false e).hash = e.hash := by unfold redE; split <;> rfl
theorem redE_lay (e : En) : layE (redE false e) = layE e := by unfold redE; split <;> rfl
theorem redE_gone {e : En} (h : (redE false e).kind = 2) : (redE false e).gone = true := by
  rw [redE_kind] at h
  rw [redE_two h]
theorem redE_layD (e : En) : layD true (redE false e) = layD false e := by
  by_cases k : e.kind = 2
  · rw [redE_two k]; unfold layD; rw [if_pos k, if_pos k, if_pos (.inl rfl), if_pos (.inr rfl)]
  · rw [redE_not k]; unfold layD; rw [if_neg k, if_neg k]
theorem redE_form {e : En} (h : formE e) : formE (redE false e) := by
  by_cases k : e.kind = 2
  · rw [redE_two k]
    unfold formE at h ⊢
    rw [if_neg (by omega), if_pos k] at h
    rw [if_neg (by show ¬ e.kind = 1; omega), if_pos (show e.kind = 2 from k)]
    obtain ⟨a, b, c, d, -⟩ := h
    exact ⟨a, b, c, d, fun _ => rfl⟩
  · rw [redE_not k]; exact h
theorem redE_chk {e : En} (h : chkE e = 0) : chkE (redE false e) = 0 := by
  by_cases k : e.kind = 2
  · have hf := redE_form (chkE_ok h).1
    unfold chkE
    rw [if_pos hf, if_pos (.inr (redE_gone (by rw [redE_kind]; exact k)))]
  · rw [redE_not k]; exact h
theorem layB_red (b : Bk) : layB true (redB b) = layB false b := by
  unfold layB redB headL
  simp only [List.length_map, List.flatMap_map, redE_lay, redE_layD]
theorem layD_le (e : En) : (layD false e).length ≤ (layD true e).length := by
  unfold layD
  by_cases k : e.kind = 2
  · rw [if_pos k, if_pos k, if_pos (.inr rfl)]
    split <;> simp
  · rw [if_neg k, if_neg k]; exact Nat.le_refl _
theorem layEs_le : ∀ (es : List En), (es.flatMap fun e => layE e ++ layD false e).length ≤ (es.flatMap fun e => layE e ++ layD true e).length
  | [] => Nat.le_refl _
  | e :: es => by
    have h1 := layD_le e
    have h2 := layEs_le es
    simp only [List.flatMap_cons, List.length_append]
    omega
theorem layB_le (b : Bk) : (layB false b).length ≤ (layB true b).length := by
  have := layEs_le b.ents
  unfold layB
  simp only [List.length_append]
  omega
theorem chkB_red {b : Bk} (h : chkB b = 0) : chkB (redB b) = 0 := by
  obtain ⟨h1, h2, h3⟩ := chkB_ok h
  have hfb : firstBad ((redB b).ents.map chkE) = 0 := firstBad_zero.2 fun x hx => by
    obtain ⟨e, he, rfl⟩ := List.mem_map.1 hx
    obtain ⟨e0, he0, rfl⟩ := List.mem_map.1 (show e ∈ b.ents.map (redE false) from he)
    exact redE_chk (h2 e0 he0)
  have hle := layB_le b
  unfold chkB
  rw [if_pos (by rw [redB_len]; exact h1), if_neg (by simpa using hfb), if_neg (by rw [layB_red]; omega)]
theorem redB_mem {b : Bk} {e : En} (h : e ∈ (redB b).ents) : ∃ e0 ∈ b.ents, e = redE false e0 := by
  obtain ⟨e0, he0, rfl⟩ := List.mem_map.1 (show e ∈ b.ents.map (redE false) from h)
  exact ⟨e0, he0, rfl⟩
theorem zV_len : (encV 16 zV).length ≤ 70368744177664 := by
  have : (encV 16 zV).length ≤ 65536 := by decide
  omega
theorem redB_hlen {b : Bk} (h : ∀ e ∈ b.ents, chk 16 e.data = 0 → (encV 16 e.data).length ≤ 70368744177664) : ∀ e ∈ (redB b).ents, chk 16 e.data = 0 → (encV 16 e.data).length ≤ 70368744177664 := fun e he hc => by
  obtain ⟨e0, he0, rfl⟩ := redB_mem he
  by_cases k : e0.kind = 2
  · rw [redE_two k]; exact zV_len
  · rw [redE_not k] at hc ⊢; exact h e0 he0 hc
theorem redB_rng {b : Bk} (hz : Rng 1 zV) (h : RngB b) : RngB (redB b) := ⟨fun e he => by
  obtain ⟨e0, he0, rfl⟩ := redB_mem he
  obtain ⟨h1, h2⟩ := h.1 e0 he0
  by_cases k : e0.kind = 2
  · rw [redE_two k]; exact ⟨⟨1, hz⟩, h2⟩
  · rw [redE_not k]; exact ⟨h1, h2⟩, h.2⟩
theorem readB_red {b : Bk} (h : chkB b = 0) (hz : Rng 1 zV) (hr : RngB b) : readB (layB false b) = .ok (redB b) [] := by
  rw [← layB_red]; exact readB_enc (chkB_red h) (redB_rng hz hr)
theorem layB_fbyt {f : Nat} {w : World} {b : Bk} {cs : List Value} (h : chkB b = 0) (hb : IsB f w b cs) : Byt (layB false b) := by
  rw [← layB_red]
  refine layB_byt2 (chkB_red h) (by obtain ⟨_, -, -, -, h, -⟩ := hb; exact h) fun e he => ?_
  obtain ⟨e0, he0, rfl⟩ := redB_mem he
  rw [redE_hash]
  exact hash_byt hb e0 he0
theorem encB_snd (data : Bool) (b : Bk) : (encB data b).2 = chkB b := by
  unfold encB
  by_cases h : chkB b ≠ 0
  · rw [if_pos h]
  · rw [if_neg h]; exact (Classical.not_not.1 h).symm
theorem encB_fst (data : Bool) {b : Bk} (h : chkB b = 0) : (encB data b).1 = layB data b := by unfold encB; rw [if_neg (by simpa using h)]
end K
end Go.Proofs.YtlamdhekjlnccaaDoor

/- BlockBack (chapter 11): the law. -/
namespace Go.Proofs.YtlamdhekjlnccaaDoor
open Go.RowKit
namespace K
theorem leafH_red (e : En) : leafH (redE false e) = leafH e := by unfold leafH; rw [redE_lay]
theorem hashH_red (b : Bk) : hashH (redB b) = hashH b := by
  have h0 : (b.ents.map (redE false)).map leafH = b.ents.map leafH := by
    rw [List.map_map]
    exact List.map_congr_left fun e _ => by rw [Function.comp_apply, leafH_red]
  have h1 : rootH (redB b) = rootH b := by
    show Mk.rt ((b.ents.map (redE false)).map leafH) = Mk.rt (b.ents.map leafH)
    rw [h0]
  have h2 : headL (redB b) = headL b := rfl
  unfold hashH headH
  rw [h1, h2, redB_len]
set_option maxHeartbeats 16000000 in
theorem blockBack_law {f : Nat} {w : World} {b : Bk} {c1 : List Value} (h : IsB f w b c1) (hm : ∀ e ∈ b.ents, Sml f e.data) (hT : Mk.Tab w) :
    Calls Tryd.prog 4 #[.agg c1.toArray] w fun e w' => e = .returned (.bool true) ∧ Below w.heap.size w w' := by
  have hall := h
  have hl1 := h.len
  obtain ⟨se, rfl, hents, hpl, hpb, hr⟩ := h
  obtain ⟨sp, cap, rfl⟩ := hents.slice
  refine enter (args := [.agg (bkC b (.slice sp b.ents.length cap)).toArray]) Tryd.func4 rfl Tryd.ntmps4 rfl ?_
  refine kgo ?_
  refine WL.box rfl rfl rfl rfl rfl fun g1 w1 hf1 => ?_
  have hf1' : Fresh w g1 w1 26 (bkC b (.slice sp b.ents.length cap)) := hf1
  clear hf1
  have hw1 := hf1'.below
  have B1 : BkAt 26 g1 w1 b (.slice sp b.ents.length cap) := ⟨hf1'.blk, hpl⟩
  clear hf1'
  refine kgo ?_
  refine WL.loadMid rfl rfl rfl rfl rfl rfl (VBlk.rangeAt B1.blk) hl1 ?_
  refine WL.call rfl rfl rfl rfl rfl Tryd.func5 rfl (by kernel_rfl) (heavy_any (IsB.below hw1 hall) hm) ?_
  rintro _ w2 ⟨hk2, p1, rfl, hp1⟩
  refine ⟨_, rfl, ?_⟩
  have hw2 := hw1.trans (hk2.mono hw1.size)
  have B2 := B1.below hk2
  cases p1 with
  | true =>
    refine kgo ?_
    exact WQ.ret1 rfl rfl ⟨rfl, hw2⟩
  | false =>
  have hlen := hp1 rfl
  refine kgo ?_
  refine WL.loadMid rfl rfl rfl rfl rfl rfl (VBlk.rangeAt B2.blk) hl1 ?_
  refine WL.call rfl rfl rfl rfl rfl Tryd.func14 rfl (by kernel_rfl) (encode11_any true (IsB.below hw2 hall) hlen) ?_
  rintro _ w3 ⟨b3, rfl, hb3, hk3, -⟩
  refine ⟨_, rfl, ?_⟩
  have hw3 := hw2.trans (hk3.mono hw2.size)
  have B3 := B2.below hk3
  rw [encB_snd]
  refine kgo ?_
  refine WL.loadMid rfl rfl rfl rfl rfl rfl (VBlk.rangeAt B3.blk) hl1 ?_
  refine WL.call rfl rfl rfl rfl rfl Tryd.func14 rfl (by kernel_rfl) (encode11_any false (IsB.below hw3 hall) hlen) ?_
  rintro _ w4 ⟨b4, rfl, hb4, hk4, -⟩
  refine ⟨_, rfl, ?_⟩
  have hw4 := hw3.trans (hk4.mono hw3.size)
  have B4 := B3.below hk4
  rw [encB_snd]
  by_cases hc : chkB b = 0
  rotate_left
  · refine kgo ?_
    refine WL.call rfl rfl rfl rfl rfl Tryd.func7 rfl (by kernel_rfl) known_any ?_
    rintro _ w9 ⟨rfl, hk9⟩
    refine ⟨_, rfl, ?_⟩
    refine kgo ?_
    exact WQ.ret1 rfl rfl ⟨rfl, hw4.trans (hk9.mono hw4.size)⟩
  have hrb : RngB b := ⟨fun e he => (BkP.hashes hall e he).2, hpl⟩
  have hz1 : Rng 1 zV := IsV.rng (zV_is (fun _ => True) 0 w).isV
  have hc2 := chkB_red hc
  have hsz := layB_size hc hrb
  have hle := layB_le b
  have hby1 := layB_byt hc hall
  have hby2 := layB_fbyt hc hall
  rw [encB_fst true hc] at hb3
  rw [encB_fst false hc] at hb4
  have hb34 := hb3.below hk4
  refine kgo ?_
  refine WL.call rfl rfl rfl rfl rfl Tryd.func15 rfl (by kernel_rfl) (decode11_any hb34.sl hby1 (by omega)) ?_
  rintro _ ua ⟨hku, y, cxg, exg, rfl, hX, hout⟩
  refine ⟨_, rfl, ?_⟩
  rw [readB_enc hc hrb] at hout
  obtain ⟨hyb, rfl⟩ := hout
  rw [hyb] at hX
  clear hyb
  have hlxg := hX.len
  refine kgo ?_
  refine WL.alloc (z := .agg (bkC noB (.slice none 0 0)).toArray) rfl rfl rfl rfl (fun _ => by kernel_rfl) fun xg ub hf => ?_
  have hf' : Fresh ua xg ub 26 (bkC noB (.slice none 0 0)) := hf
  clear hf
  refine WL.storeRow rfl rfl rfl rfl rfl rfl hf'.blk hlxg rfl hX.one ?_
  have hkbu : Below ua.heap.size ua (ub.setRow xg cxg.toArray) := below_setRow hf'.below (by rw [hf'.eq]; exact Nat.le_refl _) _
  have X : VBlk 26 (ub.setRow xg cxg.toArray) xg cxg := hf'.blk.setRow cxg
  generalize ub.setRow xg cxg.toArray = uc at hkbu X
  clear hf'
  have hku : Below w4.heap.size w4 uc := hku.trans (hkbu.mono hku.size)
  have hwu := hw4.trans (hku.mono hw4.size)
  have Bu' := B4.below hku
  have hXu : IsB 17 uc b cxg := IsB.below hkbu (isB_of hX)
  have hb4u := hb4.below hku
  refine kgo ?_
  refine WL.call rfl rfl rfl rfl rfl Tryd.func15 rfl (by kernel_rfl) (decode11_any hb4u.sl hby2 (by omega)) ?_
  rintro _ va ⟨hkv, y, cyg, eyg, rfl, hY, hout⟩
  refine ⟨_, rfl, ?_⟩
  rw [readB_red hc hz1 hrb] at hout
  obtain ⟨hyb, rfl⟩ := hout
  rw [hyb] at hY
  clear hyb
  have hlyg := hY.len
  refine kgo ?_
  refine WL.alloc (z := .agg (bkC noB (.slice none 0 0)).toArray) rfl rfl rfl rfl (fun _ => by kernel_rfl) fun yg vb hf => ?_
  have hf' : Fresh va yg vb 26 (bkC noB (.slice none 0 0)) := hf
  clear hf
  refine WL.storeRow rfl rfl rfl rfl rfl rfl hf'.blk hlyg rfl hY.one ?_
  have hkbv : Below va.heap.size va (vb.setRow yg cyg.toArray) := below_setRow hf'.below (by rw [hf'.eq]; exact Nat.le_refl _) _
  have Y : VBlk 26 (vb.setRow yg cyg.toArray) yg cyg := hf'.blk.setRow cyg
  generalize vb.setRow yg cyg.toArray = vc at hkbv Y
  clear hf'
  have hkv : Below uc.heap.size uc vc := hkv.trans (hkbv.mono hkv.size)
  have hwv := hwu.trans (hkv.mono hwu.size)
  have Bv := Bu'.below hkv
  have Xv := X.below hkv X.lt
  have hXv := IsB.below hkv hXu
  have hYv : IsB 17 vc (redB b) cyg := IsB.below hkbv (isB_of hY)
  obtain ⟨ye, rfl, hye, hyp, hyr⟩ := hYv
  have hYv : IsB 17 vc (redB b) (bkC (redB b) ye) := ⟨ye, rfl, hye, hyp, hyr⟩
  obtain ⟨ysp, ycap, rfl⟩ := hye.slice
  have Yv : BkAt 26 yg vc (redB b) (.slice ysp (redB b).ents.length ycap) := ⟨Y, hyp⟩
  have hyl := redB_len b
  obtain ⟨⟨-, -, -, hn1, hn2⟩, -, -⟩ := chkB_ok hc
  have hxl := hXv.len
  refine kgo ?_
  refine WL.loadMid rfl rfl rfl rfl rfl rfl (VBlk.rangeAt Xv) hxl ?_
  refine kgo ?_
  refine WL.loadMid rfl rfl rfl rfl rfl rfl (VBlk.rangeAt Bv.blk) hl1 ?_
  refine WL.on rfl rfl ?_
  refine WL.call rfl rfl rfl rfl rfl Tryd.func16 rfl (by kernel_rfl) (blocks_any hXv (IsB.below hwv hall)) ?_
  rintro _ w5 ⟨⟨bb, rfl, hbb⟩, hk5⟩
  refine ⟨_, rfl, ?_⟩
  obtain rfl : bb = true := hbb.2 rfl
  have hw5 := hwv.trans (hk5.mono hwv.size)
  have B5 := Bv.below hk5
  have X5 := Xv.below hk5 Xv.lt
  have Y5 := Yv.below hk5
  have hX5 := IsB.below hk5 hXv
  have hY5 := IsB.below hk5 hYv
  have hye5 := hye.keep (Keep.of_below hk5) (fun x _ hl => hl) (fun _ h => h) fun _ _ h => IsE.below hk5 h
  refine kgo ?_
  refine WL.load rfl rfl rfl rfl rfl rfl Y5.ents ?_
  refine kgo ?_
  refine WL.load rfl rfl rfl rfl rfl rfl B5.ents ?_
  refine kgo ?_
  refine WC.loop (fun i : Nat => [(1, .pointer (some ⟨g1, 0, none⟩)), (7, .pointer (some ⟨xg, 0, none⟩)), (9, .pointer (some ⟨yg, 0, none⟩)), (11, .int .i64 i)])
    (fun i wr => i ≤ (redB b).ents.length ∧ Below w5.heap.size w5 wr) (fun i => (redB b).ents.length - i) 0 ⟨rfl, rfl, rfl, rfl, trivial⟩ ⟨Nat.zero_le _, Below.refl _ _⟩ ?_
  rintro i wr ⟨hi, hbr⟩
  have hwr := hw5.trans (hbr.mono hw5.size)
  have Yr := Y5.below hbr
  refine kgo ?_
  refine WL.load rfl rfl rfl rfl rfl rfl Yr.ents ?_
  by_cases hik : i < (redB b).ents.length
  · obtain ⟨kb, ko, cap', cs, hse, hkb, hc46, hce, hcr⟩ := hye5.at hik
    injection hse with hse1 _ hse2
    subst hse1; subst hse2
    have hmem : (redB b).ents.getD i noE ∈ (redB b).ents := by simp [hik]
    have hgn : ((redB b).ents.getD i noE).kind = 2 → ((redB b).ents.getD i noE).gone = true := fun h => by
      obtain ⟨e0, -, h0⟩ := redB_mem hmem
      rw [h0] at h ⊢
      exact redE_gone h
    generalize (redB b).ents.getD i noE = e at hce hgn
    obtain ⟨dc, rfl, hv, hdl, hdo, hh, hby, htx, hrr⟩ := hce
    have ck : wr.cell? ⟨kb, ko + i * 46 + 0, none⟩ = some (.int .i64 e.kind) := (hbr.cell (p := ⟨kb, ko + i * 46 + 0, none⟩) hkb).trans (hcr 0 _ rfl)
    have cg : wr.cell? ⟨kb, ko + i * 46 + 43, none⟩ = some (.bool e.gone) := (hbr.cell (p := ⟨kb, ko + i * 46 + 43, none⟩) hkb).trans (hcr 43 _ (enC_tail hdl hh).1)
    refine kgo ?_
    refine WL.load rfl rfl rfl rfl rfl rfl Yr.ents ?_
    refine kgo ?_
    refine WL.idx i (ko + i * 46) rfl rfl rfl rfl rfl rfl rfl rfl hik rfl ?_
    refine kgo ?_
    refine WL.load rfl rfl rfl rfl rfl rfl ck ?_
    by_cases k2 : e.kind = 2
    · rw [hgn k2] at cg
      refine kgo ?_
      refine WL.load rfl rfl rfl rfl rfl rfl Yr.ents ?_
      refine kgo ?_
      refine WL.idx i (ko + i * 46) rfl rfl rfl rfl rfl rfl rfl rfl hik rfl ?_
      refine kgo ?_
      refine WL.load rfl rfl rfl rfl rfl rfl cg ?_
      refine kgo ?_
      exact WQ.again (i + 1) ⟨rfl, rfl, rfl, rfl, trivial⟩ ⟨hik, hbr⟩ (by show (redB b).ents.length - (i + 1) < (redB b).ents.length - i; omega)
    · refine kgo ?_
      exact WQ.again (i + 1) ⟨rfl, rfl, rfl, rfl, trivial⟩ ⟨hik, hbr⟩ (by show (redB b).ents.length - (i + 1) < (redB b).ents.length - i; omega)
  · obtain rfl : i = (redB b).ents.length := by omega
    have Br := B5.below hbr
    have Xr := X5.below hbr X5.lt
    have hXr := IsB.below hbr hX5
    have hYr := IsB.below hbr hY5
    have hTr := hT.below hwr (Nat.le_refl _)
    have hv1 : hashBV b = hashH b := by unfold hashBV; rw [if_neg (by simpa using hc)]
    have hv2 : hashBV (redB b) = hashH b := by unfold hashBV; rw [if_neg (by simpa using hc2), hashH_red]
    have hHl := hashH_len b
    have hHl' : (hashC (hashH b)).length = 32 := by rw [List.length_map]; exact hHl
    refine kgo ?_
    refine WL.loadMid rfl rfl rfl rfl rfl rfl (VBlk.rangeAt Xr) hxl ?_
    refine WL.call rfl rfl rfl rfl rfl Tryd.func6 rfl (by kernel_rfl) (hash11_any hXr hTr hlen) ?_
    rintro _ pa ⟨rfl, hk⟩
    refine ⟨_, rfl, ?_⟩
    rw [hv1]
    refine kgo ?_
    refine WL.alloc (z := .agg (hashC Dig.Z32).toArray) rfl rfl rfl rfl (Dig.zero25) fun h1 pb hf => ?_
    have hf' : Fresh pa h1 pb 23 (hashC Dig.Z32) := hf
    clear hf
    refine WL.storeRow rfl rfl rfl rfl rfl rfl hf'.blk hHl' (by rfl) (Ones.int _ _) ?_
    have hk2 : Below pa.heap.size pa (pb.setRow h1 (hashC (hashH b)).toArray) := below_setRow hf'.below (by rw [hf'.eq]; exact Nat.le_refl _) _
    have Hh1 : VBlk 23 (pb.setRow h1 (hashC (hashH b)).toArray) h1 (hashC (hashH b)) := hf'.blk.setRow _
    generalize pb.setRow h1 (hashC (hashH b)).toArray = p at hk2 Hh1
    clear hf'
    have hkp : Below wr.heap.size wr p := hk.trans (hk2.mono hk.size)
    clear hk hk2
    have hwr := hwr.trans (hkp.mono hwr.size)
    have hTr := hT.below hwr (Nat.le_refl _)
    have Yp := (Yr.below hkp).blk
    have Brp := Br.below hkp
    have hYp := IsB.below hkp hYr
    have hyl2 := hYp.len
    refine kgo ?_
    refine WL.loadMid rfl rfl rfl rfl rfl rfl (VBlk.rangeAt Yp) hyl2 ?_
    refine WL.call rfl rfl rfl rfl rfl Tryd.func6 rfl (by kernel_rfl) (hash11_any hYp hTr (redB_hlen hlen)) ?_
    rintro _ qa ⟨rfl, hk⟩
    refine ⟨_, rfl, ?_⟩
    rw [hv2]
    refine kgo ?_
    refine WL.alloc (z := .agg (hashC Dig.Z32).toArray) rfl rfl rfl rfl (Dig.zero25) fun h2 qb hf => ?_
    have hf' : Fresh qa h2 qb 23 (hashC Dig.Z32) := hf
    clear hf
    refine WL.storeRow rfl rfl rfl rfl rfl rfl hf'.blk hHl' (by rfl) (Ones.int _ _) ?_
    have hk2 : Below qa.heap.size qa (qb.setRow h2 (hashC (hashH b)).toArray) := below_setRow hf'.below (by rw [hf'.eq]; exact Nat.le_refl _) _
    have Hh2 : VBlk 23 (qb.setRow h2 (hashC (hashH b)).toArray) h2 (hashC (hashH b)) := hf'.blk.setRow _
    generalize qb.setRow h2 (hashC (hashH b)).toArray = q at hk2 Hh2
    clear hf'
    have hkq : Below p.heap.size p q := hk.trans (hk2.mono hk.size)
    clear hk hk2
    have hwr := hwr.trans (hkq.mono hwr.size)
    have hTr := hT.below hwr (Nat.le_refl _)
    have Brq := Brp.below hkq
    have Hh1 := Hh1.below hkq Hh1.lt
    refine kgo ?_
    refine WL.loadMid rfl rfl rfl rfl rfl rfl (VBlk.rangeAt Brq.blk) hl1 ?_
    refine WL.call rfl rfl rfl rfl rfl Tryd.func6 rfl (by kernel_rfl) (hash11_any (IsB.below hwr hall) hTr hlen) ?_
    rintro _ sa ⟨rfl, hk⟩
    refine ⟨_, rfl, ?_⟩
    rw [hv1]
    refine kgo ?_
    refine WL.alloc (z := .agg (hashC Dig.Z32).toArray) rfl rfl rfl rfl (Dig.zero25) fun h3 sb hf => ?_
    have hf' : Fresh sa h3 sb 23 (hashC Dig.Z32) := hf
    clear hf
    refine WL.storeRow rfl rfl rfl rfl rfl rfl hf'.blk hHl' (by rfl) (Ones.int _ _) ?_
    have hk2 : Below sa.heap.size sa (sb.setRow h3 (hashC (hashH b)).toArray) := below_setRow hf'.below (by rw [hf'.eq]; exact Nat.le_refl _) _
    have Hh3 : VBlk 23 (sb.setRow h3 (hashC (hashH b)).toArray) h3 (hashC (hashH b)) := hf'.blk.setRow _
    generalize sb.setRow h3 (hashC (hashH b)).toArray = s at hk2 Hh3
    clear hf'
    have hks : Below q.heap.size q s := hk.trans (hk2.mono hk.size)
    clear hk hk2
    have hwr := hwr.trans (hks.mono hwr.size)
    have hTr := hT.below hwr (Nat.le_refl _)
    have Hh1 := Hh1.below hks Hh1.lt
    have Hh2 := Hh2.below hks Hh2.lt
    refine kgo ?_
    refine WL.loadMid rfl rfl rfl rfl rfl rfl (VBlk.rangeAt Hh1) hHl' ?_
    refine kgo ?_
    refine WL.loadMid rfl rfl rfl rfl rfl rfl (VBlk.rangeAt Hh2) hHl' ?_
    refine WL.eqlH rfl rfl rfl rfl rfl rfl hHl hHl ?_
    refine WL.as 113 (.bool true) rfl (congrArg Value.bool (decide_eq_true rfl)) ?_
    refine kgo ?_
    refine WL.loadMid rfl rfl rfl rfl rfl rfl (VBlk.rangeAt Hh2) hHl' ?_
    refine kgo ?_
    refine WL.loadMid rfl rfl rfl rfl rfl rfl (VBlk.rangeAt Hh3) hHl' ?_
    refine WL.on rfl rfl ?_
    refine WL.eqlH rfl rfl rfl rfl rfl rfl hHl hHl ?_
    refine WL.as 117 (.bool true) rfl (congrArg Value.bool (decide_eq_true rfl)) ?_
    refine kgo ?_
    refine WL.call rfl rfl rfl rfl rfl Tryd.func7 rfl (by kernel_rfl) known_any ?_
    rintro _ w9 ⟨rfl, hk9⟩
    refine ⟨_, rfl, ?_⟩
    refine kgo ?_
    exact WQ.ret1 rfl rfl ⟨rfl, hwr.trans (hk9.mono hwr.size)⟩
end K
end Go.Proofs.YtlamdhekjlnccaaDoor

/-
  For every block the law BlockBack answers true, and the argument reads as it did. The library's table lies as the program's text lays it: that is the card's tie; no other condition.
-/
namespace Go.Proofs.YtlamdhekjlnccaaDoor.blockBack
open Go.ChangeShapes Go.WideShapes Go.ChangeAt Go.RowKit
open Go.ChangeMaps (open_string shut_string)
open Go.Proofs.YtlamdhekjlnccaaDoor

set_option maxRecDepth 100000 in
theorem lifted (os : Os) (started : os.Started) (H : Type) (enc : TypeId × Value → H) :
    ReturnsInHanded {} Tryd.checked os 4 .any (fun w args => (Rows.blockBackSpec.pre enc Tryd.prog Tryd.f4 [] false w args ∧ laidMetH Tryd.prog Mk.laidL w) ∧ sizedMet enc Tryd.prog Tryd.f4 (OpenSpec.ofChange Rows.blockBackSpec) false w args)
      (Rows.blockBackSpec.post enc Tryd.prog Tryd.f4 false true false false) := by
  refine returnsInHanded_of_change_and (C := Tryd.checked) (X := fun w _ => laidMetH Tryd.prog Mk.laidL w) (fun _ _ _ hh h => h.of_heap hh) Tryd.ownKnob started (by kernel_rfl) Tryd.func4
    (ChangeSpec.witness_shaped (enc := enc) (C := Tryd.checked) (os := os) (X := fun w _ => laidMetH Tryd.prog Mk.laidL w) false (World.doorLaid Tryd.prog 14 os) #[.agg (K.bkC K.noB (.slice none 0 0)).toArray] 8 rfl (World.shaped_of_RefB (by kernel_rfl) (by kernel_rfl)) (by kernel_rfl) (by kernel_rfl) (by kernel_rfl) (Mk.door_met os _)) ?_
  intro W base args ds gs before hval0 hW hcnd hsz hL _
  have hval : ∀ (j : Nat) t v, Tryd.f4.params[j]? = some t → args[j]? = some v → Value.okWide Tryd.prog W .any base t v := hval0
  have hW' := hW
  obtain ⟨p, q, hA0, hV, rfl, hfz, hnd⟩ := hW
  have hA : DataW.TrodAll enc Tryd.prog W 0 (fun _ => true) true Tryd.f4.params.toList args.toList ds p := hA0
  rw [Tryd.params4] at hA hval
  obtain ⟨v0, vs0, d0, ds0, p0, q0, hargs, rfl, rfl, h0, r0⟩ := trodAll_cons hA
  obtain ⟨rfl, rfl, rfl⟩ := trodAll_nil r0
  obtain rfl : args = #[v0] := by cases args; simp_all
  obtain ⟨rfl, rfl⟩ := trodVars_none hV
  have k0 := h0
  have lt0 : ∀ x ∈ p0, x.block < W.heap.size := by obtain ⟨m, hm⟩ := k0; exact DataW.trod_lt m _ _ _ hm
  obtain ⟨f0, x0, c0, rfl, iv0, sm0⟩ := K.open_blkA (hval 0 26 v0 rfl rfl) h0 (fun n hn => by have := List.all_eq_true.1 hsz n (DataW.weights_mem_each (j := 0) rfl rfl n hn); simpa using this)
  clear hA0 hval0
  have hT := Mk.of_laid hL
  refine (K.blockBack_law iv0 sm0 hT).mono fun e W' ⟨he, bel⟩ => ?_
  subst he
  exact ⟨_, rfl, _, _, _, [], _, [], hW', trodAll_mk1 (shut_bool Tryd.underlying4 _), (trodAll_cons_mk (Below.trod Tryd.laid (by kernel_rfl) (of_decide_eq_true (by kernel_rfl)) k0 bel lt0) trodAll_mk0), rfl, bel.frame _, fun h => by cases h⟩

theorem over : Rows.blockBackRow.holds Tryd.pinned (OpenSpec.ofChange Rows.blockBackSpec) :=
  OpenClaim.holds_of_wide 4 Tryd.f4 rfl rfl rfl rfl rfl rfl rfl ⟨rfl, rfl, rfl, rfl, rfl⟩ rfl rfl rfl rfl rfl (by kernel_rfl) Tryd.func4 (by kernel_rfl)
    (of_decide_eq_true (by kernel_rfl)) (by unfold Func.isWrapper; first | (rw [if_pos (by decide +kernel)]; kernel_rfl) | (rw [if_neg (by decide +kernel)]; exact ⟨rfl, rfl⟩))
    (fun os started H enc _ => lifted os started H enc)

/-- The statement: the tied card. -/
theorem proved : Rows.BlockBackCardSaid :=
  Claim7.holds_tied_plain_at .later [] [.data] true (true, "84a6f94ee7ef8a3ee10fb84961d244daa4941039294a535ba3205dc60f92636a") false
    over (fun _ h => by cases h) (by kernel_rfl) (fun _ h => by cases h) blockBack_row_tie rfl ⟨rfl, rfl⟩ (by kernel_rfl) rfl
    (fun f fn hf hfn => by
      obtain rfl : f = 4 := Option.some.inj ((show Tryd.prog.funcNamed Rows.blockBackRow.func = some 4 by kernel_rfl).symm.trans hf) |>.symm
      obtain rfl : fn = Tryd.f4 := (Option.some.inj (Tryd.func4.symm.trans hfn)).symm
      exact ⟨by kernel_rfl, fun j t ht => by
        rw [Tryd.params4] at ht
        have hm : t ∈ [26] := by simpa using Array.mem_of_getElem? ht
        have hall : ([26].all fun u => !Tryd.prog.wantsStandIn u) = true := by kernel_rfl
        exact (show Tryd.prog.wantsStandIn t = false by simpa using List.all_eq_true.1 hall t hm)⟩)
    (by kernel_rfl)
end Go.Proofs.YtlamdhekjlnccaaDoor.blockBack
