/- Texts for LawOrdBk, part 4 of 5. -/
import Derived.Test.YtfpakjbaiohcaaaZLawOrdBk3
import Derived.WideShapes
import Derived.Laws.Strings
import GoSem.Op.String
import Derived.Great.BuildSlice
import Derived.Laws.BytesArg
import Derived.Lib.Bytes
namespace Go.Proofs.Ytfpakjbaiohcaaa
open Go.RowKit
namespace K

theorem rOf_any {f : Nat} {w0 w : World} {sl : Value} {l : List V} (h : IsVs f w0 sl l) (hbel : Below w0.heap.size w0 w) (hall : ∀ j, j < l.length → chk 16 (l.getD j noV) = 0) (hm : (keysV 16 l).length ≤ 70368744177664) :
    Calls Try.prog 21 #[sl] w fun e w' => e = .returned (.string (strOfNums (keysV 16 l))) ∧ Below w0.heap.size w0 w' := by
  obtain ⟨sp, cap, rfl, hcap1, hcap2, hrow⟩ := h; refine enter (args := [.slice sp l.length cap]) Try.func21 rfl Try.ntmps21 rfl ?_; refine K.kgo ?_; refine WC.loop (fun i : Nat × Value => [(0, .slice sp l.length cap), (3, i.2), (4, .int .i64 i.1)])
    (fun i w' => i.1 ≤ l.length ∧ Bu w' i.2 (keysV 16 (l.take i.1)) ∧ Apart w0 w' i.2) (fun i => l.length - i.1) (0, .slice none 0 0) ⟨rfl, rfl, rfl, trivial⟩
    ⟨Nat.zero_le _, Bu.nil _, hbel, fun g hg => by cases hg⟩ ?_
  rintro ⟨i, bb⟩ wr2 ⟨hi2, hbr, hap⟩; simp only at hi2 hbr hap ⊢
  by_cases hik2 : i < l.length
  · obtain ⟨kb, ko, rfl, hkb, hcells⟩ := hrow (by omega)
    obtain ⟨c, hc6, hci, hcr⟩ := hcells i hik2; have hcr' : wr2.rangeAt kb (ko + i * 6) c := fun j u hu => by rw [hap.below.cell (p := ⟨kb, ko + i * 6 + j, none⟩) hkb]; exact hcr j u hu
    have hstep : keysV 16 (l.take (i + 1)) = keysV 16 (l.take i) ++ keyV 16 (l.getD i noV) := by unfold keysV; rw [take_V hik2, List.flatMap_append]; simp
    have hle : (keysV 16 (l.take (i + 1))).length ≤ 70368744177664 := Nat.le_trans (flatMap_take_le l) hm; rw [hstep, List.length_append] at hle; refine K.kgo ?_; refine WL.idx i (ko + i * 6) rfl rfl rfl rfl rfl rfl rfl rfl hik2 rfl ?_; refine WL.loadMid rfl rfl rfl rfl rfl rfl hcr' hc6 ?_; refine WL.call rfl rfl rfl rfl rfl Try.func35 rfl (by kernel_rfl) (rkey_all 16 hci (hall i hik2) hbr hap hle) ?_; rintro e w4 ⟨b4, rfl, hb4, hg4⟩; refine ⟨_, rfl, ?_⟩; refine K.kgo ?_; refine WQ.again (i + 1, b4) ⟨rfl, rfl, rfl, trivial⟩ ⟨hik2, ?_, hap.grow hg4⟩ (by show l.length - (i + 1) < l.length - i; omega)
    show Bu w4 b4 (keysV 16 (l.take (i + 1)))
    rw [hstep]; exact hb4
  · obtain rfl : i = l.length := by omega
    rw [List.take_length] at hbr; refine K.kgo ?_; refine WL.strOf rfl rfl rfl rfl rfl rfl rfl rfl hbr.sl ?_; refine K.kgo ?_; exact WQ.ret1 rfl rfl ⟨rfl, hap.below⟩

theorem rKey_any {f : Nat} {w0 w : World} {sl : Value} {l : List V} (h : IsVs f w0 sl l) (hbel : Below w0.heap.size w0 w) (hl : l.length ≤ 9223372036854775807) (hm : firstBad (l.map (chk 16)) = 0 → (keysV 16 l).length ≤ 70368744177664) :
    Calls Try.prog 9 #[sl] w fun e w' => e = .returned (.tuple #[.string (keyOf l), .int .i64 (firstBad (l.map (chk 16)))]) ∧ Below w0.heap.size w0 w' := by
  have h0 := h; obtain ⟨sp, cap, rfl, hcap1, hcap2, hrow⟩ := h; refine enter (args := [.slice sp l.length cap]) Try.func9 rfl Try.ntmps9 rfl ?_; refine K.kgo ?_; refine WC.loop (fun i : Nat => [(0, .slice sp l.length cap), (4, .int .i64 i)])
    (fun i w' => i ≤ l.length ∧ Below w0.heap.size w0 w' ∧ ∀ j, j < i → chk 16 (l.getD j noV) = 0) (fun i => l.length - i) 0 ⟨rfl, rfl, trivial⟩ ⟨Nat.zero_le _, hbel, fun j hj => absurd hj (by omega)⟩ ?_
  rintro i wr ⟨hi, hbelr, hall⟩
  by_cases hik : i < l.length
  · obtain ⟨kb, ko, rfl, hkb, hcells⟩ := hrow (by omega)
    obtain ⟨c, hc6, hci, hcr⟩ := hcells i hik; have hcr' : wr.rangeAt kb (ko + i * 6) c := fun j u hu => by rw [hbelr.cell (p := ⟨kb, ko + i * 6 + j, none⟩) hkb]; exact hcr j u hu
    refine K.kgo ?_; refine WL.idx i (ko + i * 6) rfl rfl rfl rfl rfl rfl rfl rfl hik rfl ?_; refine WL.loadMid rfl rfl rfl rfl rfl rfl hcr' hc6 ?_; refine WL.call rfl rfl rfl rfl rfl Try.func20 rfl (by kernel_rfl) (rCheck_any (hci.below hbelr)) ?_; rintro e w4 ⟨rfl, hb4⟩; refine ⟨_, rfl, ?_⟩; have hbel4 : Below w0.heap.size w0 w4 := hbelr.trans (hb4.mono hbelr.size)
    by_cases h0 : chk 16 (l.getD i noV) = 0
    · refine K.kgo ?_
      refine WQ.again (i + 1) ⟨rfl, rfl, trivial⟩ ⟨hik, hbel4, fun j hj => (Nat.lt_succ_iff_lt_or_eq.1 hj).elim (hall j) (fun e => by rw [e]; exact h0)⟩ (by show l.length - (i + 1) < l.length - i; omega)
    · have hfb : firstBad (l.map (chk 16)) = chk 16 (l.getD i noV) := by
        rw [firstBad_take (i := i) (by rw [List.length_map]; exact hik) (fun j hj => by rw [chk_map 16 l j (by omega)]; exact hall j hj) (by rw [chk_map 16 l i hik]; exact h0), chk_map 16 l i hik]
      refine K.kgo ?_; refine WQ.ret2 rfl rfl rfl ⟨?_, hbel4⟩; unfold keyOf; rw [hfb, if_neg h0]
  · obtain rfl : i = l.length := by omega
    have hfb : firstBad (l.map (chk 16)) = 0 := firstBad_all fun j hj => by rw [List.length_map] at hj; rw [chk_map 16 l j hj]; exact hall j hj
    refine K.kgo ?_; refine WL.call rfl rfl rfl rfl rfl Try.func21 rfl (by kernel_rfl) (rOf_any h0 hbelr hall (hm hfb)) ?_; rintro e w4 ⟨rfl, hb4⟩; refine ⟨_, rfl, ?_⟩; refine K.kgo ?_; refine WQ.ret2 rfl rfl rfl ⟨?_, hb4⟩; unfold keyOf; rw [hfb, if_pos rfl]

theorem heavy_any {f : Nat} {w0 w : World} {sl : Value} {l : List V} (h : IsVs f w0 sl l) (hsm : ∀ x ∈ l, Sml f x) (hbel : Below w0.heap.size w0 w) :
    Calls Try.prog 7 #[sl] w fun e w' => e = .returned (.bool (decide (2000 < grtK 2000 (grt 2000 f) l 0))) ∧ Below w0.heap.size w0 w' := by
  obtain ⟨sp, cap, rfl, hcap1, hcap2, hrow⟩ := h; refine enter (args := [.slice sp l.length cap]) Try.func7 rfl Try.ntmps7 rfl ?_; refine K.kgo ?_; refine WL.alloc (z := .int .i64 0) rfl rfl rfl rfl (fun _ => by kernel_rfl) fun g w1 hf => ?_; have hblk : VBlk 3 w1 g [.int .i64 0] := hf.blk; have hg0 : w0.heap.size ≤ g := by rw [hf.eq]; exact hbel.size
  have hbel1 : Below w0.heap.size w0 w1 := hbel.trans (hf.below.mono hbel.size); refine WL.store rfl rfl rfl rfl rfl rfl (by kernel_rfl) (hblk.cell 0 (by simp)) (hblk.free 0) ?_; have hblk2 : VBlk 3 (w1.setCell ⟨g, 0, none⟩ (.int .i64 0)) g [.int .i64 0] := hblk.set 0 (.int .i64 0); have hbel2 : Below w0.heap.size w0 (w1.setCell ⟨g, 0, none⟩ (.int .i64 0)) := ((Keep.of_below hbel1).setCell (Nat.not_lt.2 hg0) _).below; generalize w1.setCell ⟨g, 0, none⟩ (.int .i64 0) = w2 at hblk2 hbel2; refine K.kgo ?_; refine WC.loop (fun i : Nat => [(0, .slice sp l.length cap), (3, .pointer (some ⟨g, 0, none⟩)), (4, .int .i64 i)])
    (fun i w' => i ≤ l.length ∧ Below w0.heap.size w0 w' ∧ ∃ x : Nat, x ≤ 2000 ∧ VBlk 3 w' g [.int .i64 x] ∧ grtK 2000 (grt 2000 f) (l.drop i) x = grtK 2000 (grt 2000 f) l 0) (fun i => l.length - i) 0 ⟨rfl, rfl, rfl, trivial⟩ ⟨Nat.zero_le _, hbel2, 0, by decide, hblk2, rfl⟩ ?_
  rintro i wr ⟨hi, hbelr, x, hx2, hbx, hx⟩; generalize hRR : grtK 2000 (grt 2000 f) l 0 = RR at hx ⊢
  by_cases hik : i < l.length
  · obtain ⟨kb, ko, rfl, hkb, hcells⟩ := hrow (by omega)
    obtain ⟨c, hc6, hci, hcr⟩ := hcells i hik; have hdr : l.drop i = l.getD i noV :: l.drop (i + 1) := by
      rw [List.drop_eq_getElem_cons hik]; simp [hik]
    rw [hdr] at hx; unfold grtK at hx; rw [if_pos hx2] at hx; have hcr' : wr.rangeAt kb (ko + i * 6) c := fun j u hu => by rw [hbelr.cell (p := ⟨kb, ko + i * 6 + j, none⟩) hkb]; exact hcr j u hu
    refine K.kgo ?_; refine WL.idx i (ko + i * 6) rfl rfl rfl rfl rfl rfl rfl rfl hik rfl ?_; refine WL.loadMid rfl rfl rfl rfl rfl rfl hcr' hc6 ?_; refine WL.call rfl rfl rfl rfl rfl Try.func17 rfl (by kernel_rfl) (great_any f hci (hsm _ (by rw [List.getD_eq_getElem?_getD, List.getElem?_eq_getElem hik]; exact List.getElem_mem hik)) hbelr hg0 hbx hx2) ?_; rintro e w4 ⟨rfl, hb4, hk4⟩; refine ⟨_, rfl, ?_⟩; have hbel4 : Below w0.heap.size w0 w4 := hbelr.trans (hk4.mono fun b hb => ⟨Nat.lt_of_lt_of_le hb hbelr.size, Nat.ne_of_lt (Nat.lt_of_lt_of_le hb hg0)⟩ : Keep (fun b => b < w0.heap.size) wr w4).below
    by_cases h20 : 2000 < grt 2000 f (l.getD i noV) x
    · rw [grtK_over _ h20] at hx
      refine K.kgo ?_; refine WQ.ret1 rfl rfl ⟨congrArg (fun b => Ending.returned (Value.bool b)) (decide_eq_true ?_).symm, hbel4⟩; rw [← hx]; exact h20
    · refine K.kgo ?_
      exact WQ.again (i + 1) ⟨rfl, rfl, rfl, trivial⟩ ⟨hik, hbel4, _, by omega, hb4, hx⟩ (by show l.length - (i + 1) < l.length - i; omega)
  · obtain rfl : i = l.length := by omega
    rw [List.drop_length] at hx; unfold grtK at hx; refine K.kgo ?_; refine WQ.ret1 rfl rfl ⟨congrArg (fun b => Ending.returned (Value.bool b)) (decide_eq_false ?_).symm, hbelr⟩; rw [← hx]; omega
end K
end Go.Proofs.Ytfpakjbaiohcaaa

namespace Go.Proofs.Ytfpakjbaiohcaaa
namespace Ord
open Go.Op

def strip : List UInt8 → List UInt8
  | [] => []
  | a :: r => match strip r with
    | [] => if a = 255 then [] else [a]
    | b :: q => a :: b :: q
def bump : List UInt8 → List UInt8
  | [] => []
  | [a] => [a + 1]
  | a :: b :: r => a :: bump (b :: r)
theorem strip_cons (a : UInt8) (r : List UInt8) : strip (a :: r) = match strip r with | [] => if a = 255 then [] else [a] | b :: q => a :: b :: q := rfl
theorem strip_top : ∀ (l : List UInt8), strip (l ++ [255]) = strip l
  | [] => rfl
  | a :: r => by
    show strip (a :: (r ++ [255])) = _
    rw [strip_cons, strip_cons, strip_top r]
theorem strip_low : ∀ (l : List UInt8) {c : UInt8}, ¬ c = 255 → strip (l ++ [c]) = l ++ [c]
  | [], c, h => by show strip [c] = [c]; rw [strip_cons]; show (if c = 255 then [] else [c]) = [c]; rw [if_neg h]
  | a :: r, c, h => by
    show strip (a :: (r ++ [c])) = _
    rw [strip_cons, strip_low r h]; cases r <;> rfl
theorem bump_end : ∀ (l : List UInt8) (c : UInt8), bump (l ++ [c]) = l ++ [c + 1]
  | [], c => rfl
  | [a], c => rfl
  | a :: b :: r, c => by
    show a :: bump ((b :: r) ++ [c]) = _
    rw [bump_end (b :: r) c]
    rfl
theorem list_split {t : ByteArray} {k : Nat} (hk : t.size = k + 1) : t.toList = (t.extract 0 k).toList ++ [t[k]'(by omega)] := by
  rw [ByteArray.toList_eq, ByteArray.toList_eq]; have h1 : (t.extract 0 k).data = t.data.extract 0 k := by simp [ByteArray.data_extract]
  rw [h1]; have hs : t.data.toList.length = k + 1 := by rw [Array.length_toList]; exact hk
  have h2 : (t.data.extract 0 k).toList = t.data.toList.take k := by simp
  rw [h2]; have h3 : t[k]'(by omega) = t.data.toList[k]'(by omega) := by rfl
  rw [h3, List.take_append_getElem]; exact (List.take_of_length_le (by omega)).symm
theorem list_empty {t : ByteArray} (h : t.size = 0) : t.toList = [] := by
  rw [ByteArray.toList_eq]; exact List.eq_nil_of_length_eq_zero (by rw [Array.length_toList]; exact h)

end Ord
end Go.Proofs.Ytfpakjbaiohcaaa

namespace Go.Proofs.Ytfpakjbaiohcaaa
open Go.RowKit
namespace Ord

set_option maxRecDepth 100000 in
set_option maxHeartbeats 2000000 in
theorem above_any (s : ByteArray) (w : World) (hs : s.size ≤ 4611686018427387904) :
    Calls Try.prog 11 #[.string s] w fun e w' => (∃ t, e = .returned (.tuple #[.string t, .bool (!(strip s.toList).isEmpty)]) ∧ t.toList = bump (strip s.toList)) ∧ Below w.heap.size w w' := by
  go_enter Try.func11, Try.ntmps11
  go_wp2_with fail
  go_loopw [0] (fun x wr => ∃ t : ByteArray, x = .string t ∧ strip t.toList = strip s.toList ∧ t.size ≤ s.size ∧ wr = w) (fun x _ => (match x with | .string t => t.size | _ => 0))
  case atStart => exact ⟨s, rfl, rfl, Nat.le_refl _, rfl⟩
  case round =>
    obtain ⟨t, rfl, ht, hts, rfl⟩ := hrel
    by_cases h0 : t.size = 0
    · have g0 : (t.size : Int) ≤ 0 := by omega
      have ht0 : t.toList = [] := list_empty h0; have Hst := Hid2.mk (show strip s.toList = [] by rw [← ht, ht0]; rfl); have hem : t.toList.isEmpty = true := by rw [ht0]; rfl
      clear ht ht0
      go_wp2_with fail
      go_ret2
      rw [Hst.out]; exact ⟨⟨ByteArray.mk #[], rfl, list_empty rfl⟩, Below.refl _ _⟩
    · have g0 : (0 : Int) < t.size := by omega
      obtain ⟨k, hk⟩ : ∃ k, t.size = k + 1 := ⟨t.size - 1, by omega⟩; have hkl : k < t.size := by omega
      have e1 : (t.size : Int) - 1 = (k : Nat) := by omega
      have hsp := list_split hk
      by_cases h255 : (t[k]'hkl) = 255
      · rw [h255] at hsp
        have Hsp := Hid2.mk hsp; clear hsp
        go_wp2_with fail
        refine ⟨⟨_, rfl, ?_, ?_, trivial⟩, ?_⟩
        · rw [← ht, Hsp.out, strip_top]
        · have : (t.extract 0 k).size = k := by simp; omega
          omega
        · have : (t.extract 0 k).size = k := by simp; omega
          show (t.extract 0 k).size < t.size
          omega
      · have Hsp := Hid2.mk hsp
        have hem : t.toList.isEmpty = false := by rw [hsp]; simp
        have h2 : ¬ (t[k]'hkl).toNat = 255 := fun e => h255 (UInt8.toNat.inj e); have g255 : (((t[k]'hkl).toNat : Int) == 255) = false := beq_eq_false_iff_ne.2 (by omega); clear hsp
        go_wp2_with fail
        have hwk : IntKind.i64.wrap (k : Int) = (k : Int) := IntWalk.i64_in _ (by omega); have hkk : (k : Int) ≤ (k : Int) + 1 := by omega
        have hwc : IntKind.u8.wrap (((t[k]'hkl).toNat : Int) + 1) = (((t[k]'hkl) + 1).toNat : Int) := by
          have h1 := (t[k]'hkl).toNat_lt; rw [UInt8.toNat_add, IntKind.wrap_u8]; simp
        refine wp_region_till 11 (fun _ => True) (by kernel_rfl) ?_; have hS : True := trivial; refine till_free (i := 0) rfl (by kernel_rfl) (by kernel_rfl) (by kernel_rfl) rfl (fun _ _ _ h => h) (.inr hS) (by rfl) (fun _ => by first | (go_simp; done) | (go_simp; with_reducible rfl)) ?_; refine till_free (i := 1) rfl (by kernel_rfl) (by kernel_rfl) (by kernel_rfl) rfl (fun _ _ _ h => h) (.inr hS) (by rfl) (fun _ => by first | (go_simp; done) | (go_simp; with_reducible rfl)) ?_; refine till_free (i := 2) rfl (by kernel_rfl) (by kernel_rfl) (by kernel_rfl) rfl (fun _ _ _ h => h) (.inr hS) (by rfl) (fun _ => by first | (go_simp; done) | (go_simp; with_reducible rfl)) ?_; refine till_free (i := 3) rfl (by kernel_rfl) (by kernel_rfl) (by kernel_rfl) rfl (fun _ _ _ h => h) (.inr hS) (by rfl) (fun _ => by first | (go_simp; done) | (go_simp; with_reducible rfl)) ?_; refine till_free (i := 4) rfl (by kernel_rfl) (by kernel_rfl) (by kernel_rfl) rfl (fun _ _ _ h => h) (.inr hS) (by rfl) (fun _ => by first | (go_simp; done) | (go_simp; with_reducible rfl)) ?_; refine till_free (i := 5) rfl (by kernel_rfl) (by kernel_rfl) (by kernel_rfl) rfl (fun _ _ _ h => h) (.inr hS) (by rfl) (fun _ => by first | (go_simp; done) | (go_simp; with_reducible rfl)) ?_; refine till_free (i := 6) rfl (by kernel_rfl) (by kernel_rfl) (by kernel_rfl) rfl (fun _ _ _ h => h) (.inr hS) (by rfl) (fun _ => by first | (go_simp; done) | (go_simp; with_reducible rfl)) ?_; refine till_free (i := 7) rfl (by kernel_rfl) (by kernel_rfl) (by kernel_rfl) rfl (fun _ _ _ h => h) (.inr hS) (by rfl) (fun _ => by first | (go_simp; done) | (go_simp; with_reducible rfl)) ?_; refine till_free (i := 8) rfl (by kernel_rfl) (by kernel_rfl) (by kernel_rfl) rfl (fun _ _ _ h => h) (.inr hS) (by rfl) (fun _ => by first | (go_simp; done) | (go_simp; with_reducible rfl)) ?_; refine till_free (i := 9) rfl (by kernel_rfl) (by kernel_rfl) (by kernel_rfl) rfl (fun _ _ _ h => h) (.inr hS) (by rfl) (fun _ => by first | (go_simp; done) | (go_simp; with_reducible rfl)) ?_; refine till_free (i := 10) rfl (by kernel_rfl) (by kernel_rfl) (by kernel_rfl) rfl (fun _ _ _ h => h) (.inr hS) (by rfl) (fun _ => by first | (go_simp; done) | (go_simp; with_reducible rfl)) ?_
        conv => { arg 9; simp [go_sem] }
        refine till_one (i := 11) (by kernel_rfl) rfl ?_; intro K hK
        go_simp
        refine hK _ _ (.inl rfl) ?_; clear hK K; have hcv := run_convert_bytes_arg (P := Try.prog) (wr.alloc (.cells #[.int .u8 (((t[k]'hkl).toNat + 1) % 256)] 5)).drew 47 5 Try.underlying47 Try.underlying5 wr.heap.size 0 1 1 [((t[k]'hkl).toNat + 1) % 256] rfl (fun i hi => by
          obtain rfl : i = 0 := by omega
          exact ((VBlk.mk wr [.int .u8 (((t[k]'hkl).toNat + 1) % 256)] 5).drewN 1).cell 0 (by simp)) 9 Try.underlying9
        have hbw : Below wr.heap.size wr (wr.alloc (.cells #[.int .u8 (((t[k]'hkl).toNat + 1) % 256)] 5)).drew := ((Keep.of_below ((Below.refl _ wr).alloc (Nat.le_refl _) _)).drewN 1).below; have hnum : (strOfNums [(((t[k]'hkl).toNat : Int) + 1) % 256]).toList = [(t[k]'hkl) + 1] := by
          rw [ByteArray.toList_eq, strOfNums_data]; have h1 := (t[k]'hkl).toNat_lt; have e : ((((t[k]'hkl).toNat : Int) + 1) % 256).toNat = (t[k]'hkl).toNat + 1 := by omega
          simp only [List.map_cons, List.map_nil, e]
          congr 1
        have hsz := strOfNums_size [(((t[k]'hkl).toNat : Int) + 1) % 256]; have hu : (t.extract 0 k).size = k := by simp; omega
        have Hbw := Hid2.mk hbw; have Hnum := Hid2.mk hnum; clear hbw hnum; generalize strOfNums [(((t[k]'hkl).toNat : Int) + 1) % 256] = x at hcv Hnum hsz; generalize t.extract 0 k = u at Hsp hu ⊢; refine till_one (i := 12) (by kernel_rfl) rfl ?_; intro K hK
        go_simp
        refine hK _ _ (.inl rfl) ?_; clear hK K; have hx1 : x.size = 1 := by simpa using hsz
        have hsum3 : ¬ 9223372036854775807 < k + 1 := by omega
        have hsum : ¬ (9223372036854775807 : Int) < ((u.size : Int) + (x.size : Int)) := by omega
        have hsum2 : ((u.size : Int) + (x.size : Int)) ≤ (9223372036854775807 : Int) := by omega
        clear hcv
        conv => { arg 9; simp [go_sem] }
        refine till_free (i := 13) rfl (by kernel_rfl) (by kernel_rfl) (by kernel_rfl) rfl (fun _ _ _ h => h) (.inl rfl) (by rfl) (fun _ => by first | (go_simp; done) | (go_simp; with_reducible rfl)) ?_; refine till_free (i := 14) rfl (by kernel_rfl) (by kernel_rfl) (by kernel_rfl) rfl (fun _ _ _ h => h) (.inl rfl) (by rfl) (fun _ => by first | (go_simp; done) | (go_simp; with_reducible rfl)) ?_; refine till_free (i := 15) rfl (by kernel_rfl) (by kernel_rfl) (by kernel_rfl) rfl (fun _ _ _ h => h) (.inl rfl) (by rfl) (fun _ => by first | (go_simp; done) | (go_simp; with_reducible rfl)) ?_; refine till_done (by kernel_rfl) ?_ _; have Hst := Hid2.mk (show strip s.toList = u.toList ++ [t[k]'hkl] by rw [← ht, Hsp.out, strip_low _ h255])
        go_wp2_with fail
        go_ret2
        rw [Hst.out]; refine ⟨⟨u ++ x, by simp, ?_⟩, Hbw.out⟩; rw [bump_end, ByteArray.toList_eq, ByteArray.data_append, Array.toList_append, ← ByteArray.toList_eq, ← ByteArray.toList_eq, Hnum.out]

end Ord
end Go.Proofs.Ytfpakjbaiohcaaa

namespace Go.Proofs.Ytfpakjbaiohcaaa
open Go.RowKit
namespace K

def vM25 : V := .mk 3 (-25) 0 ⟨#[]⟩ [] []
theorem key_M25 : (keyOf [vM25]).toList = [48, 61, 252, 249, 255] := by decide +kernel
theorem ok_M25 : firstBad ([vM25].map (chk 16)) = 0 := by decide +kernel
theorem len_M25 : (keysV 16 [vM25]).length ≤ 70368744177664 := by decide +kernel

theorem known_any (w : World) : Calls Try.prog 10 #[] w fun e w' => e = .returned (.bool true) ∧ Below w.heap.size w w' := by
  refine enter (args := []) Try.func10 rfl Try.ntmps10 rfl ?_; refine K.kgo ?_; refine WL.build [.int .i64 3, .int .i64 (-25), .int .i64 0, .string ⟨#[]⟩, .slice none 0 0, .slice none 0 0] rfl rfl rfl rfl rfl (by kernel_rfl) ?_; refine WL.litV [.int .i64 3, .int .i64 (-25), .int .i64 0, .string ⟨#[]⟩, .slice none 0 0, .slice none 0 0] rfl rfl rfl rfl rfl rfl (by kernel_rfl) fun g w1 hf => ?_; have hv : IsVs 1 w1 (.slice (some ⟨g, 0, none⟩) 1 1) [vM25] := by
    refine ⟨_, _, rfl, Nat.le_refl _, by decide, fun _ => ⟨g, 0, rfl, hf.blk.lt, fun j hj => ?_⟩⟩; obtain rfl : j = 0 := by simp at hj; omega
    refine ⟨_, rfl, ⟨.slice none 0 0, .slice none 0 0, rfl, by decide, by decide, by decide, by decide, ⟨none, 0, rfl, by decide, by decide, fun j hj => absurd hj (by simp [vM25, V.names]), fun h0 => absurd h0 (by simp [vM25, V.names])⟩, ⟨none, 0, rfl, by decide, by decide, fun h0 => absurd h0 (by simp [vM25, V.kids])⟩⟩, ?_⟩; exact VBlk.rangeAt hf.blk
  refine WL.call rfl rfl rfl rfl rfl Try.func8 rfl (by kernel_rfl) (Key_any hv (by decide) (fun _ => len_M25)) ?_; rintro e w2 ⟨rfl, hb2⟩; refine ⟨_, rfl, ?_⟩; rw [ok_M25]; have hK := key_M25; generalize keyOf [vM25] = kk at hK; refine K.kgo ?_; refine WL.call rfl rfl rfl rfl rfl Try.func11 rfl (by kernel_rfl) (Ord.above_any _ w2 (by decide)) ?_; rintro e w3 ⟨⟨t, rfl, ht⟩, hb3⟩; refine ⟨_, rfl, ?_⟩; have e1 : (ByteArray.mk #[97, 255]).toList = [97, 255] := by decide +kernel
  have e2 : (!(Ord.strip [97, 255]).isEmpty) = true := by decide +kernel
  rw [e1] at ht ⊢; rw [e2]; have ht2 : t.toList = [98] := ht; refine K.kgo ?_; refine WL.as 21 (.bool true) rfl (congrArg Value.bool (by rw [hK]; decide +kernel)) ?_; refine K.kgo ?_; exact WQ.ret1 rfl rfl ⟨congrArg (fun b => Ending.returned (Value.bool b)) (by rw [ht2]; decide +kernel), hf.below.trans ((hb2.mono hf.below.size).trans (hb3.mono (Nat.le_trans hf.below.size hb2.size)))⟩

end K
end Go.Proofs.Ytfpakjbaiohcaaa

namespace Go.Proofs.Ytfpakjbaiohcaaa
namespace K

theorem textK_len (l : List UInt8) : (textK l).length ≤ 2 * l.length + 2 := by
  unfold textK; rw [List.length_append]; have := textP_le l; simp
  omega

theorem grtK_key {B f m : Nat} (ih : ∀ (v : V) (n : Nat), Sml f v → chk m v = 0 → grt B f v n ≤ B → n ≤ grt B f v n ∧ (keyV m v).length + 100 * n ≤ 100 * grt B f v n) :
    ∀ (l : List V) (n : Nat), (∀ x ∈ l, Sml f x ∧ chk m x = 0) → grtK B (grt B f) l n ≤ B → n ≤ grtK B (grt B f) l n ∧ (keysV m l).length + 100 * n ≤ 100 * grtK B (grt B f) l n
  | [], n, _, _ => by simp [grtK, keysV]
  | k :: r, n, h, hB => by
    unfold grtK at hB ⊢
    by_cases hn : n ≤ B
    · rw [if_pos hn] at hB ⊢
      have hk := h k List.mem_cons_self; have hle : grt B f k n ≤ B := by
        rcases Nat.lt_or_ge B (grt B f k n) with h1 | h1
        · rw [grtK_over r h1] at hB; omega
        · exact h1
      have h1 := ih k n hk.1 hk.2 hle; have h2 := grtK_key ih r (grt B f k n) (fun x hx => h x (List.mem_cons_of_mem _ hx)) hB; have e : (keysV m (k :: r)).length = (keyV m k).length + (keysV m r).length := by simp [keysV]
      rw [e]; omega
    · rw [if_neg hn] at hB; omega
theorem pieces_len (ky : V → List Int) (st : Bool) (names : List ByteArray) (kids : List V) (hn : ∀ s ∈ names, s.size ≤ 40) :
    ((List.range kids.length).flatMap (pieceK ky st names kids)).length ≤ 83 * kids.length + (kids.flatMap ky).length := by
  have key : ∀ i, i ≤ kids.length → ((List.range i).flatMap (pieceK ky st names kids)).length ≤ 83 * i + ((kids.take i).flatMap ky).length := by
    intro i
    induction i with
    | zero => intro _; simp
    | succ i ih =>
      intro hi; have h1 := ih (by omega); have ht : kids.take (i + 1) = kids.take i ++ [kids.getD i noV] := by
        rw [List.take_add_one]; simp [show i < kids.length by omega]
      rw [range_piece, List.length_append, ht, List.flatMap_append, List.length_append]; have h2 : (pieceK ky st names kids i).length ≤ 83 + ([kids.getD i noV].flatMap ky).length := by
        unfold pieceK; rw [List.length_append]; have hs : (names.getD i noT).size ≤ 40 := by
          rcases Nat.lt_or_ge i names.length with h | h
          · rw [List.getD_eq_getElem?_getD, List.getElem?_eq_getElem h]; exact hn _ (List.getElem_mem h)
          · rw [List.getD_eq_getElem?_getD, List.getElem?_eq_none h]; decide
        have hk := textK_len (names.getD i noT).toList; have hz : (names.getD i noT).toList.length = (names.getD i noT).size := by rw [ByteArray.toList_eq]; rfl
        generalize names.getD i noT = nm at hs hk hz ⊢; generalize kids.getD i noV = kd; cases st <;> simp <;> omega
      omega
  have := key kids.length (Nat.le_refl _)
  rwa [List.take_length] at this
theorem grt_key {B : Nat} : ∀ (f m : Nat) (v : V) (n : Nat), Sml f v → chk m v = 0 → grt B f v n ≤ B → n ≤ grt B f v n ∧ (keyV m v).length + 100 * n ≤ 100 * grt B f v n
  | 0, _, _, _, h, _, _ => h.elim
  | _ + 1, 0, _, _, _, h, _ => by cases h
  | f + 1, m + 1, v, n, hs, hc, hB => by
    obtain ⟨-, -, hsk⟩ := hs; have hk : ∀ x ∈ v.kids, Sml f x ∧ chk m x = 0 := fun x hx => by
      obtain ⟨j, hj, rfl⟩ := List.getElem_of_mem hx; exact ⟨hsk _ hx, by simpa [hj] using chk_kid hc hj⟩
    unfold grt at hB ⊢; have h1 := grtK_key (grt_key f m) v.kids _ hk hB; obtain ⟨-, -, -, -, -, -, -, f9⟩ := shp_form (chk_shp hc); refine ⟨by omega, ?_⟩; have hbody : (keyV (m + 1) v).length ≤ 100 + 40 * (v.t.size / 20) + 83 * v.names.length + (keysV m v.kids).length := by
      have e : keyV (m + 1) v = classI v.k ::
        (if v.k = 2 then [v.n] else if v.k = 3 ∨ v.k = 4 then numB v.n v.s else if v.k = 5 then bigI v.n else if v.k = 6 ∨ v.k = 7 then textK v.t.toList
         else if v.k = 8 ∨ v.k = 9 then (List.range v.kids.length).flatMap (pieceK (keyV m) (decide (v.k = 9)) v.names v.kids) ++ [0] else []) := rfl
      rw [e, List.length_cons]
      by_cases k2 : v.k = 2
      · rw [if_pos k2]; simp; omega
      by_cases k34 : v.k = 3 ∨ v.k = 4
      · rw [if_neg k2, if_pos k34]; have := numB_len v.n v.s; omega
      by_cases k5 : v.k = 5
      · rw [if_neg k2, if_neg k34, if_pos k5]; simp [bigI, shortI]; omega
      by_cases k67 : v.k = 6 ∨ v.k = 7
      · rw [if_neg k2, if_neg k34, if_neg k5, if_pos k67]
        have := textK_len v.t.toList; have hz : v.t.toList.length = v.t.size := by rw [ByteArray.toList_eq]; rfl
        omega
      by_cases k89 : v.k = 8 ∨ v.k = 9
      · rw [if_neg k2, if_neg k34, if_neg k5, if_neg k67, if_pos k89, List.length_append]
        by_cases k9 : v.k = 9
        · have hp : _ ≤ 83 * v.kids.length + (keysV m v.kids).length := pieces_len (keyV m) (decide (v.k = 9)) v.names v.kids (f9 k9).2
          have := (f9 k9).1; simp only [List.length_cons, List.length_nil]; omega
        · have hz : ((List.range v.kids.length).flatMap (pieceK (keyV m) (decide (v.k = 9)) v.names v.kids)).length = (keysV m v.kids).length := by
            have key : ∀ i, i ≤ v.kids.length → (List.range i).flatMap (pieceK (keyV m) (decide (v.k = 9)) v.names v.kids) = (v.kids.take i).flatMap (keyV m) := by
              intro i
              induction i with
              | zero => intro _; simp
              | succ i ih =>
                intro hi; have ht : v.kids.take (i + 1) = v.kids.take i ++ [v.kids.getD i noV] := by
                  rw [List.take_add_one]; simp [show i < v.kids.length by omega]
                rw [range_piece, ih (by omega), ht, List.flatMap_append]; simp [pieceK, k9]
            rw [key _ (Nat.le_refl _), List.take_length]
            rfl
          rw [hz]; simp; omega
      · rw [if_neg k2, if_neg k34, if_neg k5, if_neg k67, if_neg k89]; simp; omega
    omega
theorem grt_keys {B f : Nat} {l : List V} (hs : ∀ x ∈ l, Sml f x) (h : ¬ B < grtK B (grt B f) l 0) (hc : firstBad (l.map (chk 16)) = 0) : (keysV 16 l).length ≤ 100 * B := by
  have h2 := grtK_key (B := B) (f := f) (m := 16) (fun v n => grt_key f 16 v n) l 0 (fun x hx => ⟨hs x hx, firstBad_zero.1 hc _ (List.mem_map_of_mem hx)⟩) (by omega); omega
end K
end Go.Proofs.Ytfpakjbaiohcaaa

namespace Go.Proofs.Ytfpakjbaiohcaaa
open Go.RowKit
namespace K

end K
end Go.Proofs.Ytfpakjbaiohcaaa

namespace Go.Proofs.Ytfpakjbaiohcaaa
namespace K
open Op (bytesLess)

theorem textP_range : ∀ (s : List UInt8), ∀ c ∈ textP s, 0 ≤ c ∧ c ≤ 255
  | [], c, h => by simp [textP] at h
  | a :: s, c, h => by
    rw [textP] at h; have := a.toNat_lt
    split at h
    · rcases List.mem_cons.1 h with rfl | h
      · omega
      · rcases List.mem_cons.1 h with rfl | h
        · omega
        · exact textP_range s c h
    · rcases List.mem_cons.1 h with rfl | h
      · omega
      · exact textP_range s c h
theorem textK_range (s : List UInt8) : ∀ c ∈ textK s, 0 ≤ c ∧ c ≤ 255 := by
  intro c h; unfold textK at h; rcases List.mem_append.1 h with h | h
  · exact textP_range s c h
  · simp at h; omega
theorem numB_range (n s : Int) : ∀ c ∈ numB n s, 0 ≤ c ∧ c ≤ 255 := by
  intro c h; unfold numB at h
  split at h
  · simp at h; omega
  · split at h
    · unfold flipB at h
      obtain ⟨x, hx, rfl⟩ := List.mem_map.1 h; have := posB_range _ _ x hx; omega
    · exact posB_range _ _ c h
theorem bigI_range (n : Int) : ∀ c ∈ bigI n, 0 ≤ c ∧ c ≤ 255 := by
  intro c h; simp [bigI, shortI] at h
  omega
theorem keyV_range : ∀ (m : Nat) {v : V}, chk m v = 0 → ∀ c ∈ keyV m v, 0 ≤ c ∧ c ≤ 255
  | 0, _, h, _, _ => by cases h
  | m + 1, v, h, c, hc => by
    obtain ⟨a1, a2, a3, a4, a5, a6, a7, a8⟩ := shp_form (chk_shp h); unfold keyV at hc; rcases List.mem_cons.1 hc with rfl | hc
    · unfold classI; split
      · omega
      · split <;> omega
    · split at hc
      · simp at hc; omega
      · split at hc
        · exact numB_range _ _ c hc
        · split at hc
          · exact bigI_range _ c hc
          · split at hc
            · exact textK_range _ c hc
            · split at hc
              · rcases List.mem_append.1 hc with hc | hc
                · obtain ⟨j, hj, hc⟩ := List.mem_flatMap.1 hc
                  have hj' := List.mem_range.1 hj; unfold pieceK at hc; rcases List.mem_append.1 hc with hc | hc
                  · split at hc
                    · rcases List.mem_cons.1 hc with rfl | hc
                      · omega
                      · exact textK_range _ c hc
                    · simp at hc
                  · exact keyV_range m (chk_kid h hj') c hc
                · simp at hc; omega
              · simp at hc
theorem keysV_range {l : List V} (h : firstBad (l.map (chk 16)) = 0) : ∀ c ∈ keysV 16 l, 0 ≤ c ∧ c ≤ 255 := by
  intro c hc; obtain ⟨x, hx, hc⟩ := List.mem_flatMap.1 hc; exact keyV_range 16 (firstBad_zero.1 h _ (List.mem_map.2 ⟨x, hx, rfl⟩)) c hc
end K
end Go.Proofs.Ytfpakjbaiohcaaa

namespace Go.Proofs.Ytfpakjbaiohcaaa
open Go.RowKit
namespace K
theorem isV_wv {w : World} : ∀ {f : Nat} {v : V} {cs : List Value}, IsV f w v cs → Wv f v
  | 0, _, _, h => h
  | f + 1, v, _, ⟨_, _, _, _, hn, _, _, _, _, _, _, _, _, hk⟩ => by
    refine ⟨?_, fun x hx => ?_⟩
    · simp [Lit.wf, IntKind.min, IntKind.max, IntKind.bits, IntKind.signed] at hn; omega
    · obtain ⟨j, hj, rfl⟩ := List.getElem_of_mem hx
      obtain ⟨_, _, _, _, hr⟩ := hk (by omega); obtain ⟨cs, _, h, _⟩ := hr j hj; have := isV_wv h
      rwa [List.getD_eq_getElem?_getD, List.getElem?_eq_getElem hj] at this
theorem isVs_wr {w : World} {f : Nat} {sl : Value} {l : List V} (h : IsVs f w sl l) : ∀ x ∈ l, Wr x := fun x hx => by
  obtain ⟨_, _, _, _, _, hk⟩ := h; obtain ⟨j, hj, rfl⟩ := List.getElem_of_mem hx; obtain ⟨_, _, _, _, hr⟩ := hk (by omega); obtain ⟨cs, _, h, _⟩ := hr j hj; have := isV_wv h; rw [List.getD_eq_getElem?_getD, List.getElem?_eq_getElem hj] at this; exact ⟨f, this⟩
theorem elsVs {q O : Nat → Prop} {w : World} {f : Nat} {v : Value} {l : List V} (h : Els 6 noV (IsVo q f w) O w v l) : IsVs f w v l := by
  obtain ⟨sp, cap, k1, k2, k3, -, k4⟩ := h; refine ⟨sp, cap, k1, k2, k3, fun h0 => ?_⟩; obtain ⟨b, o, e, hb, -, hr⟩ := k4 h0; refine ⟨b, o, e, hb, fun j hj => ?_⟩; obtain ⟨cs, hc, hp, hat⟩ := hr j hj; exact ⟨cs, hc, hp.isV, hat⟩
def Good (kk : List V) : Prop := ∀ y ∈ kk, chk 16 y = 0 ∧ Wr y
theorem good_bad {kk : List V} (h : ∀ y ∈ kk, Wr y) : firstBad (kk.map (chk 16)) = 0 ↔ Good kk := by
  rw [firstBad_zero]
  constructor
  · intro a y hy
    exact ⟨a _ (List.mem_map.2 ⟨y, hy, rfl⟩), h y hy⟩
  · intro a e he
    obtain ⟨y, hy, rfl⟩ := List.mem_map.1 he; exact (a y hy).1
theorem bytesK_strOf {zs : List Int} (h : ∀ c ∈ zs, 0 ≤ c ∧ c ≤ 255) : bytesI (strOfNums zs) = zs := by
  unfold bytesI; rw [ByteArray.toList_eq]
  show List.map _ ((zs.map fun c => UInt8.ofNat c.toNat).toArray.toList) = zs
  rw [List.map_map]
  conv => rhs; rw [← List.map_id zs]
  refine List.map_congr_left fun c hc => ?_; have := h c hc; simp
  omega
theorem strOf_bytesK (t : ByteArray) : strOfNums (bytesI t) = t := bytes_back t
theorem good_keys {kk : List V} (h : Good kk) : ∀ c ∈ keysV 16 kk, 0 ≤ c ∧ c ≤ 255 := keysV_range ((good_bad fun y hy => (h y hy).2).2 h)
def ValsOut (w : World) (s : ByteArray) (e : Ending) (w' : World) : Prop :=
  Below w.heap.size w w' ∧ ∃ (sl : Value) (l : List V) (er : Int), e = .returned (.tuple #[sl, .int .i64 er]) ∧ IsVs 17 w' sl l ∧
    ((er = 0 ∧ Good l ∧ keysV 16 l = bytesI s ∧ ∀ kk, Good kk → keysV 16 kk = bytesI s → kk = l) ∨ (er = 3 ∧ l = [] ∧ ∀ kk, Good kk → keysV 16 kk ≠ bytesI s))
theorem TL.end_ok {l : List V} {s : ByteArray} (hw : ∀ y ∈ l, Wr y) (h : TL (bytesI s) l [] false) (hf : firstBad (l.map (chk 16)) = 0) (hk : strOfNums (keysV 16 l) = s) :
    Good l ∧ keysV 16 l = bytesI s ∧ ∀ kk, Good kk → keysV 16 kk = bytesI s → kk = l := by
  have hg := (good_bad hw).1 hf; exact ⟨hg, by rw [← hk, bytesK_strOf (good_keys hg)], fun kk h1 h2 => h.all h1 h2.symm⟩
theorem TL.end_bad {l : List V} {li : List Int} {bi : Bool} {s : ByteArray} (hw : ∀ y ∈ l, Wr y) (h : TL (bytesI s) l li bi) (hli : bi = false → li = []) (hbad : bi = true ∨ ¬ firstBad (l.map (chk 16)) = 0 ∨ ¬ keyOf l = s) : ∀ kk, Good kk → keysV 16 kk ≠ bytesI s := fun kk h1 h2 => by
  obtain ⟨rest, h3, h4, h5⟩ := h.ok kk h1 h2.symm; have := hli h5; subst this; obtain rfl := h.all h1 h2.symm; have hf := (good_bad hw).2 h1; rcases hbad with hb | hb | hb
  · rw [h5] at hb; cases hb
  · exact hb hf
  · exact hb (by unfold keyOf; rw [if_pos hf, h2, strOf_bytesK])
theorem isVs_none (f : Nat) (w : World) : IsVs f w (.slice none 0 0) [] := ⟨none, 0, rfl, Nat.le_refl _, by omega, fun h => absurd h (by simp)⟩
set_option maxHeartbeats 4000000 in
theorem Values_any (s : ByteArray) (hs : s.size ≤ 1000000) (w : World) : Calls Try.prog 13 #[.string s] w (ValsOut w s) := by
  refine enter (args := [.string s]) Try.func13 rfl Try.ntmps13 rfl ?_; have hsl := bytesI_len s; refine K.kgo ?_; refine WL.build [.string s, .bool false] rfl rfl rfl rfl rfl (by kernel_rfl) ?_; refine WL.box rfl rfl rfl rfl rfl fun rb w1 hf => ?_; have hf1 : Fresh w rb w1 56 [.string s, .bool false] := hf; clear hf; have hrbe := hf1.eq; have hz1 := hf1.size; have hr1 : KR (rb + 1) w1 rb (bytesI s) false := ⟨Nat.lt_succ_self _, s, rfl, hf1.blk⟩; have hb1 := hf1.below; clear hf1; refine K.kgb ?_; refine WC.mid (fun i : Value × List V × List Int × Bool => [(0, .string s), (4, .pointer (some ⟨rb, 0, none⟩)), (5, i.1)])
    (fun i wr => KR (rb + 1) wr rb i.2.2.1 i.2.2.2 ∧ Below w.heap.size w wr ∧ IsVs 17 wr i.1 i.2.1 ∧ TL (bytesI s) i.2.1 i.2.2.1 i.2.2.2 ∧ (i.2.2.2 = false → i.2.2.1 = [])) rfl ?_ ?_
  · refine WC.block ?_
    refine WC.loop (fun i : Value × List V × List Int × Bool => [(0, .string s), (4, .pointer (some ⟨rb, 0, none⟩)), (5, i.1)])
      (fun i wr => KR (rb + 1) wr rb i.2.2.1 i.2.2.2 ∧ Below w.heap.size w wr ∧ w.heap.size < wr.heap.size ∧ (∃ q : Nat → Prop, OwnE 37 6 noV (IsVo q 17 wr) (fun b => w.heap.size < b) wr i.1 i.2.1 ∧ ∀ b, q b → w.heap.size < b ∧ b < wr.heap.size ∧ i.1.ownBlock ≠ some b) ∧ TL (bytesI s) i.2.1 i.2.2.1 i.2.2.2)
      (fun i => 2 * i.2.2.1.length + (if i.2.2.2 then 0 else 1)) (.slice none 0 0, [], bytesI s, false) ⟨rfl, rfl, rfl, trivial⟩ ⟨hr1, hb1, by omega, ⟨fun _ => False, OwnE.nil _ _ _ _ _ _, fun b h => h.elim⟩, TL.start⟩ ?_
    clear hr1 hb1; rintro ⟨v5, ks, li, bi⟩ wr ⟨hr, hb, hgt, ⟨q, ho, hq⟩, hT⟩; simp only at hr hb hgt ho hq hT ⊢; have hcnt := hT.count; have hlw : li.length ≤ (bytesI s).length := by have := hT.wt 0; cases bi <;> simp at this <;> omega
    obtain ⟨sr, hsr, hrc⟩ := hr.ex; have hsrl := bytesI_len sr; rw [hsr] at hsrl; have hvs : IsVs 17 wr v5 ks := elsVs ho.els; refine K.kgo ?_; refine WL.load rfl rfl rfl rfl rfl rfl (hrc.cell 0 (by simp)) ?_
    by_cases h0 : li = []
    · have hl0 : li.length = 0 := by rw [h0]; rfl
      refine K.kgo ?_; exact WQ.meet (v5, ks, li, bi) ⟨rfl, rfl, rfl, trivial⟩ ⟨hr, hb, hvs, hT, fun _ => h0⟩
    · have hl0 : 0 < li.length := List.length_pos_iff.2 h0
      refine K.kgo ?_; refine WL.load rfl rfl rfl rfl rfl rfl (hrc.cell 1 (by simp)) ?_; cases bi with
      | true =>
        refine K.kgo ?_; exact WQ.meet (v5, ks, li, true) ⟨rfl, rfl, rfl, trivial⟩ ⟨hr, hb, hvs, hT, fun h => by cases h⟩
      | false =>
        refine K.kgo ?_; refine WL.call rfl rfl rfl rfl rfl Try.func26 rfl (by kernel_rfl) (kvalue_any 16 1 rfl (by omega) hr (by omega) (by omega)) ?_; rintro _ w6 ⟨v, cs, l6, e6, rfl, hv6, hr6, hk6, ho6⟩; refine ⟨_, rfl, ?_⟩; have hz6 := hk6.size; have hown : ∀ g, v5.ownBlock = some g → w.heap.size < g ∧ g < wr.heap.size := fun g hg => ⟨ho.own hg, ho.lt hg⟩; have ho6' : OwnE 37 6 noV (IsVo q 17 w6) (fun b => w.heap.size < b) w6 v5 ks := ho.keep hk6 (fun g hg => ⟨(hown g hg).2, by have := (hown g hg).1; omega⟩) (fun _ h => h) fun x cs hx => hx.keep hk6 (fun b hb _ => ⟨(hq b hb).2.1, by have := (hq b hb).1; omega⟩) fun _ h => h; have hb6 : Below w.heap.size w w6 := hb.trans (Keep.below (Keep.mono hk6 fun b (hb : b < w.heap.size) => ⟨by omega, by omega⟩)); refine WL.lit1 rfl rfl rfl rfl rfl rfl rfl hv6.len ⟨by omega, by omega⟩ (by kernel_rfl) fun g7 w7 hf7 => ?_; have hz7 := hf7.size; have hge7 := hf7.eq; have ho7 : OwnE 37 6 noV (IsVo (fun b => q b ∨ (wr.heap.size ≤ b ∧ b < w6.heap.size)) 17 w7) (fun b => w.heap.size < b) w7 v5 ks := ho6'.keep (Keep.of_below hf7.below) (fun g hg => by have := (hown g hg).2; omega) (fun _ h => h) fun x cs hx => hx.keep (Keep.of_below hf7.below) (fun b _ h => h) fun _ h => .inl h; have hv7 : IsVo (fun b => q b ∨ (wr.heap.size ≤ b ∧ b < w6.heap.size)) 17 w7 v cs := hv6.there.keep (Keep.of_below hf7.below) (fun b _ h => h) fun b hb => .inr hb; have hr7 := hr6.keep (Keep.of_below hf7.below) fun b hb => by omega
        refine WL.snoc rfl rfl rfl rfl elemV6 rfl ho7 rfl hf7.blk hv6.one hv6.len hv7 (by omega) (by omega) fun v8 w8 ho8 hg8 => ?_; have hz8 := hg8.1.size; have hr8 := hr7.keep hg8.1 fun b hb => ⟨by omega, fun e => by have := (hown b e).1; omega⟩; have hb8 : Below w.heap.size w w8 := (hb6.trans (hf7.below.mono (by omega))).trans (hg8.old (by omega) fun g hg => by have := (hown g hg).1; omega); have hown8 : ∀ g, v8.ownBlock = some g → v5.ownBlock = some g ∨ w7.heap.size ≤ g := hg8.2; refine K.kgo ?_; refine WQ.again (v8, ks ++ [v], l6, e6) ⟨rfl, rfl, rfl, trivial⟩ ⟨hr8, hb8, by omega, ⟨fun b => q b ∨ (wr.heap.size ≤ b ∧ b < w6.heap.size), ?_, fun b hbq => ?_⟩, hT.step h0 ho6⟩ ?_
        · refine ho8.keep (Keep.refl (fun _ => True) w8) (fun _ _ => trivial) (fun b hb => hb.elim id fun e => by omega) fun x cs hx => hx.keep hg8.1 (fun b hbq _ => ?_) fun _ h => h
          rcases hbq with hbq | hbq
          · exact ⟨by have := (hq b hbq).2.1; omega, (hq b hbq).2.2⟩
          · exact ⟨by omega, fun e => by have := (hown b e).2; omega⟩
        · rcases hbq with hbq | hbq
          · exact ⟨(hq b hbq).1, by have := (hq b hbq).2.1; omega, fun e => (hown8 b e).elim (hq b hbq).2.2 fun h => by have := (hq b hbq).2.1; omega⟩
          · exact ⟨by omega, by omega, fun e => (hown8 b e).elim (fun e => by have := (hown b e).2; omega) fun h => by omega⟩
        · show 2 * l6.length + (if e6 then 0 else 1) < 2 * li.length + 1
          have := ho6.len; cases e6 with
          | true => simp; omega
          | false => have := ho6.less; simp; omega
  clear hr1 hb1; rintro ⟨v5, ks, li, bi⟩ wr ⟨hr, hb, hvs, hT, hli⟩; simp only at hr hb hvs hT hli ⊢; have hcnt := hT.count; have hwr := isVs_wr hvs; have hsz : (keysV 16 ks).length ≤ 64 * (bytesI s).length + 1 := by
    have := hT.wt 16; unfold keysV; generalize (ks.flatMap (keyV 16)).length = A at this ⊢; cases bi <;> simp at this <;> omega
  refine K.kgo ?_; refine WL.call rfl rfl rfl rfl rfl Try.func8 rfl (by kernel_rfl) (Key_any hvs (by omega) fun _ => by omega) ?_; rintro _ w2 ⟨rfl, hb2⟩; refine ⟨_, rfl, ?_⟩; have hr2 := hr.keep (Keep.of_below hb2) fun b hb' => by have := hb.size; have := hr.ex; obtain ⟨s3, -, h3⟩ := this; have := h3.lt; omega
  obtain ⟨s2, -, hrc⟩ := hr2.ex; have hbb : Below w.heap.size w w2 := hb.trans (hb2.mono hb.size); have hvs2 := hvs.below hb2; have hend := fun h => hT.end_bad hwr hli h; have hok := fun (hbi : bi = false) => @TL.end_ok ks s hwr (by have := hli hbi; rw [this, hbi] at hT; exact hT); have hkey : firstBad (ks.map (chk 16)) = 0 → keyOf ks = s → strOfNums (keysV 16 ks) = s := fun h1 h2 => by unfold keyOf at h2; rwa [if_pos h1] at h2
  generalize firstBad (ks.map (chk 16)) = er at hend hok hkey ⊢; refine K.kgo ?_; refine WL.load rfl rfl rfl rfl rfl rfl (hrc.cell 1 (by simp)) ?_; cases bi with
  | true =>
    refine K.kgo ?_; exact WQ.ret2 rfl rfl rfl ⟨hbb, _, [], 3, rfl, isVs_none _ _, .inr ⟨rfl, rfl, hend (.inl rfl)⟩⟩
  | false =>
    by_cases he : er = 0
    · by_cases hks : keyOf ks = s
      · have hkk : strOfNums (keysV 16 ks) = s := hkey he hks
        obtain ⟨g1, g2, g3⟩ := hok rfl he hkk; rw [hks]; refine K.kgo ?_; refine WC.as 46 (.bool false) rfl (congrArg Value.bool (by simp)) ?_; refine K.kgo ?_; exact WQ.ret2 rfl rfl rfl ⟨hbb, _, ks, 0, rfl, hvs2, .inl ⟨rfl, g1, g2, g3⟩⟩
      · refine K.kgo ?_
        refine WC.as 46 (.bool true) rfl (congrArg Value.bool (by
          rw [Bool.not_eq_true', beq_eq_false_iff_ne]; intro h
          apply hks
          apply ByteArray.ext
          apply Array.toList_inj.1
          rw [← ByteArray.toList_eq, ← ByteArray.toList_eq]; exact h)) ?_
        refine K.kgo ?_; exact WQ.ret2 rfl rfl rfl ⟨hbb, _, [], 3, rfl, isVs_none _ _, .inr ⟨rfl, rfl, hend (.inr (.inr hks))⟩⟩
    · refine K.kgo ?_
      exact WQ.ret2 rfl rfl rfl ⟨hbb, _, [], 3, rfl, isVs_none _ _, .inr ⟨rfl, rfl, hend (.inr (.inl he))⟩⟩
end K
end Go.Proofs.Ytfpakjbaiohcaaa

namespace Go.Proofs.Ytfpakjbaiohcaaa
open Go.RowKit
namespace K
structure KD (B : Nat) (w : World) (rb : Nat) (l : List Int) (bad : Bool) : Prop where
  rlt : rb < B
  ex : ∃ s : ByteArray, bytesI s = l ∧ VBlk 61 w rb [.string s, .bool bad]
theorem bytesI_bytD (s : ByteArray) : Byt (bytesI s) := fun c hc => by
  unfold bytesI at hc; obtain ⟨a, -, rfl⟩ := List.mem_map.1 hc; have := a.toNat_lt; omega
variable {B rb : Nat} {w : World} {l : List Int} {bad : Bool}
theorem KD.byt (h : KD B w rb l bad) : Byt l := by
  obtain ⟨s, rfl, -⟩ := h.ex; exact bytesI_bytD s
theorem KD.keep {w' : World} (h : KD B w rb l bad) {K : Nat → Prop} (hk : Keep K w w') (hK : ∀ b, b < B → K b) : KD B w' rb l bad := by
  obtain ⟨s, h1, h2⟩ := h.ex; exact ⟨h.rlt, s, h1, h2.keep hk (hK _ h.rlt)⟩
theorem KD.setT (h : KD B w rb l bad) : KD B (w.setCell ⟨rb, 1, none⟩ (.bool true)) rb l true := by
  obtain ⟨s, h1, h2⟩ := h.ex; exact ⟨h.rlt, s, h1, h2.set 1 (.bool true)⟩
theorem KD.setB (h : KD B w rb l bad) (b : Bool) : KD B (w.setCell ⟨rb, 1, none⟩ (.bool b)) rb l b := by
  obtain ⟨s, h1, h2⟩ := h.ex; exact ⟨h.rlt, s, h1, h2.set 1 (.bool b)⟩
theorem KD.mark {wx : World} {lx : List Int} {bx : Bool} (h : KD B wx rb lx bx) (hk : KeepR rb w wx) {T g : Nat} {cs : List Value} (hv : VBlk T wx g cs) (hg : g ≠ rb) :
    KD B (wx.setCell ⟨rb, 1, none⟩ (.bool true)) rb lx true ∧ KeepR rb w (wx.setCell ⟨rb, 1, none⟩ (.bool true)) ∧ VBlk T (wx.setCell ⟨rb, 1, none⟩ (.bool true)) g cs :=
  ⟨h.setT, hk.trans (KeepR.set _ _ _ _), hv.keep (K := fun x => x ≠ rb) ((Keep.refl _ wx).setCell (fun hk => hk rfl) _) hg⟩
theorem str_none {s : ByteArray} (h : s.size = 0) : (s.toList == (ByteArray.mk #[]).toList) = true := by
  have : s = ByteArray.mk #[] := ByteArray.ext (Array.eq_empty_of_size_eq_zero h); rw [this, beq_self_eq_true]
theorem str_some {s : ByteArray} (h : s.size ≠ 0) : (s.toList == (ByteArray.mk #[]).toList) = false := by
  rw [beq_eq_false_iff_ne]; intro e
  apply h
  have h1 : s.toList.length = s.size := by rw [ByteArray.toList_eq]; rfl
  have h2 : ((ByteArray.mk #[]).toList).length = 0 := by rw [ByteArray.toList_eq]; rfl
  rw [← h1, e, h2]
theorem done_any (h : KD B w rb l bad) :
    Calls Try.prog 44 #[.pointer (some ⟨rb, 0, none⟩)] w fun e w' => e = .returned (.int .u8 (if bad then 0 else nth l 0)) ∧ KD B w' rb (if bad then l else l.drop 1) (bad || l.isEmpty) ∧ KeepR rb w w' := by
  refine enter (args := [.pointer (some ⟨rb, 0, none⟩)]) Try.func44 rfl Try.ntmps44 rfl ?_; obtain ⟨s, hs, h1⟩ := h.ex; have hlen := bytesI_len s; rw [hs] at hlen; refine K.kgo ?_; refine WL.load rfl rfl rfl rfl rfl rfl (h1.cell 1 (by simp)) ?_; cases bad with
  | true =>
    refine K.kgo ?_; refine WL.store rfl rfl rfl rfl rfl rfl (by kernel_rfl) (h1.cell 1 (by simp)) (h1.free 1) ?_; refine K.kgo ?_; exact WQ.ret1 rfl rfl ⟨rfl, h.setT, KeepR.set _ _ _ _⟩
  | false =>
    refine K.kgo ?_; refine WL.load rfl rfl rfl rfl rfl rfl (h1.cell 0 (by simp)) ?_; cases l with
    | nil =>
      have he := str_none (s := s) (by simpa using hlen.symm); refine K.kgo ?_; refine WC.as 14 (.bool true) rfl (congrArg Value.bool he) ?_; refine K.kgo ?_; refine WL.store rfl rfl rfl rfl rfl rfl (by kernel_rfl) (h1.cell 1 (by simp)) (h1.free 1) ?_; refine K.kgo ?_; exact WQ.ret1 rfl rfl ⟨rfl, h.setT, KeepR.set _ _ _ _⟩
    | cons c r =>
      simp only [List.length_cons] at hlen; have he := str_some (s := s) (by omega); have h0 : 0 < s.size := by omega
      have hb : ((s.toList.getD 0 0).toNat : Int) = c := by
        have : nth (bytesI s) 0 = c := by rw [hs]; rfl
        rw [← this]; unfold bytesI nth; simp [List.getD_eq_getElem?_getD]
        cases s.toList[0]? <;> rfl
      refine K.kgo ?_; refine WC.as 14 (.bool false) rfl (congrArg Value.bool he) ?_; refine K.kgo ?_; refine WL.load rfl rfl rfl rfl rfl rfl (h1.cell 0 (by simp)) ?_; refine WL.byte 0 rfl rfl rfl rfl rfl rfl rfl rfl h0 ?_; rw [hb]; refine K.kgo ?_; refine WL.load rfl rfl rfl rfl rfl rfl (h1.cell 0 (by simp)) ?_; refine WL.substrFrom (z := 1) rfl rfl rfl rfl rfl rfl rfl (by omega) (by omega) ?_; refine K.kgo ?_; refine WL.store rfl rfl rfl rfl rfl rfl (by kernel_rfl) (h1.cell 0 (by simp)) (h1.free 0) ?_; refine K.kgo ?_; refine WQ.ret1 rfl rfl ⟨rfl, ⟨h.rlt, s.extract 1 s.size, ?_, ?_⟩, KeepR.set _ _ _ _⟩
      · rw [bytesI_from, hs]; rfl
      · have := h1.set 0 (.string (s.extract 1 s.size))
        simpa using this
set_option maxHeartbeats 4000000 in
theorem dtext_any (h : KD B w rb l bad) (hB : B ≤ w.heap.size) (hl : l.length ≤ 1000000) :
    Calls Try.prog 47 #[.pointer (some ⟨rb, 0, none⟩)] w fun e w' => ∃ (t : ByteArray) (r : List Int) (b' : Bool), e = .returned (.string t) ∧ KD B w' rb r b' ∧ t.size + r.length ≤ l.length ∧ KeepR rb w w' ∧
      ∀ b r2, bad = false → txR l [] = some (b, r2) → t = strOfNums b ∧ r = r2 ∧ b' = false := by
  refine enter (args := [.pointer (some ⟨rb, 0, none⟩)]) Try.func47 rfl Try.ntmps47 rfl ?_; have hrB := h.rlt; refine K.kgb ?_; refine WC.mid (fun i : List Int × Bool × List Int × Value => [(3, i.2.2.2)])
    (fun i wr => KD B wr rb i.1 i.2.1 ∧ KeepR rb w wr ∧ Bu wr i.2.2.2 i.2.2.1 ∧ i.2.2.1.length + i.1.length ≤ l.length ∧ ∀ b r2, bad = false → txR l [] = some (b, r2) → i.2.2.1 = b ∧ i.1 = r2 ∧ i.2.1 = false) rfl ?_ ?_
  · refine WC.block ?_
    refine WC.loop (fun i : List Int × Bool × List Int × Value => [(0, .pointer (some ⟨rb, 0, none⟩)), (3, i.2.2.2)])
      (fun i wr => KD B wr rb i.1 i.2.1 ∧ KeepR rb w wr ∧ Bu wr i.2.2.2 i.2.2.1 ∧ (∀ g, i.2.2.2.ownBlock = some g → w.heap.size ≤ g) ∧ i.2.2.1.length + i.1.length ≤ l.length ∧ (if i.2.1 then none else txR i.1 i.2.2.1) = (if bad then none else txR l [])) (fun i => 2 * i.1.length + (if i.2.1 then 0 else 1)) (l, bad, [], .slice none 0 0) ⟨rfl, rfl, trivial⟩
      ⟨h, KeepR.refl _ _, Bu.nil w, (fun g hg => by cases hg), by simp, rfl⟩ ?_
    rintro ⟨li, bi, b, v⟩ wr ⟨hr, hk, hbu, hown, hlen, htx⟩; simp only at hr hk hbu hown hlen htx ⊢; obtain ⟨s0, -, hc0⟩ := hr.ex; have hzr := hk.size; have c1 : wr.cell? ⟨rb, 1, none⟩ = some (.bool bi) := hc0.cell 1 (by simp); have fin : ∀ {o : Option (List Int × List Int)} {bx : List Int} {lx : List Int} {ex : Bool}, o = (if bad then none else txR l []) → (∀ x, o = some x → bx = x.1 ∧ lx = x.2 ∧ ex = false) → ∀ b r2, bad = false → txR l [] = some (b, r2) → bx = b ∧ lx = r2 ∧ ex = false := fun {o bx lx ex} h1 h2 b r2 h3 h4 => by
      rw [h3, h4] at h1; exact h2 _ h1
    cases bi with
    | true =>
      rw [if_pos rfl] at htx; refine K.kgl ?_; exact WQ.meet (li, true, b, v) ⟨rfl, trivial⟩ ⟨hr, hk, hbu, hlen, fin htx fun x hx => by cases hx⟩
    | false =>
      rw [if_neg (by simp)] at htx; have grown : ∀ {wx w2 : World} {v2 : Value} {lx : List Int} {bx : Bool}, KD B wx rb lx bx → KeepR rb w wx → Grow wx v w2 v2 → KD B w2 rb lx bx ∧ KeepR rb w w2 ∧ ∀ g, v2.ownBlock = some g → w.heap.size ≤ g := fun {wx w2 v2 lx bx} h1 h2 h3 =>
        ⟨h1.keep h3.1 fun b hb => ⟨by have := h2.size; omega, fun e => by have := hown b e; omega⟩, Keep.trans h2 (h3.1.mono fun b hb => ⟨by have := hb.1; have := h2.size; omega, fun e => by have := hown b e; have := hb.1; omega⟩), fun g hg => (h3.2 g hg).elim (hown g) fun h4 => by have := h2.size; omega⟩
      refine K.kgl ?_; refine WL.call rfl rfl rfl rfl rfl Try.func44 rfl (by kernel_rfl) (done_any hr) ?_; rintro _ w2 ⟨rfl, h2, k2⟩; refine ⟨_, rfl, ?_⟩; have hbu2 := hbu.keep k2 (fun g hg => ⟨hbu.lt _ hg, by have := hown g hg; omega⟩); have k02 := hk.trans k2; replace h2 : KD B w2 rb (li.drop 1) li.isEmpty := h2; rw [show (if false = true then (0 : Int) else nth li 0) = nth li 0 from rfl]; cases li with
      | nil =>
        replace h2 : KD B w2 rb [] true := h2; rw [show nth ([] : List Int) 0 = 0 from rfl]; refine K.kgo ?_; refine WL.call rfl rfl rfl rfl rfl Try.func44 rfl (by kernel_rfl) (done_any h2) ?_; rintro _ w3 ⟨rfl, h3, k3⟩; refine ⟨_, rfl, ?_⟩; have hbu3 := hbu2.keep k3 (fun g hg => ⟨hbu2.lt _ hg, by have := hown g hg; omega⟩); replace h3 : KD B w3 rb [] true := h3; rw [show (if true = true then (0 : Int) else nth ([] : List Int) 0) = 0 from rfl]; refine K.kgo ?_; exact WQ.meet ([], true, b, v) ⟨rfl, trivial⟩ ⟨h3, k02.trans k3, hbu3, hlen, fin htx fun x hx => by cases hx⟩
      | cons c rest =>
        rw [show nth (c :: rest) 0 = c from rfl]; replace h2 : KD B w2 rb rest false := h2; simp only [List.length_cons] at hlen
        by_cases hc : c = 0
        · subst hc
          refine K.kgo ?_; refine WL.call rfl rfl rfl rfl rfl Try.func44 rfl (by kernel_rfl) (done_any h2) ?_; rintro _ w3 ⟨rfl, h3, k3⟩; refine ⟨_, rfl, ?_⟩; have hbu3 := hbu2.keep k3 (fun g hg => ⟨hbu2.lt _ hg, by have := hown g hg; omega⟩); have k03 := k02.trans k3; replace h3 : KD B w3 rb (rest.drop 1) rest.isEmpty := h3; rw [show (if false = true then (0 : Int) else nth rest 0) = nth rest 0 from rfl]; cases rest with
          | nil =>
            rw [show nth ([] : List Int) 0 = 0 from rfl]; refine K.kgo ?_; exact WQ.meet ([], true, b, v) ⟨rfl, trivial⟩ ⟨h3, k03, hbu3, by simp at hlen ⊢; omega, fin htx fun x hx => by cases hx⟩
          | cons c2 r =>
            rw [show nth (c2 :: r) 0 = c2 from rfl]; replace h3 : KD B w3 rb r false := h3; simp only [List.length_cons] at hlen; have hun : txR (0 :: c2 :: r) b = if c2 = 0 then some (b, r) else if c2 = 255 then txR r (b ++ [0]) else none := by
              conv => lhs; unfold txR
              rw [if_neg (by simp)]
            rw [hun] at htx
            by_cases z0 : c2 = 0
            · rw [if_pos z0] at htx
              refine K.kgo ?_; exact WQ.meet (r, false, b, v) ⟨rfl, trivial⟩ ⟨h3, k03, hbu3, by show b.length + r.length ≤ _; omega, fin htx fun x hx => by cases hx; exact ⟨rfl, rfl, rfl⟩⟩
            · rw [if_neg z0] at htx
              by_cases z1 : c2 = 255
              · rw [if_pos z1] at htx
                refine K.kgo ?_; refine WL.push rfl rfl rfl rfl rfl rfl rfl rfl rfl rfl rfl (fun _ => rfl) rfl hbu3 (by simp; omega) fun v3 w4 hb3 hg3 => ?_; obtain ⟨h4, k4, o4⟩ := grown h3 k03 hg3; refine K.kgo ?_; exact WQ.again (r, false, b ++ [0], v3) ⟨rfl, rfl, trivial⟩ ⟨h4, k4, hb3, o4, by simp; omega, htx⟩ (by show 2 * r.length + 1 < 2 * (r.length + 1 + 1) + 1; omega)
              · rw [if_neg z1] at htx
                obtain ⟨s3, -, hc3⟩ := h3.ex; refine K.kgo ?_; refine WL.store rfl rfl rfl rfl rfl rfl (by kernel_rfl) (hc3.cell 1 (by simp)) (hc3.free 1) ?_; have h4 := h3.setT; have k4 := k03.trans (KeepR.set rb 1 w3 (.bool true)); have hbu4 := hbu3.keep (K := fun x => x ≠ rb) ((Keep.refl _ w3).setCell (p := ⟨rb, 1, none⟩) (fun hk => hk rfl) (.bool true)) (fun g hg => by have := hown g hg; show g ≠ rb; omega); generalize w3.setCell ⟨rb, 1, none⟩ (.bool true) = w4 at h4 k4 hbu4 ⊢; refine K.kgo ?_; refine WL.push rfl rfl rfl rfl rfl rfl rfl rfl rfl rfl rfl (fun _ => rfl) rfl hbu4 (by simp; omega) fun v3 w5 hb3 hg3 => ?_; obtain ⟨h5, k5, o5⟩ := grown h4 k4 hg3; refine K.kgo ?_; exact WQ.again (r, true, b ++ [0], v3) ⟨rfl, rfl, trivial⟩ ⟨h5, k5, hb3, o5, by simp; omega, htx⟩ (by show 2 * r.length + 0 < 2 * (r.length + 1 + 1) + 1; omega)
        · refine K.kgo ?_
          refine WL.push rfl rfl rfl rfl rfl rfl rfl rfl rfl rfl rfl (fun _ => rfl) rfl hbu2 (by simp; omega) fun v3 w3 hb3 hg3 => ?_; obtain ⟨h3, k3, o3⟩ := grown h2 k02 hg3; refine K.kgo ?_; refine WQ.again (rest, false, b ++ [c], v3) ⟨rfl, rfl, trivial⟩ ⟨h3, k3, hb3, o3, by simp; omega, ?_⟩ (by show 2 * rest.length + 1 < 2 * (rest.length + 1) + 1; omega); rw [← htx]; cases rest with
          | nil => rfl
          | cons c2 r =>
            conv => rhs; unfold txR
            rw [if_pos hc]
            rfl
  rintro ⟨li, bi, b, v⟩ wr ⟨hr, hk, hbu, hlen, htx⟩; simp only at hr hk hbu hlen htx ⊢; refine K.kgo ?_; refine WL.strOf rfl rfl rfl rfl rfl rfl rfl rfl hbu.sl ?_; refine K.kgo ?_; refine WQ.ret1 rfl rfl ⟨strOfNums b, li, bi, rfl, hr, ?_, hk, fun b2 r2 h1 h2 => ?_⟩
  · show (b.map _).toArray.size + _ ≤ _
    simpa using hlen
  · obtain ⟨rfl, rfl, rfl⟩ := htx b2 r2 h1 h2
    exact ⟨rfl, rfl, rfl⟩
end K
end Go.Proofs.Ytfpakjbaiohcaaa

namespace Go.Proofs.Ytfpakjbaiohcaaa
open Go.RowKit
namespace K
theorem ones3 (a b : Nat) (c : Bool) : Ones [.int .u64 (a : Int), .int .u64 (b : Int), .bool c] := fun v hv => by
  simp at hv
  rcases hv with rfl | rfl | rfl <;> rfl
theorem onesV (k n s : Int) : Ones [.int .i64 k, .int .i64 n, .int .i64 s, .string ByteArray.empty, .slice none 0 0, .slice none 0 0] := fun v hv => by
  simp at hv
  rcases hv with rfl | rfl | rfl | rfl | rfl | rfl <;> rfl
theorem dten_any (lo : Nat) (b : Bool) (hlo : lo < 18446744073709551616) (w : World) :
    Calls Try.prog 66 #[.agg #[.int .u64 (0 : Nat), .int .u64 lo, .bool b]] w fun e w' => e = .returned (.tuple #[.agg #[.int .u64 (0 : Nat), .int .u64 (lo / 10 : Nat), .bool b], .int .u64 (lo % 10 : Nat)]) ∧ Below w.heap.size w w' := by
  refine enter (args := [.agg #[.int .u64 (0 : Nat), .int .u64 lo, .bool b]]) Try.func66 rfl Try.ntmps66 rfl ?_; refine K.kgo ?_; refine WL.box rfl rfl rfl rfl rfl fun g w1 hf => ?_; have hf1 : Fresh w g w1 100 [.int .u64 (0 : Nat), .int .u64 lo, .bool b] := hf; clear hf; refine K.kgo ?_; refine WL.alloc (z := .agg #[.int .u64 0, .int .u64 0, .bool false]) rfl rfl rfl rfl (fun _ => by kernel_rfl) fun g2 w2 hf => ?_; have hf2 : Fresh w1 g2 w2 100 [.int .u64 0, .int .u64 0, .bool false] := hf; clear hf; have hge := hf1.eq; have hge2 := hf2.eq; have hz1 := hf1.size; have hz2 := hf2.size; have hb2 : Below w.heap.size w w2 := hf1.below.trans (hf2.below.mono (by omega)); have hg := hf1.blk.below hf2.below hf1.blk.lt; have hg2 := hf2.blk; clear hf1 hf2; refine K.kgo ?_; refine WC.drawn 7 (fun wx => VBlk 100 wx g [.int .u64 (0 : Nat), .int .u64 lo, .bool b]) fun w3 hd => ?_; have hg3 := hg.below (hd.below _) hg.lt; have hg23 := hg2.below (hd.below _) hg2.lt; have hb3 : Below w.heap.size w w3 := hb2.trans ((hd.below w2.heap.size).mono hb2.size); have hS := hg3; refine K.fr [0] hS ?_; refine K.wl 1 [2, 6, 7] rfl rfl rfl rfl rfl rfl rfl (fun wx hx => hx.cell 0 (by simp)) hS ?_; refine K.fr [2, 3] hS ?_; refine K.wl 4 [5, 7] rfl rfl rfl rfl rfl rfl rfl (fun wx hx => hx.cell 0 (by simp)) hS ?_; refine K.fr [5, 6] hS ?_; refine K.wo 7 ?_; refine WL.pure rfl rfl rfl rfl ?_; refine K.dl ?_; refine WD.done (by kernel_rfl) ?_; refine K.kgo ?_; refine WL.load rfl rfl rfl rfl rfl rfl (hg3.cell 1 (by simp)) ?_; refine WL.call rfl rfl rfl rfl rfl Try.func65 rfl (by kernel_rfl) (div10_any lo hlo w3) ?_; rintro _ w4 ⟨rfl, hb4⟩; refine ⟨_, rfl, ?_⟩; have hg4 := hg3.below hb4 hg3.lt; have hg24 := hg23.below hb4 hg23.lt; have hb5 : Below w.heap.size w w4 := hb3.trans (hb4.mono hb3.size); refine K.kgo ?_; refine WL.load rfl rfl rfl rfl rfl rfl (hg4.cell 2 (by simp)) ?_; refine K.kgo ?_; refine WL.as 20 (.int .u64 (0 : Nat)) rfl rfl ?_; refine WL.build [.int .u64 (0 : Nat), .int .u64 (lo / 10 : Nat), .bool b] rfl rfl rfl rfl rfl (by kernel_rfl) ?_; refine K.kgo ?_; refine WL.storeRow rfl rfl rfl rfl rfl rfl hg24 rfl rfl (ones3 _ _ _) ?_; refine K.kgo ?_; exact WQ.retCT rfl rfl rfl rfl rfl (hg24.setRow _) ⟨rfl, below_setRow hb5 (by omega) _⟩
theorem dof_any (x : Int) (hx : -9223372036854775808 ≤ x ∧ x ≤ 9223372036854775807) (w : World) :
    Calls Try.prog 63 #[.int .i64 x] w fun e w' => e = .returned (.agg #[.int .u64 (0 : Nat), .int .u64 (x.natAbs : Nat), .bool (decide (x < 0))]) ∧ Below w.heap.size w w' := by
  refine enter (args := [.int .i64 x]) Try.func63 rfl Try.ntmps63 rfl ?_; refine K.kgo ?_; refine WL.alloc (z := .agg #[.int .u64 0, .int .u64 0, .bool false]) rfl rfl rfl rfl (fun _ => by kernel_rfl) fun g w1 hf => ?_; have hf1 : Fresh w g w1 100 [.int .u64 0, .int .u64 0, .bool false] := hf; clear hf; refine K.kgo ?_; refine WL.call rfl rfl rfl rfl rfl Try.func37 rfl (by kernel_rfl) (abs_any x w1 hx.1 hx.2) ?_; rintro _ _ ⟨rfl, rfl⟩; refine ⟨_, rfl, ?_⟩; obtain ⟨u, hue⟩ : ∃ u, x.natAbs = u := ⟨_, rfl⟩; rw [hue]; refine K.kgo ?_; refine WL.build [.int .u64 (0 : Nat), .int .u64 (u : Nat), .bool (decide (x < 0))] rfl rfl rfl rfl rfl (by kernel_rfl) ?_; refine WL.storeRow rfl rfl rfl rfl rfl rfl hf1.blk rfl rfl (ones3 _ _ _) ?_; refine K.kgo ?_; exact WQ.retC rfl rfl rfl rfl (hf1.blk.setRow _) ⟨rfl, below_setRow hf1.below (by rw [hf1.eq]; exact Nat.le_refl _) _⟩
set_option maxHeartbeats 4000000 in
theorem dleast_any (x : Int) (hx : -9223372036854775808 ≤ x ∧ x ≤ 9223372036854775807) (sc : Nat) (hsc : sc ≤ 1000000) (w : World) :
    Calls Try.prog 62 #[.agg #[.int .u64 (0 : Nat), .int .u64 (x.natAbs : Nat), .bool (decide (x < 0))], .int .i64 sc] w (MkOut x sc w) := by
  refine enter (args := [.agg #[.int .u64 (0 : Nat), .int .u64 (x.natAbs : Nat), .bool (decide (x < 0))], .int .i64 sc]) Try.func62 rfl Try.ntmps62 rfl ?_; obtain ⟨u, hue⟩ : ∃ u, x.natAbs = u := ⟨_, rfl⟩; obtain ⟨b, hbe⟩ : ∃ b, decide (x < 0) = b := ⟨_, rfl⟩; have hu : u ≤ 9223372036854775808 := by omega
  have hten : ¬ x.tmod 10 = 0 ↔ ¬ u % 10 = 0 := by
    have : (x.tmod 10).natAbs = x.natAbs % 10 := Int.natAbs_tmod x 10; omega
  rw [hue, hbe]; refine K.kgo ?_; refine WL.box rfl rfl rfl rfl rfl fun g w1 hf => ?_; have hf1 : Fresh w g w1 100 [.int .u64 (0 : Nat), .int .u64 (u : Nat), .bool b] := hf; clear hf; refine K.kgo ?_; refine WL.alloc (z := .agg zCells.toArray) rfl rfl rfl rfl (fun _ => by kernel_rfl) fun vb w2 hf => ?_; have hf2 : Fresh w1 vb w2 37 zCells := hf; clear hf; have hz1 := hf1.size; have hz2 := hf2.size; have hge := hf1.eq; have hve := hf2.eq; have hb2 : Below w.heap.size w w2 := hf1.below.trans (hf2.below.mono (by omega)); have hblk := hf1.blk.below hf2.below hf1.blk.lt; have hvblk := hf2.blk; clear hf1 hf2; refine K.kgo ?_; refine WL.load rfl rfl rfl rfl rfl rfl (hblk.cell 0 (by simp)) ?_; refine K.kgo ?_; refine WL.load rfl rfl rfl rfl rfl rfl (hblk.cell 1 (by simp)) ?_; refine K.kgo ?_; refine WC.mid (fun s : Nat => [(1, .int .i64 (s : Int)), (2, .pointer (some ⟨g, 0, none⟩)), (4, .pointer (some ⟨vb, 0, none⟩)), (5, .int .i64 0)]) (fun s w' => s = (if u = 0 then 0 else sc) ∧ w2 = w') rfl ?_ ?_
  · by_cases hu0 : u = 0
    · subst hu0
      refine K.kgo ?_; exact WQ.meet 0 ⟨rfl, rfl, rfl, rfl, trivial⟩ ⟨rfl, rfl⟩
    · refine WC.condF rfl (by omega) ?_
      refine K.kgo ?_; exact WQ.meet sc ⟨rfl, rfl, rfl, rfl, trivial⟩ ⟨by rw [if_neg hu0], rfl⟩
  rintro sc1 _ ⟨hs1, rfl⟩; have hsc1 : sc1 ≤ sc ∧ (u = 0 → sc1 = 0) ∧ (¬ u = 0 → sc1 = sc) := by
    rw [hs1]
    split
    · omega
    · omega
  refine K.kgb ?_; refine WC.mid (fun i : Nat × Nat => [(1, .int .i64 (i.2 : Int)), (2, .pointer (some ⟨g, 0, none⟩)), (4, .pointer (some ⟨vb, 0, none⟩)), (5, .int .i64 0)])
    (fun i w' => (i.1 ≤ u ∧ i.2 ≤ sc ∧ (sc = 0 ∨ (1 ≤ sc ∧ ¬ u % 10 = 0) → i.1 = u ∧ i.2 = sc)) ∧ VBlk 100 w' g [.int .u64 (0 : Nat), .int .u64 (i.1 : Nat), .bool b] ∧ VBlk 37 w' vb zCells ∧ Below w.heap.size w w') rfl ?_ ?_
  · refine WC.block ?_
    refine WC.loop (fun i : Nat × Nat => [(1, .int .i64 (i.2 : Int)), (2, .pointer (some ⟨g, 0, none⟩)), (4, .pointer (some ⟨vb, 0, none⟩)), (5, .int .i64 0)])
      (fun i w' => (i.1 ≤ u ∧ i.2 ≤ sc ∧ (sc = 0 ∨ (1 ≤ sc ∧ ¬ u % 10 = 0) → i.1 = u ∧ i.2 = sc)) ∧ VBlk 100 w' g [.int .u64 (0 : Nat), .int .u64 (i.1 : Nat), .bool b] ∧ VBlk 37 w' vb zCells ∧ Below w.heap.size w w')
      (fun i => i.2) (u, sc1) ⟨rfl, rfl, rfl, rfl, trivial⟩ ⟨⟨Nat.le_refl _, hsc1.1, fun h => ⟨rfl, by show sc1 = sc; omega⟩⟩, hblk, hvblk, hb2⟩ ?_
    rintro ⟨c, s⟩ wr ⟨⟨hcu, hss, hex⟩, hg, hv, hb⟩; simp only at hcu hss hex hg hv hb ⊢
    by_cases hs0 : s = 0
    · subst hs0
      refine K.kgo ?_; exact WQ.meet (c, 0) ⟨rfl, rfl, rfl, rfl, trivial⟩ ⟨⟨hcu, hss, hex⟩, hg, hv, hb⟩
    · refine K.kgo ?_
      refine WL.loadMid (m := 3) rfl rfl rfl rfl rfl rfl (VBlk.rangeAt hg) rfl ?_; refine WL.call rfl rfl rfl rfl rfl Try.func66 rfl (by kernel_rfl) (dten_any c b (by omega) wr) ?_; rintro _ w4 ⟨rfl, hb4⟩; refine ⟨_, rfl, ?_⟩; have hg4 := hg.below hb4 hg.lt; have hv4 := hv.below hb4 hv.lt; have hb5 : Below w.heap.size w w4 := hb.trans (hb4.mono hb.size); have hwz := hb5.size; refine K.kgo ?_; refine WL.alloc (z := .agg #[.int .u64 0, .int .u64 0, .bool false]) rfl rfl rfl rfl (fun _ => by kernel_rfl) fun g2 w5 hf => ?_; have hf5 : Fresh w4 g2 w5 100 [.int .u64 0, .int .u64 0, .bool false] := hf; clear hf; refine WL.storeRow (cs := [.int .u64 (0 : Nat), .int .u64 (c / 10 : Nat), .bool b]) rfl rfl rfl rfl rfl rfl hf5.blk rfl rfl (ones3 _ _ _) ?_; have hb6 : Below w4.heap.size w4 (w5.setRow g2 [.int .u64 (0 : Nat), .int .u64 (c / 10 : Nat), .bool b].toArray) := below_setRow hf5.below (by rw [hf5.eq]; exact Nat.le_refl _) _; have hg26 := hf5.blk.setRow [.int .u64 (0 : Nat), .int .u64 (c / 10 : Nat), .bool b]; clear hf5; generalize w5.setRow g2 [.int .u64 (0 : Nat), .int .u64 (c / 10 : Nat), .bool b].toArray = w6 at hb6 hg26 ⊢; have hg6 := hg4.below hb6 hg4.lt; have hv6 := hv4.below hb6 hv4.lt; have hb7 : Below w.heap.size w w6 := hb5.trans (hb6.mono hb5.size)
      by_cases hr : c % 10 = 0
      · have hvac : ¬ (sc = 0 ∨ (1 ≤ sc ∧ ¬ u % 10 = 0)) := fun h => by have := hex h; omega
        rw [hr]; refine K.kgo ?_; refine WL.loadMid (m := 3) rfl rfl rfl rfl rfl rfl (VBlk.rangeAt hg26) rfl ?_; refine WL.storeRow rfl rfl rfl rfl rfl rfl hg6 rfl rfl (ones3 _ _ _) ?_; have hg8 := hg6.setRow [.int .u64 (0 : Nat), .int .u64 (c / 10 : Nat), .bool b]; have hK : Keep (fun x => x ≠ g) w6 (w6.setRow g [.int .u64 (0 : Nat), .int .u64 (c / 10 : Nat), .bool b].toArray) := Keep.setRow (Keep.refl _ w6) (fun hk => hk rfl) _; have hv8 := hv6.keep hK (by show vb ≠ g; omega); have hb8 := below_setRow hb7 (by omega) (cs := [.int .u64 (0 : Nat), .int .u64 (c / 10 : Nat), .bool b].toArray) (g := g); refine K.kgo ?_; exact WQ.again (c / 10, s - 1) ⟨congrArg (fun z => some (Value.int .i64 z)) (show (s : Int) - 1 = ((s - 1 : Nat) : Int) by omega), rfl, rfl, rfl, trivial⟩ ⟨⟨by show c / 10 ≤ u; omega, by show s - 1 ≤ sc; omega, fun h => (hvac h).elim⟩, hg8, hv8, hb8⟩ (by show s - 1 < s; omega)
      · refine K.kgo ?_
        exact WQ.meet (c, s) ⟨rfl, rfl, rfl, rfl, trivial⟩ ⟨⟨hcu, hss, hex⟩, hg6, hv6, hb7⟩
  clear hblk hvblk hb2 hs1; rintro ⟨c, s⟩ wr ⟨⟨hcu, hss, hex⟩, hg, hv, hb⟩; simp only at hcu hss hex hg hv hb ⊢; have hgne : vb ≠ g := by omega
  have fin : ∀ (k n s2 er : Int), (0 ≤ k ∧ k ≤ 255) → (-9223372036854775808 ≤ n ∧ n ≤ 9223372036854775807) → (0 ≤ s2 ∧ s2 ≤ 255) → (((sc : Nat) : Int) = 0 ∨ (1 ≤ ((sc : Nat) : Int) ∧ ((sc : Nat) : Int) ≤ 18 ∧ ¬ x.tmod 10 = 0) → er = 0 ∧ k = (if ((sc : Nat) : Int) = 0 then 3 else 4) ∧ n = x ∧ s2 = sc) →
      MkOut x sc w (.returned (.tuple #[.agg [.int .i64 k, .int .i64 n, .int .i64 s2, .string ByteArray.empty, .slice none 0 0, .slice none 0 0].toArray, .int .i64 er])) (wr.setRow vb [.int .i64 k, .int .i64 n, .int .i64 s2, .string ByteArray.empty, .slice none 0 0, .slice none 0 0].toArray) :=
    fun k n s2 er h1 h2 h3 h4 => ⟨k, n, s2, er, rfl, h1, h2, h3, below_setRow hb (by omega) _, h4⟩
  have hxb : (b = true → x = -(u : Int)) ∧ (b = false → x = (u : Int)) := by
    rw [← hbe, ← hue]
    constructor
    · intro h; have := of_decide_eq_true h; omega
    · intro h; have := of_decide_eq_false h; omega
  obtain ⟨n, hn⟩ : ∃ n : Int, n = if b then -(c : Int) else (c : Int) := ⟨_, rfl⟩
  have hn1 : (b = true → n = -(c : Int)) ∧ (b = false → n = (c : Int)) := by rw [hn]; cases b <;> simp
  have hnr : -9223372036854775808 ≤ n ∧ n ≤ 9223372036854775807 := by
    cases hb3 : b with
    | true => have := hn1.1 hb3; omega
    | false => have := hn1.2 hb3; have := hxb.2 hb3; omega
  have hxn : c = u → n = x := fun h => by
    cases hb3 : b with
    | true => have := hn1.1 hb3; have := hxb.1 hb3; omega
    | false => have := hn1.2 hb3; have := hxb.2 hb3; omega
  have htop : c = 9223372036854775808 → b = true := fun h => by
    cases hb3 : b with
    | true => rfl
    | false => have := hxb.2 hb3; omega
  have hl0 : wr.cell? ⟨g, 0, none⟩ = some (.int .u64 (0 : Nat)) := hg.cell 0 (by simp); have hl1 : wr.cell? ⟨g, 1, none⟩ = some (.int .u64 (c : Nat)) := hg.cell 1 (by simp); have hl2 : wr.cell? ⟨g, 2, none⟩ = some (.bool b) := hg.cell 2 (by simp)
  by_cases h18 : 18 < s
  · refine K.kgl ?_
    refine WL.build [.int .i64 0, .int .i64 0, .int .i64 0, .string ByteArray.empty, .slice none 0 0, .slice none 0 0] rfl rfl rfl rfl rfl (by kernel_rfl) ?_; refine WL.storeRow rfl rfl rfl rfl rfl rfl hv rfl rfl (onesV _ _ _) ?_; refine K.kgo ?_; exact WQ.retCT rfl rfl rfl rfl rfl (hv.setRow _) (fin 0 0 0 10 (by omega) (by omega) (by omega) fun h => by
      have := hex (by omega); omega)
  · refine K.kgn ?_
    refine WL.pure rfl rfl rfl rfl ?_; refine K.kgn ?_; refine WL.mid (fun _ : Unit => [(1, .int .i64 (s : Int)), (2, .pointer (some ⟨g, 0, none⟩)), (4, .pointer (some ⟨vb, 0, none⟩)), (5, .int .i64 0), (53, .bool false)]) (fun _ w' => wr = w') rfl ?_ ?_
    · by_cases hc : c = 9223372036854775808
      · have hbt := htop hc
        subst hbt; refine K.kgl ?_; exact WQ.meet () ⟨rfl, rfl, rfl, rfl, rfl, trivial⟩ rfl
      · refine K.kgl ?_
        exact WQ.meet () ⟨rfl, rfl, rfl, rfl, rfl, trivial⟩ rfl
    rintro _ _ rfl; have w2 : b = false → IntKind.i64.wrap (c : Int) = n := fun h => by rw [hn1.2 h, IntKind.wrap_i64]; have := hxb.2 h; omega
    have w0 : c = 0 → n = 0 := fun h => by
      cases hb3 : b with
      | true => have := hn1.1 hb3; omega
      | false => have := hn1.2 hb3; omega
    have w1 : b = true → ¬ c = 0 → IntKind.u64.wrap ((c : Int) - 1) = (c : Int) - 1 ∧ IntKind.i64.wrap ((c : Int) - 1) = (c : Int) - 1 := fun h h0 => by rw [IntKind.wrap_u64, IntKind.wrap_i64]; omega
    refine K.kgl ?_; refine WC.mid (fun n1 : Int => [(1, .int .i64 (s : Int)), (2, .pointer (some ⟨g, 0, none⟩)), (4, .pointer (some ⟨vb, 0, none⟩)), (5, .int .i64 0), (9, .int .i64 n1)]) (fun n1 w' => (¬ c = 0 → n1 = n) ∧ wr = w') rfl ?_ ?_
    · cases b with
      | true =>
        by_cases hc0 : c = 0
        · subst hc0
          refine K.kgl ?_; exact WQ.meet _ ⟨rfl, rfl, rfl, rfl, rfl, trivial⟩ ⟨fun h => (h rfl).elim, rfl⟩
        · obtain ⟨e1, e2⟩ := w1 rfl hc0
          have e3 := hn1.1 rfl; refine K.kgl ?_; exact WQ.meet n ⟨rfl, rfl, rfl, rfl, congrArg (fun z => some (Value.int .i64 z)) (by omega), trivial⟩ ⟨fun _ => rfl, rfl⟩
      | false =>
        refine K.kgl ?_; exact WQ.meet n ⟨rfl, rfl, rfl, rfl, congrArg (fun z => some (Value.int .i64 z)) (w2 rfl), trivial⟩ ⟨fun _ => rfl, rfl⟩
    rintro n1 _ ⟨hn2, rfl⟩; refine K.kgl ?_; refine WC.mid (fun _ : Unit => [(1, .int .i64 (s : Int)), (2, .pointer (some ⟨g, 0, none⟩)), (4, .pointer (some ⟨vb, 0, none⟩)), (5, .int .i64 0), (9, .int .i64 n)]) (fun _ w' => wr = w') rfl ?_ ?_
    · by_cases hc0 : c = 0
      · refine WC.condT rfl (by omega) ?_
        refine K.kgl ?_; exact WQ.meet () ⟨rfl, rfl, rfl, rfl, congrArg (fun z => some (Value.int .i64 z)) (w0 hc0).symm, trivial⟩ rfl
      · refine WC.condF rfl (by omega) ?_
        refine K.kgl ?_; exact WQ.meet () ⟨rfl, rfl, rfl, rfl, congrArg (fun z => some (Value.int .i64 z)) (hn2 hc0), trivial⟩ rfl
    rintro _ _ rfl; clear hn hn1 w1 w2 htop hxb
    by_cases hs0 : s = 0
    · subst hs0
      refine K.kgo ?_; refine WL.build [.int .i64 3, .int .i64 n, .int .i64 0, .string ByteArray.empty, .slice none 0 0, .slice none 0 0] rfl rfl rfl rfl rfl (by kernel_rfl) ?_; refine WL.storeRow rfl rfl rfl rfl rfl rfl hv rfl rfl (onesV _ _ _) ?_; refine K.kgo ?_; exact WQ.retCT rfl rfl rfl rfl rfl (hv.setRow _) (fin 3 n 0 0 (by omega) hnr (by omega) fun h => by
        have := hex (by omega); exact ⟨rfl, by rw [if_pos (by omega)], hxn (by omega), by omega⟩)
    · refine K.kgo ?_
      refine WL.build [.int .i64 4, .int .i64 n, .int .i64 (s : Int), .string ByteArray.empty, .slice none 0 0, .slice none 0 0] rfl rfl rfl rfl rfl (by kernel_rfl) ?_; refine WL.storeRow rfl rfl rfl rfl rfl rfl hv rfl rfl (onesV _ _ _) ?_; refine K.kgo ?_; exact WQ.retCT rfl rfl rfl rfl rfl (hv.setRow _) (fin 4 n s 0 (by omega) hnr (by omega) fun h => by
        have := hex (by omega); exact ⟨rfl, by rw [if_neg (by omega)], hxn (by omega), by omega⟩)
theorem dmake_any (x sc : Int) (hx : -9223372036854775808 ≤ x ∧ x ≤ 9223372036854775807) (hsc : -1000000 ≤ sc ∧ sc ≤ 1000000) (w : World) :
    Calls Try.prog 55 #[.int .i64 x, .int .i64 sc] w (MkOut x sc w) := by
  refine enter (args := [.int .i64 x, .int .i64 sc]) Try.func55 rfl Try.ntmps55 rfl ?_; refine K.kgo ?_; refine WL.alloc (z := .agg zCells.toArray) rfl rfl rfl rfl (fun _ => by kernel_rfl) fun vb w1 hf => ?_; have hf1 : Fresh w vb w1 37 zCells := hf; clear hf; have hve := hf1.eq; have hz1 := hf1.size
  by_cases h0 : sc < 0
  · refine K.kgo ?_
    refine WL.build [.int .i64 0, .int .i64 0, .int .i64 0, .string ByteArray.empty, .slice none 0 0, .slice none 0 0] rfl rfl rfl rfl rfl (by kernel_rfl) ?_; refine WL.storeRow rfl rfl rfl rfl rfl rfl hf1.blk rfl rfl (onesV _ _ _) ?_; refine K.kgo ?_; exact WQ.retCT rfl rfl rfl rfl rfl (hf1.blk.setRow _) ⟨0, 0, 0, 10, rfl, by omega, by omega, by omega, below_setRow hf1.below (by omega) _, fun h => by omega⟩
  · obtain ⟨s, rfl⟩ : ∃ s : Nat, sc = s := ⟨sc.toNat, by omega⟩
    refine K.kgo ?_; refine WL.call rfl rfl rfl rfl rfl Try.func63 rfl (by kernel_rfl) (dof_any x hx w1) ?_; rintro _ w2 ⟨rfl, hb2⟩; refine ⟨_, rfl, ?_⟩; refine K.kgo ?_; refine WL.call rfl rfl rfl rfl rfl Try.func62 rfl (by kernel_rfl) (dleast_any x hx s (by omega) w2) ?_; rintro _ w3 ⟨k, n, s2, er, rfl, h1, h2, h3, hb3, h4⟩; refine ⟨_, rfl, ?_⟩; have hb23 : Below w1.heap.size w1 w3 := hb2.trans (hb3.mono hb2.size); have hblk := hf1.blk.below hb23 hf1.blk.lt; refine K.kgo ?_; refine WL.storeRow (cs := [.int .i64 k, .int .i64 n, .int .i64 s2, .string ByteArray.empty, .slice none 0 0, .slice none 0 0]) rfl rfl rfl rfl rfl rfl hblk rfl rfl (onesV _ _ _) ?_; refine K.kgo ?_; exact WQ.retCT rfl rfl rfl rfl rfl (hblk.setRow _) ⟨k, n, s2, er, rfl, h1, h2, h3, below_setRow (hf1.below.trans (hb23.mono (by omega))) (by omega) _, h4⟩
end K
end Go.Proofs.Ytfpakjbaiohcaaa

namespace Go.Proofs.Ytfpakjbaiohcaaa
open Go.RowKit
namespace K
theorem fl_top {c : Int} (h : 0 ≤ c ∧ c ≤ 255) : bits .xor .u8 (if IntKind.u8.signed = true then -1 else IntKind.u8.max) c = 255 - c := flip_u8 c h.1 h.2
def DumPost (B rb : Nat) (w : World) (l : List Int) (bad : Bool) (e : Ending) (w' : World) : Prop :=
  ∃ (k n s : Int) (l' : List Int) (bad' : Bool), e = .returned (.agg #[.int .i64 k, .int .i64 n, .int .i64 s, .string ByteArray.empty, .slice none 0 0, .slice none 0 0]) ∧ (0 ≤ k ∧ k ≤ 255) ∧ (-9223372036854775808 ≤ n ∧ n ≤ 9223372036854775807) ∧ (0 ≤ s ∧ s ≤ 255) ∧
    KD B w' rb l' bad' ∧ KeepR rb w w' ∧ NumOut l bad k n s l' bad'
variable {B rb : Nat} {w : World} {l : List Int} {bad : Bool}
theorem num_first {l r : List Int} {n s : Int} (e : l = numB n s ++ r) : l = nth l 0 :: l.drop 1 ∧ l.isEmpty = false := by
  cases l with
  | nil =>
    exfalso
    have : (numB n s ++ r).length = 0 := by rw [← e]; rfl
    unfold numB at this
    split at this
    · simp at this
    · split at this <;> simp [flipB, posB] at this
  | cons a l => exact ⟨rfl, rfl⟩
set_option maxHeartbeats 8000000 in
theorem dnumber_any (h : KD B w rb l bad) (hB : B ≤ w.heap.size) :
    Calls Try.prog 45 #[.pointer (some ⟨rb, 0, none⟩)] w (DumPost B rb w l bad) := by
  refine enter (args := [.pointer (some ⟨rb, 0, none⟩)]) Try.func45 rfl Try.ntmps45 rfl ?_; have hrB := h.rlt; refine K.kgo ?_; refine WL.alloc (z := .agg zCells.toArray) rfl rfl rfl rfl (fun _ => by kernel_rfl) fun vb w1 hf => ?_; have hf1 : Fresh w vb w1 37 zCells := hf; clear hf; have hve := hf1.eq; have hvr : vb ≠ rb := by omega
  have h1 : KD B w1 rb l bad := h.keep (Keep.of_below hf1.below) fun b hb => Nat.lt_of_lt_of_le hb hB; have k1 : KeepR rb w w1 := KeepR.below hf1.below; have hv1 := hf1.blk; clear hf1; refine K.kgo ?_; refine WL.call rfl rfl rfl rfl rfl Try.func44 rfl (by kernel_rfl) (done_any h1) ?_; rintro _ w2 ⟨rfl, h2, k2⟩; refine ⟨_, rfl, ?_⟩; have hv2 := hv1.keep k2 ⟨hv1.lt, hvr⟩; have k02 := k1.trans k2; have hcr : 0 ≤ (if bad then 0 else nth l 0) ∧ (if bad then 0 else nth l 0) ≤ 255 := by
    have := h.byt.nth 0
    split <;> omega
  have hfst : bad = false → ∀ n0 s0 r, l = numB n0 s0 ++ r → (if bad then 0 else nth l 0) :: (if bad then l else l.drop 1) = numB n0 s0 ++ r ∧ (bad || l.isEmpty) = false := fun hb n0 s0 r e => by
    obtain ⟨e1, e2⟩ := num_first e; subst hb; exact ⟨e1.symm.trans e, e2⟩
  have hdl : (if bad then l else l.drop 1).length ≤ l.length := by split <;> simp
  generalize (if bad then 0 else nth l 0) = c at hcr hfst ⊢; generalize (if bad then l else l.drop 1) = l2 at h2 hdl hfst; obtain ⟨b2, hb2⟩ : ∃ b2, (bad || l.isEmpty) = b2 := ⟨_, rfl⟩; rw [hb2] at h2 hfst; clear h1 k1 hv1 k2
  by_cases h128 : c = 128
  · refine K.kgo ?_
    refine WL.build [.int .i64 3, .int .i64 0, .int .i64 0, .string ByteArray.empty, .slice none 0 0, .slice none 0 0] rfl rfl rfl rfl rfl (by kernel_rfl) ?_; refine WL.storeRow rfl rfl rfl rfl rfl rfl hv2 rfl rfl (onesV _ _ _) ?_; refine K.kgo ?_; have hK : Keep (fun x => x ≠ vb) w2 (w2.setRow vb [.int .i64 3, .int .i64 0, .int .i64 0, .string ByteArray.empty, .slice none 0 0, .slice none 0 0].toArray) := Keep.setRow (Keep.refl _ w2) (fun hk => hk rfl) _; refine WQ.retC rfl rfl rfl rfl (hv2.setRow _) ⟨3, 0, 0, l2, b2, rfl, by omega, by omega, by omega, h2.keep hK fun b hb => by show b ≠ vb; omega, Keep.setRow k02 (fun hk => by have := hk.1; omega) _, hdl, ?_⟩; intro n0 s0 r hb hn hs he; obtain ⟨e1, e2⟩ := hfst hb _ _ _ he; obtain ⟨rfl, -, h5⟩ | ⟨-, h5, -⟩ := numB_inv (c := c) (l2 := l2) hn (by omega) e1
    · rcases hs with rfl | ⟨h6, h7, h8⟩
      · exact ⟨rfl, rfl, rfl, h5, e2⟩
      · exact (h8 (by decide)).elim
    · exact (h5 h128).elim
  obtain ⟨neg, hneg⟩ : ∃ neg, decide (c < 128) = neg := ⟨_, rfl⟩; obtain ⟨tn, htn⟩ : ∃ tn, tn = (if c < 128 then (255 : Int) else 0) := ⟨_, rfl⟩; have htn2 : (neg = true → tn = 255) ∧ (neg = false → tn = 0) := by
    rw [← hneg, htn]
    constructor
    · intro h; rw [if_pos (of_decide_eq_true h)]
    · intro h; rw [if_neg (of_decide_eq_false h)]
  have htn3 : tn = 0 ∨ tn = 255 := by rw [htn]; split <;> omega
  have hflr := fl_range (tn := tn) hcr; obtain ⟨e, he⟩ : ∃ e, fl tn c - 192 = e := ⟨_, rfl⟩; have her : -192 ≤ e ∧ e ≤ 63 := by omega
  have hcx := fl_top hcr
  -- an early end
  have early : ∀ {wx : World} {lx : List Int} {bx : Bool}, KD B wx rb lx bx → KeepR rb w wx → VBlk 37 wx vb zCells → lx.length ≤ l.length → (∀ n0 s0 r, bad = false → (-9223372036854775808 ≤ n0 ∧ n0 ≤ 9223372036854775807) → (s0 = 0 ∨ (1 ≤ s0 ∧ s0 ≤ 18 ∧ ¬ n0.tmod 10 = 0)) → l = numB n0 s0 ++ r → False) →
      DumPost B rb w l bad (.returned (.agg [.int .i64 0, .int .i64 0, .int .i64 0, .string ByteArray.empty, .slice none 0 0, .slice none 0 0].toArray)) (wx.setRow vb [.int .i64 0, .int .i64 0, .int .i64 0, .string ByteArray.empty, .slice none 0 0, .slice none 0 0].toArray) := fun {wx lx bx} g1 g2 g3 g4 g5 =>
    ⟨0, 0, 0, lx, bx, rfl, by omega, by omega, by omega, g1.keep (K := fun x => x ≠ vb) (Keep.setRow (Keep.refl _ wx) (fun hk => hk rfl) _) fun b hb => by show b ≠ vb; omega, Keep.setRow g2 (fun hk => by have := hk.1; omega) _, g4, fun n0 s0 r a1 a2 a3 a4 => (g5 n0 s0 r a1 a2 a3 a4).elim⟩
  -- what a number's key is, behind its first byte
  have good : ∀ n0 s0 r, bad = false → (-9223372036854775808 ≤ n0 ∧ n0 ≤ 9223372036854775807) → (s0 = 0 ∨ (1 ≤ s0 ∧ s0 ≤ 18 ∧ ¬ n0.tmod 10 = 0)) → l = numB n0 s0 ++ r →
      b2 = false ∧ ¬ n0 = 0 ∧ (n0 < 0 ↔ neg = true) ∧ e = (digs n0.natAbs).length - s0 ∧ 1 ≤ (digs n0.natAbs).length ∧ (digs n0.natAbs).length ≤ 19 ∧ l2 = (digB (digs n0.natAbs)).map (fl tn) ++ tn :: r ∧ fl tn c = 192 + (digs n0.natAbs).length - s0 := fun n0 s0 r a1 a2 a3 a4 => by
    obtain ⟨e1, e2⟩ := hfst a1 _ _ _ a4; obtain ⟨-, h5, -⟩ | ⟨q1, -, tn', q2, q3, q4, q5⟩ := numB_inv (c := c) (l2 := l2) a2 (by omega) e1
    · exact (h128 h5).elim
    · obtain rfl : tn' = tn := by rw [q2, htn]
      have hd := digs_len (u := n0.natAbs) (by omega) (by omega); exact ⟨e2, q1, by rw [q3, ← hneg, decide_eq_true_iff], by omega, hd.1, hd.2, q5, q4⟩
  refine K.kgo ?_; refine WC.mid (fun _ : Unit => [(0, .pointer (some ⟨rb, 0, none⟩)), (2, .pointer (some ⟨vb, 0, none⟩)), (3, .int .u8 (fl tn c)), (4, .bool neg)]) (fun _ w' => w2 = w') rfl ?_ ?_
  · by_cases hlt : c < 128
    · have hn1 : neg = true := by rw [← hneg]; exact decide_eq_true hlt
      have ht1 := htn2.1 hn1; refine WC.condT rfl hlt ?_; refine K.kgo ?_; exact WQ.meet () ⟨rfl, rfl, congrArg (fun z => some (Value.int .u8 z)) (by rw [hcx, ht1]; rfl), congrArg (fun z => some (Value.bool z)) hneg, trivial⟩ rfl
    · have hn1 : neg = false := by rw [← hneg]; exact decide_eq_false hlt
      have ht1 := htn2.2 hn1; refine WC.condF rfl hlt ?_; refine K.kgo ?_; exact WQ.meet () ⟨rfl, rfl, congrArg (fun z => some (Value.int .u8 z)) (by rw [ht1]; rfl), congrArg (fun z => some (Value.bool z)) hneg, trivial⟩ rfl
  rintro _ _ rfl; clear hcx; generalize hflc : fl tn c = fc at he hflr good; refine K.kgb ?_; refine WC.mid (fun i : List Int × Bool × Nat × Nat => [(0, .pointer (some ⟨rb, 0, none⟩)), (2, .pointer (some ⟨vb, 0, none⟩)), (4, .bool neg), (5, .int .i64 e), (6, .int .u64 (i.2.2.1 : Int)), (7, .int .i64 (i.2.2.2 : Int))])
    (fun i w' => KD B w' rb i.1 i.2.1 ∧ KeepR rb w w' ∧ VBlk 37 w' vb zCells ∧ (i.2.2.1 < 18446744073709551616 ∧ i.2.2.2 ≤ 21 ∧ i.1.length ≤ l.length) ∧ NE tn l2 b2 i.1 i.2.1 i.2.2.1 i.2.2.2) rfl ?_ ?_
  · refine WC.block ?_
    refine WC.loop (fun i : List Int × Bool × Nat × Nat => [(0, .pointer (some ⟨rb, 0, none⟩)), (2, .pointer (some ⟨vb, 0, none⟩)), (4, .bool neg), (5, .int .i64 e), (6, .int .u64 (i.2.2.1 : Int)), (7, .int .i64 (i.2.2.2 : Int))])
      (fun i w' => KD B w' rb i.1 i.2.1 ∧ KeepR rb w w' ∧ VBlk 37 w' vb zCells ∧ (i.2.2.1 < 18446744073709551616 ∧ i.2.2.2 ≤ 20 ∧ i.1.length ≤ l.length) ∧ NL tn l2 b2 i.1 i.2.1 i.2.2.1 i.2.2.2)
      (fun i => 2 * i.1.length + (if i.2.1 then 0 else 1)) (l2, b2, 0, 0) ⟨rfl, rfl, rfl, congrArg (fun z => some (Value.int .i64 z)) he, rfl, rfl, trivial⟩ ⟨h2, k02, hv2, ⟨by show 0 < _; omega, Nat.zero_le _, hdl⟩, NL.start⟩ ?_
    clear h2 hv2 k02; rintro ⟨li, bi, u, many⟩ wr ⟨hr, hk, hv, ⟨hu, hm, hlen⟩, hN⟩; simp only at hr hk hv hu hm hlen hN ⊢; obtain ⟨s0, -, hc0⟩ := hr.ex; have c1 : wr.cell? ⟨rb, 1, none⟩ = some (.bool bi) := hc0.cell 1 (by simp); have hzr := hk.size; cases bi with
    | true =>
      refine K.kgl ?_; exact WQ.meet (li, true, u, many) ⟨rfl, rfl, rfl, rfl, rfl, rfl, trivial⟩ ⟨hr, hk, hv, ⟨hu, by show many ≤ 21; omega, hlen⟩, hN.dead⟩
    | false =>
      refine K.kgl ?_; refine WL.call rfl rfl rfl rfl rfl Try.func44 rfl (by kernel_rfl) (done_any hr) ?_; rintro _ w3 ⟨rfl, h3, k3⟩; refine ⟨_, rfl, ?_⟩; replace h3 : KD B w3 rb (li.drop 1) li.isEmpty := h3; rw [show (if false = true then (0 : Int) else nth li 0) = nth li 0 from rfl]; have hv3 := hv.keep k3 ⟨hv.lt, hvr⟩; have k03 := hk.trans k3; have hdr := hr.byt.nth 0; have hxd := fl_top hdr; have hdf := fl_range (tn := tn) hdr; have hfd : (neg = true → 255 - nth li 0 = fl tn (nth li 0)) ∧ (neg = false → nth li 0 = fl tn (nth li 0)) := by
        constructor
        · intro h; rw [htn2.1 h]; rfl
        · intro h; rw [htn2.2 h]; rfl
      have hd0 := @NL.done tn l2 li b2 u many hN; have hd1 := fun (h0 : fl tn (nth li 0) ≠ 0) (b' : Bool) (u' m' : Nat) => @NL.step tn l2 li b2 u many htn3 hN h0 b' u' m'; generalize fl tn (nth li 0) = d at hdf hd0 hd1 hfd; generalize nth li 0 = c0 at hxd hdr hfd ⊢; have hdl3 : (li.drop 1).length ≤ l.length := by simp; omega
      refine K.kgo ?_; refine WC.mid (fun _ : Unit => [(0, .pointer (some ⟨rb, 0, none⟩)), (2, .pointer (some ⟨vb, 0, none⟩)), (4, .bool neg), (5, .int .i64 e), (6, .int .u64 (u : Int)), (7, .int .i64 (many : Int)), (8, .int .u8 d)]) (fun _ w' => w3 = w') rfl ?_ ?_
      · cases neg with
        | true =>
          refine K.kgo ?_; exact WQ.meet () ⟨rfl, rfl, rfl, rfl, rfl, rfl, congrArg (fun z => some (Value.int .u8 z)) (by rw [hxd]; exact hfd.1 rfl), trivial⟩ rfl
        | false =>
          refine K.kgo ?_; exact WQ.meet () ⟨rfl, rfl, rfl, rfl, rfl, rfl, congrArg (fun z => some (Value.int .u8 z)) (hfd.2 rfl), trivial⟩ rfl
      rintro _ _ rfl; clear hfd hxd hdr
      by_cases h0 : d = 0
      · refine K.kgo ?_
        exact WQ.meet (li.drop 1, li.isEmpty, u, many) ⟨rfl, rfl, rfl, rfl, rfl, rfl, trivial⟩ ⟨h3, k03, hv3, ⟨hu, by show many ≤ 21; omega, hdl3⟩, hd0 h0⟩
      have hmes : 2 * (li.drop 1).length + (if li.isEmpty = true then 0 else 1) < 2 * li.length + 1 := by
        cases li with
        | nil => simp
        | cons a li => simp
      have hbadstop : (10 < d ∨ 18 < many ∨ 1844674407370955160 < u) → ∀ n0 s0 r, bad = false → (-9223372036854775808 ≤ n0 ∧ n0 ≤ 9223372036854775807) → (s0 = 0 ∨ (1 ≤ s0 ∧ s0 ≤ 18 ∧ ¬ n0.tmod 10 = 0)) → l = numB n0 s0 ++ r → False := fun hq n0 s0 r a1 a2 a3 a4 => by
        obtain ⟨g1, g2, -, -, g5, g6, g7, -⟩ := good n0 s0 r a1 a2 a3 a4; have hst : NE tn l2 b2 [] true 0 0 := (hd1 h0 true (u * 10 + (d - 1).toNat) (many + 1) (fun _ q1 q2 q3 => by omega) (fun _ _ _ => rfl) rfl).dead; have hbl := digB_len n0.natAbs; have := (hst _ r g1 (digB_range n0.natAbs) (by omega) g7).2.1; cases this
      by_cases hbad : 10 < d ∨ 18 < many ∨ 1844674407370955160 < u
      · obtain ⟨hst1, hst2, hst3⟩ := h3.mark k03 hv3 hvr
        obtain ⟨s3, -, hc3⟩ := h3.ex; have hfin := early hst1 hst2 hst3 hdl3 (hbadstop hbad); refine K.kgn ?_
        by_cases h10 : 10 < d
        · refine K.kgo ?_
          refine WL.store rfl rfl rfl rfl rfl rfl (by kernel_rfl) (hc3.cell 1 (by simp)) (hc3.free 1) ?_; refine K.kgo ?_; refine WL.build [.int .i64 0, .int .i64 0, .int .i64 0, .string ByteArray.empty, .slice none 0 0, .slice none 0 0] rfl rfl rfl rfl rfl (by kernel_rfl) ?_; refine WL.storeRow rfl rfl rfl rfl rfl rfl hst3 rfl rfl (onesV _ _ _) ?_; refine K.kgo ?_; exact WQ.retC rfl rfl rfl rfl (hst3.setRow _) hfin
        · by_cases h18 : 18 < many
          · refine K.kgo ?_
            refine WL.store rfl rfl rfl rfl rfl rfl (by kernel_rfl) (hc3.cell 1 (by simp)) (hc3.free 1) ?_; refine K.kgo ?_; refine WL.build [.int .i64 0, .int .i64 0, .int .i64 0, .string ByteArray.empty, .slice none 0 0, .slice none 0 0] rfl rfl rfl rfl rfl (by kernel_rfl) ?_; refine WL.storeRow rfl rfl rfl rfl rfl rfl hst3 rfl rfl (onesV _ _ _) ?_; refine K.kgo ?_; exact WQ.retC rfl rfl rfl rfl (hst3.setRow _) hfin
          · refine K.kgo ?_
            refine WL.store rfl rfl rfl rfl rfl rfl (by kernel_rfl) (hc3.cell 1 (by simp)) (hc3.free 1) ?_; refine K.kgo ?_; refine WL.build [.int .i64 0, .int .i64 0, .int .i64 0, .string ByteArray.empty, .slice none 0 0, .slice none 0 0] rfl rfl rfl rfl rfl (by kernel_rfl) ?_; refine WL.storeRow rfl rfl rfl rfl rfl rfl hst3 rfl rfl (onesV _ _ _) ?_; refine K.kgo ?_; exact WQ.retC rfl rfl rfl rfl (hst3.setRow _) hfin
      · have n1 : ¬ 10 < d := fun h => hbad (.inl h)
        have n2 : ¬ 18 < many := fun h => hbad (.inr (.inl h)); have n3 : ¬ 1844674407370955160 < u := fun h => hbad (.inr (.inr h)); have hstep := hd1 h0 li.isEmpty (u * 10 + (d - 1).toNat) (many + 1) (fun a _ _ _ => by cases li with | nil => exact (a rfl).elim | cons => rfl) (fun _ _ _ => rfl) rfl; have hu' : IntKind.u64.wrap (IntKind.u64.wrap ((u : Int) * 10) + IntKind.u64.wrap (IntKind.u8.wrap (d - 1))) = ((u * 10 + (d - 1).toNat : Nat) : Int) := by
          rw [IntKind.wrap_u64, IntKind.wrap_u64, IntKind.wrap_u64, IntKind.wrap_u8]; omega
        have hul : u * 10 + (d - 1).toNat < 18446744073709551616 := by omega
        obtain ⟨u', hu2⟩ : ∃ u', u' = u * 10 + (d - 1).toNat := ⟨_, rfl⟩; rw [← hu2] at hu' hul hstep; clear hbadstop; refine K.kgo ?_; exact WQ.again (li.drop 1, li.isEmpty, u', many + 1) ⟨rfl, rfl, rfl, rfl, congrArg (fun z => some (Value.int .u64 z)) hu', rfl, trivial⟩ ⟨h3, k03, hv3, ⟨hul, by show many + 1 ≤ 20; omega, hdl3⟩, hstep⟩ hmes
  clear h2 hv2 k02; rintro ⟨l3, b3, u, many⟩ w3 ⟨hr3, hk3, hv3, ⟨hu, hm, hlen3⟩, hNE⟩; simp only at hr3 hk3 hv3 hu hm hlen3 hNE ⊢; obtain ⟨sc0, hsc0⟩ : ∃ sc0 : Int, (many : Int) - e = sc0 := ⟨_, rfl⟩; have good2 : ∀ n0 s0 r, bad = false → (-9223372036854775808 ≤ n0 ∧ n0 ≤ 9223372036854775807) → (s0 = 0 ∨ (1 ≤ s0 ∧ s0 ≤ 18 ∧ ¬ n0.tmod 10 = 0)) → l = numB n0 s0 ++ r →
      l3 = r ∧ b3 = false ∧ u * 10 ^ (-sc0).toNat = n0.natAbs ∧ sc0.toNat = s0 ∧ e ≤ 19 ∧ ¬ n0 = 0 ∧ (n0 < 0 ↔ neg = true) := fun n0 s0 r a1 a2 a3 a4 => by
    obtain ⟨g1, g2, g3, g4, g5, g6, g7, g8⟩ := good n0 s0 r a1 a2 a3 a4; rw [g1] at hNE; obtain ⟨q1, q2, q3, q4⟩ := num_ok (c := c) (e := e) a2 g2 a3 (by rw [hflc]; exact g8) (by rw [hflc]; omega) g7 hNE; rw [hsc0] at q3 q4; exact ⟨q1, q2, q3, q4, by omega, g2, g3⟩
  refine K.kgb ?_; refine WC.mid (fun i : Nat × Nat => [(0, .pointer (some ⟨rb, 0, none⟩)), (2, .pointer (some ⟨vb, 0, none⟩)), (4, .bool neg), (5, .int .i64 e), (6, .int .u64 (i.1 : Int)), (7, .int .i64 (i.2 : Int))])
    (fun i w' => KD B w' rb l3 b3 ∧ KeepR rb w w' ∧ VBlk 37 w' vb zCells ∧ (i.1 < 18446744073709551616 ∧ i.2 ≤ 63 ∧ (b3 = false → e ≤ i.2)) ∧ ML u sc0 b3 i.1 ((i.2 : Int) - e) b3) rfl ?_ ?_
  · refine WC.block ?_
    refine WC.loop (fun i : Nat × Nat => [(0, .pointer (some ⟨rb, 0, none⟩)), (2, .pointer (some ⟨vb, 0, none⟩)), (4, .bool neg), (5, .int .i64 e), (6, .int .u64 (i.1 : Int)), (7, .int .i64 (i.2 : Int))])
      (fun i w' => KD B w' rb l3 b3 ∧ KeepR rb w w' ∧ VBlk 37 w' vb zCells ∧ (i.1 < 18446744073709551616 ∧ i.2 ≤ 63) ∧ ML u sc0 b3 i.1 ((i.2 : Int) - e) b3)
      (fun i => (e - (i.2 : Int)).toNat) (u, many) ⟨rfl, rfl, rfl, rfl, rfl, rfl, trivial⟩ ⟨hr3, hk3, hv3, ⟨hu, by show many ≤ 63; omega⟩, by rw [hsc0]; exact ML.start⟩ ?_
    clear hr3 hk3 hv3 hNE; rintro ⟨n, k⟩ wr ⟨hr, hk, hv, ⟨hn, hk2⟩, hM⟩; simp only at hr hk hv hn hk2 hM ⊢; obtain ⟨s0, -, hc0⟩ := hr.ex; have c1 : wr.cell? ⟨rb, 1, none⟩ = some (.bool b3) := hc0.cell 1 (by simp)
    by_cases hsc : (k : Int) < e
    · cases b3 with
      | true =>
        refine K.kgl ?_; exact WQ.meet (n, k) ⟨rfl, rfl, rfl, rfl, rfl, rfl, trivial⟩ ⟨hr, hk, hv, ⟨hn, hk2, fun h => by cases h⟩, hM⟩
      | false =>
        have hstop : (19 < k + 1 ∨ 1844674407370955161 < n) → ∀ n0 s0 r, bad = false → (-9223372036854775808 ≤ n0 ∧ n0 ≤ 9223372036854775807) → (s0 = 0 ∨ (1 ≤ s0 ∧ s0 ≤ 18 ∧ ¬ n0.tmod 10 = 0)) → l = numB n0 s0 ++ r → False := fun hq n0 s0 r a1 a2 a3 a4 => by
          obtain ⟨-, -, g3, -, g5, -, -⟩ := good2 n0 s0 r a1 a2 a3 a4; have := hM.ten (by omega) rfl g3 (by omega); omega
        by_cases hbad : 19 < k + 1 ∨ 1844674407370955161 < n
        · obtain ⟨hst1, hst2, hst3⟩ := hr.mark hk hv hvr
          have hfin := early hst1 hst2 hst3 hlen3 (hstop hbad)
          by_cases h19 : 18 < k
          · refine K.kgl ?_
            refine WL.store rfl rfl rfl rfl rfl rfl (by kernel_rfl) (hc0.cell 1 (by simp)) (hc0.free 1) ?_; refine K.kgo ?_; refine WL.build [.int .i64 0, .int .i64 0, .int .i64 0, .string ByteArray.empty, .slice none 0 0, .slice none 0 0] rfl rfl rfl rfl rfl (by kernel_rfl) ?_; refine WL.storeRow rfl rfl rfl rfl rfl rfl hst3 rfl rfl (onesV _ _ _) ?_; refine K.kgo ?_; exact WQ.retC rfl rfl rfl rfl (hst3.setRow _) hfin
          · have hnb : 1844674407370955161 < n := by omega
            refine K.kgl ?_; refine WL.store rfl rfl rfl rfl rfl rfl (by kernel_rfl) (hc0.cell 1 (by simp)) (hc0.free 1) ?_; refine K.kgo ?_; refine WL.build [.int .i64 0, .int .i64 0, .int .i64 0, .string ByteArray.empty, .slice none 0 0, .slice none 0 0] rfl rfl rfl rfl rfl (by kernel_rfl) ?_; refine WL.storeRow rfl rfl rfl rfl rfl rfl hst3 rfl rfl (onesV _ _ _) ?_; refine K.kgo ?_; exact WQ.retC rfl rfl rfl rfl (hst3.setRow _) hfin
        · have n1 : ¬ 18 < k := fun h => hbad (.inl (by omega))
          have n2 : ¬ 1844674407370955161 < n := fun h => hbad (.inr h); have hn' : IntKind.u64.wrap ((n : Int) * 10) = ((n * 10 : Nat) : Int) := by rw [IntKind.wrap_u64]; omega
          obtain ⟨n', hn2⟩ : ∃ n', n' = n * 10 := ⟨_, rfl⟩; rw [← hn2] at hn'; have hstep := hM.step (n' := n') (b' := false) (by omega) fun _ => ⟨rfl, hn2⟩; have hmes : (e - ((k + 1 : Nat) : Int)).toNat < (e - (k : Int)).toNat := by omega
          clear hstop; refine K.kgl ?_; exact WQ.again (n', k + 1) ⟨rfl, rfl, rfl, rfl, congrArg (fun z => some (Value.int .u64 z)) hn', rfl, trivial⟩ ⟨hr, hk, hv, ⟨by show n' < _; omega, by show k + 1 ≤ 63; omega⟩, by show ML u sc0 false n' (((k + 1 : Nat) : Int) - e) false; rw [show (((k + 1 : Nat) : Int) - e) = (k : Int) - e + 1 by omega]; exact hstep⟩ hmes
    · refine K.kgl ?_
      exact WQ.meet (n, k) ⟨rfl, rfl, rfl, rfl, rfl, rfl, trivial⟩ ⟨hr, hk, hv, ⟨hn, hk2, fun _ => by show e ≤ (k : Int); omega⟩, hM⟩
  clear hr3 hk3 hv3; rintro ⟨n, k⟩ w4 ⟨hr4, hk4, hv4, ⟨hn, hk2, hek⟩, hML⟩; simp only at hr4 hk4 hv4 hn hk2 hek hML ⊢; obtain ⟨s4, -, hc4⟩ := hr4.ex; have c1 : w4.cell? ⟨rb, 1, none⟩ = some (.bool b3) := hc4.cell 1 (by simp); obtain ⟨sc, hsc⟩ : ∃ sc : Int, (k : Int) - e = sc := ⟨_, rfl⟩; rw [hsc] at hML
  -- what the number is
  have good3 : ∀ n0 s0 r, bad = false → (-9223372036854775808 ≤ n0 ∧ n0 ≤ 9223372036854775807) → (s0 = 0 ∨ (1 ≤ s0 ∧ s0 ≤ 18 ∧ ¬ n0.tmod 10 = 0)) → l = numB n0 s0 ++ r →
      l3 = r ∧ b3 = false ∧ n = n0.natAbs ∧ sc = s0 ∧ ¬ n0 = 0 ∧ (n0 < 0 ↔ neg = true) := fun n0 s0 r a1 a2 a3 a4 => by
    obtain ⟨g1, g2, g3, g4, g5, g6, g7⟩ := good2 n0 s0 r a1 a2 a3 a4; obtain ⟨-, q8, q9⟩ := hML _ g2 g3 (by omega); have := hek g2; rw [show (-sc).toNat = 0 by omega, Nat.pow_zero, Nat.mul_one] at q8; exact ⟨g1, g2, q8, by omega, g6, g7⟩
  refine K.kgo ?_; refine WL.as 9 (.int .i64 sc) rfl (congrArg (Value.int .i64) hsc) ?_; refine WL.mid (fun b : Bool => [(0, .pointer (some ⟨rb, 0, none⟩)), (2, .pointer (some ⟨vb, 0, none⟩)), (4, .bool neg), (6, .int .u64 (n : Int)), (9, .int .i64 sc), (117, .bool b)])
    (fun b w' => (b = true → b3 = true ∨ sc < 0 ∨ 18 < sc ∨ n = 0 ∨ (neg = false ∧ 9223372036854775807 < n) ∨ (neg = true ∧ 9223372036854775808 < n)) ∧ (b = false → b3 = false ∧ 0 ≤ sc ∧ sc ≤ 18 ∧ ¬ n = 0 ∧ (neg = false → n ≤ 9223372036854775807) ∧ (neg = true → n ≤ 9223372036854775808)) ∧ w4 = w') rfl ?_ ?_
  · clear good good2 good3
    cases b3 with
    | true =>
      refine K.kgl ?_; exact WQ.meet true ⟨rfl, rfl, rfl, rfl, rfl, rfl, trivial⟩ ⟨fun _ => .inl rfl, fun h => (by cases h), rfl⟩
    | false =>
      by_cases h1 : sc < 0
      · refine K.kgl ?_
        exact WQ.meet true ⟨rfl, rfl, rfl, rfl, rfl, rfl, trivial⟩ ⟨fun _ => .inr (.inl h1), fun h => (by cases h), rfl⟩
      by_cases h2 : 18 < sc
      · refine K.kgl ?_
        exact WQ.meet true ⟨rfl, rfl, rfl, rfl, rfl, rfl, trivial⟩ ⟨fun _ => .inr (.inr (.inl h2)), fun h => (by cases h), rfl⟩
      by_cases h3 : n = 0
      · refine K.kgl ?_
        exact WQ.meet true ⟨rfl, rfl, rfl, rfl, rfl, rfl, trivial⟩ ⟨fun _ => .inr (.inr (.inr (.inl h3))), fun h => (by cases h), rfl⟩
      cases neg with
      | false =>
        by_cases h4 : 9223372036854775807 < n
        · refine K.kgl ?_
          exact WQ.meet true ⟨rfl, rfl, rfl, rfl, rfl, rfl, trivial⟩ ⟨fun _ => .inr (.inr (.inr (.inr (.inl ⟨rfl, h4⟩)))), fun h => (by cases h), rfl⟩
        · refine K.kgl ?_
          exact WQ.meet false ⟨rfl, rfl, rfl, rfl, rfl, rfl, trivial⟩ ⟨fun h => (by cases h), fun _ => ⟨rfl, by omega, by omega, h3, fun _ => by omega, fun h => (by cases h)⟩, rfl⟩
      | true =>
        by_cases h4 : 9223372036854775808 < n
        · refine K.kgl ?_
          exact WQ.meet true ⟨rfl, rfl, rfl, rfl, rfl, rfl, trivial⟩ ⟨fun _ => .inr (.inr (.inr (.inr (.inr ⟨rfl, h4⟩)))), fun h => (by cases h), rfl⟩
        · refine K.kgl ?_
          exact WQ.meet false ⟨rfl, rfl, rfl, rfl, rfl, rfl, trivial⟩ ⟨fun h => (by cases h), fun _ => ⟨rfl, by omega, by omega, h3, fun h => (by cases h), fun _ => by omega⟩, rfl⟩
  rintro b _ ⟨hb1, hb2', rfl⟩; cases b with
  | true =>
    obtain ⟨hst1, hst2, hst3⟩ := hr4.mark hk4 hv4 hvr; have hfin := early hst1 hst2 hst3 hlen3 fun n0 s0 r a1 a2 a3 a4 => by
      obtain ⟨g1, g2, g3, g4, g5, g6⟩ := good3 n0 s0 r a1 a2 a3 a4; rcases hb1 rfl with q | q | q | q | ⟨q, q2⟩ | ⟨q, q2⟩
      · rw [g2] at q; cases q
      · omega
      · omega
      · omega
      · rw [q] at g6
        have : ¬ n0 < 0 := fun h => by have := g6.1 h; cases this
        omega
      · omega
    refine K.kgo ?_; refine WL.store rfl rfl rfl rfl rfl rfl (by kernel_rfl) (hc4.cell 1 (by simp)) (hc4.free 1) ?_; refine K.kgo ?_; refine WL.build [.int .i64 0, .int .i64 0, .int .i64 0, .string ByteArray.empty, .slice none 0 0, .slice none 0 0] rfl rfl rfl rfl rfl (by kernel_rfl) ?_; refine WL.storeRow rfl rfl rfl rfl rfl rfl hst3 rfl rfl (onesV _ _ _) ?_; refine K.kgo ?_; exact WQ.retC rfl rfl rfl rfl (hst3.setRow _) hfin
  | false =>
  obtain ⟨p1, p2, p3, p4, p5, p6⟩ := hb2' rfl; subst p1; clear hb1 hb2' early; obtain ⟨x, hx⟩ : ∃ x, x = (if neg then -(n : Int) else (n : Int)) := ⟨_, rfl⟩; have hxv : (neg = true → x = -(n : Int)) ∧ (neg = false → x = (n : Int)) := by rw [hx]; cases neg <;> simp
  have hxr : -9223372036854775808 ≤ x ∧ x ≤ 9223372036854775807 := by
    cases hq : neg with
    | true => have := hxv.1 hq; have := p6 hq; omega
    | false => have := hxv.2 hq; have := p5 hq; omega
  have e1 : IntKind.u64.wrap ((n : Int) - 1) = (n : Int) - 1 := by rw [IntKind.wrap_u64]; omega
  have e2 : neg = true → IntKind.i64.wrap ((n : Int) - 1) = (n : Int) - 1 := fun h => by have := p6 h; rw [IntKind.wrap_i64]; omega
  have e3 : neg = false → IntKind.i64.wrap (n : Int) = (n : Int) := fun h => by have := p5 h; rw [IntKind.wrap_i64]; omega
  refine K.kgo ?_; refine WC.mid (fun _ : Unit => [(0, .pointer (some ⟨rb, 0, none⟩)), (2, .pointer (some ⟨vb, 0, none⟩)), (9, .int .i64 sc), (10, .int .i64 x)]) (fun _ w' => w4 = w') rfl ?_ ?_
  · cases neg with
    | true =>
      have e2 := e2 rfl; have e4 := hxv.1 rfl; have e5 := p6 rfl; refine K.kgo ?_; exact WQ.meet () ⟨rfl, rfl, rfl, congrArg (fun z => some (Value.int .i64 z)) (by omega), trivial⟩ rfl
    | false =>
      have e3 := e3 rfl; have e4 := hxv.2 rfl; refine K.kgo ?_; exact WQ.meet () ⟨rfl, rfl, rfl, congrArg (fun z => some (Value.int .i64 z)) (by omega), trivial⟩ rfl
  clear hx e1 e2 e3; rintro _ _ rfl; refine K.kgo ?_; refine WL.call rfl rfl rfl rfl rfl Try.func55 rfl (by kernel_rfl) (dmake_any x sc hxr (by omega) w4) ?_; rintro _ w6 ⟨kk, n6, s6, er, rfl, g1, g2, g3, hb6, g4⟩; refine ⟨_, rfl, ?_⟩; have hr6 := hr4.keep (Keep.of_below hb6) fun b hb => by have := hk4.size; omega
  have hv6 := hv4.below hb6 hv4.lt; have hk6 := hk4.trans (KeepR.below hb6); clear hr4 hv4 hk4; refine K.kgo ?_; refine WL.alloc (z := .agg zCells.toArray) rfl rfl rfl rfl (fun _ => by kernel_rfl) fun xb w7 hf => ?_; have hf7 : Fresh w6 xb w7 37 zCells := hf; clear hf; refine WL.storeRow (cs := [.int .i64 kk, .int .i64 n6, .int .i64 s6, .string ByteArray.empty, .slice none 0 0, .slice none 0 0]) rfl rfl rfl rfl rfl rfl hf7.blk rfl rfl (onesV _ _ _) ?_; have hb8 : Below w6.heap.size w6 (w7.setRow xb [.int .i64 kk, .int .i64 n6, .int .i64 s6, .string ByteArray.empty, .slice none 0 0, .slice none 0 0].toArray) := below_setRow hf7.below (by rw [hf7.eq]; exact Nat.le_refl _) _; have hx8 := hf7.blk.setRow [.int .i64 kk, .int .i64 n6, .int .i64 s6, .string ByteArray.empty, .slice none 0 0, .slice none 0 0]; have hxe := hf7.eq; clear hf7; generalize w7.setRow xb [.int .i64 kk, .int .i64 n6, .int .i64 s6, .string ByteArray.empty, .slice none 0 0, .slice none 0 0].toArray = w8 at hb8 hx8 ⊢; have hr8 := hr6.keep (Keep.of_below hb8) fun b hb => by have := hk6.size; omega
  have hv8 := hv6.below hb8 hv6.lt; have hk8 := hk6.trans (KeepR.below hb8); have hvl := hv6.lt; clear hr6 hv6 hk6 hb8; refine K.kgo ?_; refine WC.mid (fun _ : Bool => [(2, .pointer (some ⟨vb, 0, none⟩)), (11, .pointer (some ⟨xb, 0, none⟩))])
    (fun b9 w' => KD B w' rb l3 b9 ∧ KeepR rb w w' ∧ VBlk 37 w' vb zCells ∧ VBlk 37 w' xb [.int .i64 kk, .int .i64 n6, .int .i64 s6, .string ByteArray.empty, .slice none 0 0, .slice none 0 0] ∧ (er = 0 → b9 = false)) rfl ?_ ?_
  · by_cases q : er = 0
    · refine WC.condF rfl (fun h => h q) ?_
      refine K.kgo ?_; exact WQ.meet false ⟨rfl, rfl, trivial⟩ ⟨hr8, hk8, hv8, hx8, fun _ => rfl⟩
    · obtain ⟨s8, -, hc8⟩ := hr8.ex
      have hst := hr8.mark hk8 hv8 hvr; have hst2 := hr8.mark hk8 hx8 (by omega); refine WC.condT rfl q ?_; refine K.kgo ?_; refine WL.store rfl rfl rfl rfl rfl rfl (by kernel_rfl) (hc8.cell 1 (by simp)) (hc8.free 1) ?_; refine K.kgo ?_; exact WQ.meet true ⟨rfl, rfl, trivial⟩ ⟨hst.1, hst.2.1, hst.2.2, hst2.2.2, fun h => (q h).elim⟩
  clear hr8 hk8 hv8 hx8; rintro b9 w9 ⟨hr9, hk9, hv9, hx9, hb9⟩; refine K.kgo ?_; refine WL.loadMid (m := 6) rfl rfl rfl rfl rfl rfl (VBlk.rangeAt hx9) rfl ?_; refine WL.storeRow rfl rfl rfl rfl rfl rfl hv9 rfl rfl (onesV _ _ _) ?_; refine K.kgo ?_; have hK : Keep (fun x => x ≠ vb) w9 (w9.setRow vb [.int .i64 kk, .int .i64 n6, .int .i64 s6, .string ByteArray.empty, .slice none 0 0, .slice none 0 0].toArray) := Keep.setRow (Keep.refl _ w9) (fun hk => hk rfl) _; refine WQ.retC rfl rfl rfl rfl (hv9.setRow _) ⟨kk, n6, s6, l3, b9, rfl, g1, g2, g3, hr9.keep hK fun b hb => by show b ≠ vb; omega, Keep.setRow hk9 (fun hk => by have := hk.1; omega) _, hlen3, ?_⟩; intro n0 s0 r a1 a2 a3 a4; obtain ⟨q1, -, q3, q4, -, q6⟩ := good3 n0 s0 r a1 a2 a3 a4; have hxn : x = n0 := by
    cases hq : neg with
    | true =>
      have := hxv.1 hq; have := q6.2 hq; omega
    | false =>
      have := hxv.2 hq; have : ¬ n0 < 0 := fun h => by rw [q6.1 h] at hq; cases hq
      omega
  rw [hxn, q4] at g4; obtain ⟨r1, r2, r3, r4⟩ := g4 a3; exact ⟨r2, r3, r4, q1, hb9 r1⟩
end K
end Go.Proofs.Ytfpakjbaiohcaaa

namespace Go.Proofs.Ytfpakjbaiohcaaa
open Go.RowKit
namespace K
theorem rreadS_any {w : World} {v : Value} {l : List Int} (hv : Sl .u8 w v l) (hb : Frm.Byt l) :
    Calls Try.prog 56 #[v] w fun e w' => e = .returned (.tuple (rsV l).toArray) ∧ Below w.heap.size w w' := by
  obtain ⟨sp, cap, rfl, h1, h2, -⟩ := id hv; refine enter (args := [.slice sp l.length cap]) Try.func56 rfl Try.ntmps56 rfl ?_; unfold rsV
  by_cases h : l.length < 4
  · rw [if_pos h]
    refine K.kgo ?_; exact WQ.ret2 rfl rfl rfl ⟨rfl, Below.refl _ _⟩
  rw [if_neg h]; have hfin := num4_nth (by omega) hb; have a0 := hb _ (nth_mem' l 0 (by omega)); have a1 := hb _ (nth_mem' l 1 (by omega)); have a2 := hb _ (nth_mem' l 2 (by omega)); have a3 := hb _ (nth_mem' l 3 (by omega)); have h32 := four32 _ _ _ _ a0 a1 a2 a3; rw [hfin] at h32; clear hfin a0 a1 a2 a3; refine K.kgo ?_; refine WC.drawn 21 (fun wx => wx.heap = w.heap) fun w2 hd => ?_; have hb2 : Below w.heap.size w w2 := hd.below _; have hS : w2.heap = w.heap := hd.heap; clear hd; refine K.fr [0, 5, 11, 17] hS ?_; refine WD.idxI 1 0 rfl (by kernel_rfl) rfl rfl (fun _ _ _ _ _ h => h) rfl rfl rfl rfl hv rfl rfl (by omega) (.inr hS) fun p0 q0 => ?_; refine K.wl 2 [3, 4, 10, 16, 21, 22, 23] rfl rfl rfl rfl rfl rfl rfl (fun wx hx => (heap_cell hx _).trans q0) hS ?_; refine WD.idxI 6 1 rfl (by kernel_rfl) rfl rfl (fun _ _ _ _ _ h => h) rfl rfl rfl rfl hv rfl rfl (by omega) (.inr hS) fun p1 q1 => ?_; refine K.wl 7 [8, 9, 10, 16, 21, 22, 23] rfl rfl rfl rfl rfl rfl rfl (fun wx hx => (heap_cell hx _).trans q1) hS ?_; refine WD.idxI 12 2 rfl (by kernel_rfl) rfl rfl (fun _ _ _ _ _ h => h) rfl rfl rfl rfl hv rfl rfl (by omega) (.inr hS) fun p2 q2 => ?_; refine K.wl 13 [14, 15, 16, 21, 22, 23] rfl rfl rfl rfl rfl rfl rfl (fun wx hx => (heap_cell hx _).trans q2) hS ?_; refine WD.idxI 18 3 rfl (by kernel_rfl) rfl rfl (fun _ _ _ _ _ h => h) rfl rfl rfl rfl hv rfl rfl (by omega) (.inr hS) fun p3 q3 => ?_; refine K.wl 19 [20, 21, 22, 23] rfl rfl rfl rfl rfl rfl rfl (fun wx hx => (heap_cell hx _).trans q3) hS ?_; refine K.fr [3, 4, 8, 9, 10, 14, 15, 16, 20] hS ?_; refine K.wo 21 ?_; refine WL.pure rfl rfl rfl rfl ?_; refine WL.as 28 (.int .u32 ((Crc.num4 l : Nat) : Int)) rfl (congrArg (Value.int .u32) h32) ?_; refine K.dl ?_
  (refine K.fzl 22 rfl (q := ?_); refine K.fzl 23 rfl (q := ?_))
  refine WD.done (by kernel_rfl) ?_; refine K.kgo ?_; exact WQ.ret2 rfl rfl rfl ⟨rfl, hb2⟩
theorem rreadBig_any {w : World} {v : Value} {l : List Int} (hv : Sl .u8 w v l) (hb : Frm.Byt l) :
    Calls Try.prog 46 #[v] w fun e w' => e = .returned (.tuple (rbV l).toArray) ∧ Below w.heap.size w w' := by
  obtain ⟨sp, cap, rfl, h1, h2, -⟩ := id hv; refine enter (args := [.slice sp l.length cap]) Try.func46 rfl Try.ntmps46 rfl ?_; unfold rbV
  by_cases h : l.length < 8
  · rw [if_pos h]
    refine K.kgo ?_; exact WQ.ret2 rfl rfl rfl ⟨rfl, Below.refl _ _⟩
  rw [if_neg h]; have e1 : rsV l = [.int .u32 (Crc.num4 l : Nat), .int .i64 0] := by unfold rsV; rw [if_neg (by omega)]
  have e2 : rsV (l.drop 4) = [.int .u32 (Crc.num4 (l.drop 4) : Nat), .int .i64 0] := by unfold rsV; rw [if_neg (by rw [List.length_drop]; omega)]
  have hbd : Frm.Byt (l.drop 4) := fun c hc => hb c (List.mem_of_mem_drop hc); have h64 := two64 (Crc.num4 l) (Crc.num4 (l.drop 4)) (Crc.num4_lt _ hb) (Crc.num4_lt _ hbd); refine K.kgo ?_; refine WL.call rfl rfl rfl rfl rfl Try.func56 rfl (by kernel_rfl) (rreadS_any hv hb) ?_; rintro _ w1 ⟨rfl, k1⟩; refine ⟨_, rfl, ?_⟩; rw [e1]; refine K.kgo ?_; refine WL.from rfl rfl rfl rfl rfl rfl rfl (by omega) (by omega) (hv.of_below k1) fun v2 hv2 => ?_
  refine WL.call rfl rfl rfl rfl rfl Try.func56 rfl (by kernel_rfl) (rreadS_any hv2 hbd) ?_; rintro _ w2 ⟨rfl, k2⟩; refine ⟨_, rfl, ?_⟩; rw [show (4 : Int).toNat = 4 from rfl, e2]; refine K.kgo ?_; exact WQ.ret2 rfl (congrArg (fun z => some (Value.int .u64 z)) h64) rfl ⟨rfl, k1.trans (k2.mono k1.size)⟩
end K
end Go.Proofs.Ytfpakjbaiohcaaa

namespace Go.Proofs.Ytfpakjbaiohcaaa
open Go.RowKit
namespace K
def DvPost (m B rb : Nat) (w : World) (l : List Int) (bad : Bool) (r : Ending) (w' : World) : Prop :=
  ∃ v cs l' bad', r = .returned (.agg cs.toArray) ∧ IsVo (fun b => w.heap.size ≤ b) (m + 1) w' v cs ∧ KD B w' rb l' bad' ∧ KeepR rb w w' ∧ KOut m l bad v l' bad'
theorem dv_box {m B rb ob vb : Nat} {w w1 w4 : World} {v : V} {cs : List Value} (hB : B ≤ w.heap.size) (hob : ob = w.heap.size) (hw1 : w1.heap.size = w.heap.size + 1) (h01 : Below w.heap.size w w1) (hvb : vb = w1.heap.size) (hrB : rb < B) {l l4 : List Int} {bad e4 : Bool}
    (hv4 : IsVo (fun b => w1.heap.size ≤ b ∧ b ≠ vb) (m + 1) w4 v cs)
    (hr4 : KD B w4 rb l4 e4) (hk4 : KeepR rb w1 w4) (ho4 : KOut m l bad v l4 e4) : DvPost m B rb w l bad (.returned (.agg cs.toArray)) (w4.setRow ob cs.toArray) := by
  have hset : Keep (fun b => b ≠ ob) w4 (w4.setRow ob cs.toArray) := Keep.setRow (Keep.refl _ w4) (fun hk => hk rfl) _; have hk : KeepR rb w w4 := (KeepR.below h01).trans hk4; exact ⟨v, cs, l4, e4, rfl, hv4.keep hset (fun b hb _ => by have := hb.1; show b ≠ ob; omega) (fun b hb => by have := hb.1; have := hvb; omega), hr4.keep hset (fun b hb => by have := hrB; have := hB; show b ≠ ob; omega), Keep.setRow hk (fun hk => by have := hk.1; omega) _, ho4⟩
theorem dkids_end {rb vb m B : Nat} {c : Int} {w wx : World} {ns : List ByteArray} {ks : List V} {sn sk : Value} {q : Nat → Prop} {l li : List Int} {bad ei : Bool} (hc : 0 ≤ c ∧ c ≤ 255) (h1 : KidsW rb vb (m + 1) c w wx ns ks sn sk q) (h2 : KD B wx rb li ei) (h3 : KOut (m + 1) l bad (.mk c 0 0 noT ns ks) li ei) :
    VBlk 37 wx vb (rowV c sn sk) ∧ IsVo (fun b => w.heap.size ≤ b ∧ b ≠ vb) (m + 1 + 1) wx (.mk c 0 0 noT ns ks) (rowV c sn sk) ∧ KD B wx rb li ei ∧ KeepR rb w wx ∧ KOut (m + 1) l bad (.mk c 0 0 noT ns ks) li ei :=
  ⟨h1.blk, ⟨sn, sk, rfl, wf_i64 (by show -9223372036854775808 ≤ c ∧ c ≤ _; omega), wf_i64 (by show -9223372036854775808 ≤ (0 : Int) ∧ (0 : Int) ≤ _; omega), wf_i64 (by show -9223372036854775808 ≤ (0 : Int) ∧ (0 : Int) ≤ _; omega), by show ByteArray.empty.size ≤ _; decide, h1.names.els, h1.kids.els.mono (fun _ h => h) fun x cs hx => hx.mono fun b hb => ⟨(h1.qs b hb).1, (h1.qs b hb).2.2.1⟩⟩, h2, h1.keep, h3⟩
theorem onesT (k : Int) (t : ByteArray) : Ones [.int .i64 k, .int .i64 0, .int .i64 0, .string t, .slice none 0 0, .slice none 0 0] := fun v hv => by
  simp at hv
  rcases hv with rfl | rfl | rfl | rfl | rfl | rfl <;> rfl

set_option maxHeartbeats 16000000 in
theorem dvalue_step (m : Nat) (ih : ∀ {B rb : Nat} {w : World} {l : List Int} {bad : Bool} (d : Int), d = 17 - (m : Int) → KD B w rb l bad → B ≤ w.heap.size → l.length ≤ 1000000 → Calls Try.prog 28 #[.pointer (some ⟨rb, 0, none⟩), .int .i64 d] w (DvPost m B rb w l bad))
    {B rb : Nat} {w : World} {l : List Int} {bad : Bool} (d : Int) (hd : d = 17 - ((m + 1 : Nat) : Int)) (hm : m + 1 ≤ 16) (h : KD B w rb l bad) (hB : B ≤ w.heap.size) (hl : l.length ≤ 1000000) :
    Calls Try.prog 28 #[.pointer (some ⟨rb, 0, none⟩), .int .i64 d] w (DvPost (m + 1) B rb w l bad) := by
  refine enter (args := [.pointer (some ⟨rb, 0, none⟩), .int .i64 d]) Try.func28 rfl Try.ntmps28 rfl ?_; refine K.kgo ?_; refine WL.alloc (z := .agg zCells.toArray) rfl rfl rfl rfl (fun _ => by kernel_rfl) fun ob w1 hf => ?_; have hf0 : Fresh w ob w1 37 zCells := hf; clear hf; have hob := hf0.eq; have hw1 := hf0.size; have h01 := hf0.below; have hrB := h.rlt; have h1 : KD B w1 rb l bad := h.keep (Keep.of_below h01) fun b hb => Nat.lt_of_lt_of_le hb hB; have hoblk1 := hf0.blk; clear hf0; refine K.kgo ?_; refine WL.alloc (z := .agg #[.int .i64 0, .int .i64 0, .int .i64 0, .string ByteArray.empty, .slice none 0 0, .slice none 0 0]) rfl rfl rfl rfl (fun _ => by kernel_rfl) fun vb w1' hf => ?_; have hf' : Fresh w1 vb w1' 37 [.int .i64 0, .int .i64 0, .int .i64 0, .string ByteArray.empty, .slice none 0 0, .slice none 0 0] := hf; clear hf; have hvbe := hf'.eq; have h1' : KD B w1' rb l bad := h1.keep (Keep.of_below hf'.below) fun b hb => by omega
  have hk1 : KeepR rb w1 w1' := KeepR.below hf'.below; have hblk1 := hf'.blk; have hsz1 := hf'.size; clear hf' h1; have hbyt := h.byt
  -- the result's box stands
  have obk : ∀ {wx : World}, KeepR rb w1 wx → VBlk 37 wx ob zCells := fun {wx} hk => hoblk1.keep hk ⟨by omega, by omega⟩; refine K.kgo ?_; refine WL.call rfl rfl rfl rfl rfl Try.func44 rfl (by kernel_rfl) (done_any h1') ?_; rintro _ w2 ⟨rfl, h3, hk2⟩; refine ⟨_, rfl, ?_⟩; have hblk3 := hblk1.keep hk2 ⟨hblk1.lt, by omega⟩; have hk3 := hk1.trans hk2; clear h1' hk1 hblk1 hk2; have hc01 : 0 ≤ (if bad then 0 else nth l 0) ∧ (if bad then 0 else nth l 0) ≤ 255 := by
    have := hbyt.nth 0
    split <;> omega
  have hdl : (if bad then l else l.drop 1).length ≤ l.length := by split <;> simp
  have hcons : ¬ (if bad then 0 else nth l 0) = 0 → bad = false ∧ l.isEmpty = false ∧ ∀ {v : V} {l' : List Int} {b' : Bool}, KOut (m + 1) ((if bad then 0 else nth l 0) :: (if bad then l else l.drop 1)) false v l' b' → KOut (m + 1) l bad v l' b' := fun hc => by
    cases bad with
    | true => exact (hc rfl).elim
    | false =>
      cases l with
      | nil => exact (hc rfl).elim
      | cons a r => exact ⟨rfl, rfl, fun h => h⟩
  have hlast : (∀ x r, chk (m + 1) x = 0 → (if bad then 0 else nth l 0) :: (if bad then l else l.drop 1) = keyV (m + 1) x ++ r → False) → KOut (m + 1) l bad (.mk 0 0 0 noT [] []) (if bad then l else l.drop 1) true := fun hq => by
    cases bad with
    | true => exact .dead (Nat.le_refl _)
    | false =>
      cases l with
      | nil => exact .nil
      | cons a r => exact .none (by simp) fun x r' _ q1 _ q3 => hq x r' q1 q3
  generalize (if bad then 0 else nth l 0) = c at hc01 hcons hlast ⊢; generalize (if bad then l else l.drop 1) = l2 at h3 hcons hdl hlast; have hl2 : l2.length ≤ 1000000 := by omega
  -- the store into the box
  have stB : ∀ {wx : World} {i : Nat} (u : Value) {lx : List Int} {ex : Bool}, KD B wx rb lx ex → KeepR rb w1 wx → KD B (wx.setCell ⟨vb, i, none⟩ u) rb lx ex ∧ KeepR rb w1 (wx.setCell ⟨vb, i, none⟩ u) := fun {wx i} u {lx ex} hr hk =>
    ⟨hr.keep (K := fun b => b ≠ vb) ((Keep.refl _ wx).setCell (fun hk => hk rfl) _) (fun b hb => by omega), Keep.setCell hk (fun hk => by have := hk.1; simp only at this; omega) _⟩
  have stR : ∀ {wx : World} (cs : List Value) {lx : List Int} {ex : Bool}, KD B wx rb lx ex → KeepR rb w1 wx → KD B (wx.setRow vb cs.toArray) rb lx ex ∧ KeepR rb w1 (wx.setRow vb cs.toArray) := fun {wx} cs {lx ex} hr hk =>
    ⟨hr.keep (K := fun b => b ≠ vb) (Keep.setRow (Keep.refl _ wx) (fun hk => hk rfl) _) (fun b hb => by omega), Keep.setRow hk (fun hk => by have := hk.1; omega) _⟩
  refine K.kgb ?_; refine WC.mid (fun _ : V × List Value × List Int × Bool => [(4, .pointer (some ⟨ob, 0, none⟩)), (5, .pointer (some ⟨vb, 0, none⟩))])
    (fun i w' => VBlk 37 w' vb i.2.1 ∧ IsVo (fun b => w1.heap.size ≤ b ∧ b ≠ vb) (m + 1 + 1) w' i.1 i.2.1 ∧ KD B w' rb i.2.2.1 i.2.2.2 ∧ KeepR rb w1 w' ∧ KOut (m + 1) l bad i.1 i.2.2.1 i.2.2.2) rfl ?_ ?_
  rotate_left
  · rintro ⟨v, cs, l4, e4⟩ w4 ⟨hb4, hv4, hr4, hk4, ho4⟩
    simp only at hb4 hv4 hr4 hk4 ho4 ⊢; have hcs := hv4.len; refine K.kgo ?_; refine WL.loadMid rfl rfl rfl rfl rfl rfl (VBlk.rangeAt hb4) hcs ?_; refine WL.storeRow rfl rfl rfl rfl rfl rfl (obk hk4) hcs rfl hv4.one ?_; refine K.kgo ?_; exact WQ.retC rfl rfl rfl hcs ((obk hk4).setRow cs) (dv_box hB hob hw1 h01 hvbe hrB hv4 hr4 hk4 ho4)
  by_cases k1 : c = 16
  · subst k1
    obtain ⟨hbad, hemp, hcons⟩ := hcons (by omega); rw [hbad, hemp] at h3; replace h3 : KD B w2 rb l2 false := h3; clear hlast; refine K.kgo ?_; refine WL.store (v := .int .i64 1) rfl rfl rfl rfl rfl rfl (by kernel_rfl) (hblk3.cell 0 (by simp)) (hblk3.free 0) ?_; obtain ⟨h5, hk5⟩ := stB (i := 0) (.int .i64 1) h3 hk3; have hblk5 := hblk3.set 0 (.int .i64 1); refine K.kgo ?_; exact WQ.meet (.mk 1 0 0 noT [] [], _, l2, _) ⟨rfl, rfl, trivial⟩ ⟨hblk5, isVo_leaf (by omega) (by omega) (by omega) (by decide), h5, hk5, hcons (.leaf (by show 0 + l2.length + 1 ≤ l2.length + 1; omega) fun x r q0 q1 q2 q3 => by
      obtain ⟨-, rfl, rfl⟩ | ⟨e, -⟩ | ⟨e, -⟩ | ⟨e, -⟩ | ⟨e, -⟩ | ⟨e, -⟩ | ⟨e, -⟩ := kinv q1 q3 <;> (first | omega | skip); exact ⟨rfl, rfl, rfl⟩)⟩
  by_cases k2 : c = 32
  · subst k2
    obtain ⟨hbad, hemp, hcons⟩ := hcons (by omega); rw [hbad, hemp] at h3; replace h3 : KD B w2 rb l2 false := h3; clear hlast; have hc2 := h3.byt.nth 0; refine K.kgo ?_; refine WL.call rfl rfl rfl rfl rfl Try.func44 rfl (by kernel_rfl) (done_any h3) ?_; rintro _ w6 ⟨rfl, h6, hk6⟩; refine ⟨_, rfl, ?_⟩; replace h6 : KD B w6 rb (l2.drop 1) l2.isEmpty := h6; rw [show (if false = true then (0 : Int) else nth l2 0) = nth l2 0 from rfl]; have hblk6 := hblk3.keep hk6 ⟨hblk3.lt, by omega⟩; have hlen6 : (l2.drop 1).length ≤ l2.length := by simp
    have hok : ∀ x r, false = false → chk (m + 1) x = 0 → Wr x → (32 : Int) :: l2 = keyV (m + 1) x ++ r → V.mk 2 (nth l2 0) 0 noT [] [] = x ∧ l2.drop 1 = r ∧ l2.isEmpty = false := fun x r q0 q1 q2 q3 => by
      obtain ⟨e, -⟩ | ⟨-, n, -, rfl, rfl⟩ | ⟨e, -⟩ | ⟨e, -⟩ | ⟨e, -⟩ | ⟨e, -⟩ | ⟨e, -⟩ := kinv q1 q3 <;> (first | omega | skip); exact ⟨rfl, rfl, rfl⟩
    generalize nth l2 0 = c2 at hc2 hok ⊢; refine K.kgo ?_; refine WL.build [.int .i64 2, .int .i64 c2, .int .i64 0, .string ByteArray.empty, .slice none 0 0, .slice none 0 0] rfl rfl rfl rfl rfl (by kernel_rfl) ?_; refine WL.storeRow rfl rfl rfl rfl rfl rfl hblk6 rfl rfl (onesV _ _ _) ?_; obtain ⟨h7, hk7⟩ := stR [.int .i64 2, .int .i64 c2, .int .i64 0, .string ByteArray.empty, .slice none 0 0, .slice none 0 0] h6 (hk3.trans hk6); have hblk7 := hblk6.setRow [.int .i64 2, .int .i64 c2, .int .i64 0, .string ByteArray.empty, .slice none 0 0, .slice none 0 0]; refine K.kgo ?_; exact WQ.meet (.mk 2 c2 0 noT [] [], _, l2.drop 1, _) ⟨rfl, rfl, trivial⟩ ⟨hblk7, isVo_leaf (by omega) (by omega) (by omega) (by decide), h7, hk7, hcons (.leaf (by show 0 + (l2.drop 1).length + 1 ≤ l2.length + 1; omega) hok)⟩
  by_cases k3 : c = 48
  · subst k3
    obtain ⟨hbad, hemp, hcons⟩ := hcons (by omega); rw [hbad, hemp] at h3; replace h3 : KD B w2 rb l2 false := h3; clear hlast; refine K.kgo ?_; refine WL.call rfl rfl rfl rfl rfl Try.func45 rfl (by kernel_rfl) (dnumber_any h3 (by have := hk3.size; omega)) ?_; rintro _ w4 ⟨kk, n, s, l4, b4, rfl, g1, g2, g3, h4, hk4, ho4⟩; refine ⟨_, rfl, ?_⟩; have hk34 := hk3.trans hk4; refine K.kgo ?_; refine WL.storeRow (cs := [.int .i64 kk, .int .i64 n, .int .i64 s, .string ByteArray.empty, .slice none 0 0, .slice none 0 0]) rfl rfl rfl rfl rfl rfl (obk hk34) rfl rfl (onesV _ _ _) ?_; refine K.kgo ?_; refine WQ.retC rfl rfl rfl rfl ((obk hk34).setRow _) (dv_box (v := .mk kk n s noT [] []) hB hob hw1 h01 hvbe hrB (isVo_leaf g1 g2 g3 (by decide)) h4 hk34 (hcons (.leaf (by show 0 + l4.length + 1 ≤ l2.length + 1; have := ho4.len; omega) fun x r q0 q1 q2 q3 => ?_))); obtain ⟨e, -⟩ | ⟨e, -⟩ | ⟨-, n0, s0, e1, e2⟩ | ⟨e, -⟩ | ⟨e, -⟩ | ⟨e, -⟩ | ⟨e, -⟩ := kinv q1 q3 <;> (first | omega | skip); have hw := q2.num; rcases e1 with ⟨rfl, rfl⟩ | ⟨e1, rfl⟩
    · obtain ⟨rfl, rfl, rfl, rfl, rfl⟩ := ho4.ok _ _ r rfl hw (.inl rfl) e2
      exact ⟨rfl, rfl, rfl⟩
    · obtain ⟨e3, rfl, rfl, rfl, rfl⟩ := ho4.ok _ _ r rfl hw (.inr e1) e2
      rw [if_neg (by omega)] at e3; exact ⟨by rw [e3], rfl, rfl⟩
  by_cases k5 : c = 64
  · subst k5
    obtain ⟨hbad, hemp, hcons⟩ := hcons (by omega); rw [hbad, hemp] at h3; replace h3 : KD B w2 rb l2 false := h3; clear hlast; refine K.kgo ?_; refine WL.store (v := .int .i64 5) rfl rfl rfl rfl rfl rfl (by kernel_rfl) (hblk3.cell 0 (by simp)) (hblk3.free 0) ?_; obtain ⟨h5, hk5⟩ := stB (i := 0) (.int .i64 5) h3 hk3; have hblk5 := hblk3.set 0 (.int .i64 5); generalize w2.setCell ⟨vb, 0, none⟩ (.int .i64 5) = w5 at h5 hk5 hblk5 ⊢; simp only [List.set_cons_zero] at hblk5; clear h3 hk3 hblk3; obtain ⟨s, hsl, hrc⟩ := h5.ex; have hslen := bytesI_len s; rw [hsl] at hslen; have hb5 := h5.byt; have hvr : vb ≠ rb := by omega
    refine K.kgo ?_; refine WL.load rfl rfl rfl rfl rfl rfl (hrc.cell 0 (by simp)) ?_
    by_cases h8 : l2.length < 8
    · obtain ⟨hm1, hm2, hm3⟩ := h5.mark hk5 hblk5 hvr
      have hout : KOut (m + 1) l bad (.mk 5 0 0 noT [] []) l2 true := hcons (.leaf (by show 0 + l2.length + 1 ≤ l2.length + 1; omega) fun x r q0 q1 q2 q3 => by
        obtain ⟨e, -⟩ | ⟨e, -⟩ | ⟨e, -⟩ | ⟨-, n, -, rfl, rfl⟩ | ⟨e, -⟩ | ⟨e, -⟩ | ⟨e, -⟩ := kinv q1 q3 <;> (first | omega | skip); simp [bigI, shortI] at h8
        omega)
      have hcs : Ones [.int .i64 5, .int .i64 0, .int .i64 0, .string ByteArray.empty, .slice none 0 0, .slice none 0 0] := onesV 5 0 0; refine K.kgo ?_; refine WL.store rfl rfl rfl rfl rfl rfl (by kernel_rfl) (hrc.cell 1 (by simp)) (hrc.free 1) ?_; refine K.kgo ?_; refine WL.loadMid (m := 6) rfl rfl rfl rfl rfl rfl (VBlk.rangeAt hm3) rfl ?_; refine WL.storeRow rfl rfl rfl rfl rfl rfl (obk hm2) rfl rfl hcs ?_; refine K.kgo ?_; exact WQ.retC rfl rfl rfl rfl ((obk hm2).setRow _) (dv_box (v := .mk 5 0 0 noT [] []) hB hob hw1 h01 hvbe hrB (isVo_leaf (by omega) (by omega) (by omega) (by decide)) hm1 hm2 hout)
    · have htk : bytesI (s.extract 0 8) = l2.take 8 := by
        rw [← hsl]; unfold bytesI; rw [ByteArray.toList_eq, ByteArray.toList_eq, ByteArray.data_extract, Array.toList_extract, ← List.map_take]
        congr 1
      have hsz8 : (s.extract 0 8).size = 8 := by
        have := bytesI_len (s.extract 0 8); rw [htk, List.length_take] at this; omega
      refine K.kgo ?_; refine WL.load rfl rfl rfl rfl rfl rfl (hrc.cell 0 (by simp)) ?_; refine WL.substrTo (z := 8) rfl rfl rfl rfl rfl rfl rfl (by omega) (by omega) ?_; refine WL.bytesOf rfl rfl rfl rfl rfl rfl rfl rfl (by show (s.extract 0 8).size ≤ _; omega) fun g cc w6 hs6 hb6 hg6 => ?_; replace hs6 : Sl .u8 w6 (.slice (some ⟨g, 0, none⟩) (s.extract 0 8).size cc) (bytesI (s.extract 0 8)) := hs6; rw [htk] at hs6; have hb8 : Byt (l2.take 8) := fun c hc => hb5 c (List.mem_of_mem_take hc); refine WL.call rfl rfl rfl rfl rfl Try.func46 rfl (by kernel_rfl) (rreadBig_any hs6 hb8) ?_; rintro _ w7 ⟨rfl, hb7⟩; refine ⟨_, rfl, ?_⟩; have hb57 : Below w5.heap.size w5 w7 := hb6.trans (hb7.mono hb6.size); have hk5z := hk5.size; have h7 := h5.keep (Keep.of_below hb57) fun b hb => by omega
      have hk7 := hk5.trans (KeepR.below hb57); have hblk7 := hblk5.below hb57 hblk5.lt; have hrc7 := hrc.below hb57 hrc.lt; clear h5 hk5 hblk5 hrc hs6 hb6 hb7 hb57; unfold rbV; rw [if_neg (by rw [List.length_take]; omega)]; obtain ⟨N, hN⟩ : ∃ N : Nat, Crc.num4 (l2.take 8) * 4294967296 + Crc.num4 ((l2.take 8).drop 4) = N := ⟨_, rfl⟩; rw [hN]; obtain ⟨Z, hZ⟩ : ∃ Z, IntKind.i64.wrap (N : Int) = Z := ⟨_, rfl⟩; have hZr : -9223372036854775808 ≤ Z ∧ Z ≤ 9223372036854775807 := by rw [← hZ, IntKind.wrap_i64]; omega
      have hdl : (l2.drop 8).length + 8 = l2.length := by rw [List.length_drop]; omega
      have hfin : KOut (m + 1) l bad (.mk 5 Z 0 noT [] []) (l2.drop 8) false := hcons (.leaf (by show 0 + (l2.drop 8).length + 1 ≤ l2.length + 1; omega) fun x r q0 q1 q2 q3 => by
        obtain ⟨e, -⟩ | ⟨e, -⟩ | ⟨e, -⟩ | ⟨-, n, hn, rfl, rfl⟩ | ⟨e, -⟩ | ⟨e, -⟩ | ⟨e, -⟩ := kinv q1 q3 <;> (first | omega | skip); obtain ⟨b1, -⟩ := big_back hn []; rw [List.append_nil] at b1; have e1 : (bigI n ++ r).take 8 = bigI n := rfl; have e2 : (bigI n ++ r).drop 8 = r := rfl; rw [e1] at hN; rw [hN] at b1; have : Z = n := by rw [← hZ, b1, IntKind.wrap_i64]; omega
        exact ⟨by rw [this], e2, rfl⟩)
      refine K.kgo ?_; refine WL.load rfl rfl rfl rfl rfl rfl (hrc7.cell 0 (by simp)) ?_; refine WL.substrFrom (z := 8) rfl rfl rfl rfl rfl rfl rfl (by omega) (by omega) ?_; refine K.kgo ?_; refine WL.store rfl rfl rfl rfl rfl rfl (by kernel_rfl) (hrc7.cell 0 (by simp)) (hrc7.free 0) ?_; have hrc11 := hrc7.set 0 (.string (s.extract (8 : Int).toNat s.size)); have h11 : KD B (w7.setCell ⟨rb, 0, none⟩ (.string (s.extract (8 : Int).toNat s.size))) rb (l2.drop 8) false := ⟨hrB, _, by rw [← hsl]; exact bytesI_drop s 8, by simpa using hrc11⟩; have hk11 := hk7.trans (KeepR.set rb 0 w7 (.string (s.extract (8 : Int).toNat s.size))); have hblk11 := hblk7.keep (K := fun x => x ≠ rb) ((Keep.refl _ w7).setCell (p := ⟨rb, 0, none⟩) (fun hk => hk rfl) (.string (s.extract (8 : Int).toNat s.size))) hvr; generalize w7.setCell ⟨rb, 0, none⟩ (.string (s.extract (8 : Int).toNat s.size)) = w8 at h11 hk11 hblk11 ⊢; refine K.kgn ?_; refine WL.pure rfl rfl rfl rfl ?_; refine WL.pure rfl rfl rfl rfl ?_; refine WL.as 65 (.int .i64 Z) rfl (congrArg (Value.int .i64) hZ) ?_; refine K.kgo ?_; refine WL.store (v := .int .i64 Z) rfl rfl rfl rfl rfl rfl (by kernel_rfl) (hblk11.cell 1 (by simp)) (hblk11.free 1) ?_; obtain ⟨h12, hk12⟩ := stB (i := 1) (.int .i64 Z) h11 hk11; have hblk12 := hblk11.set 1 (.int .i64 Z); refine K.kgo ?_; exact WQ.meet (.mk 5 Z 0 noT [] [], _, l2.drop 8, false) ⟨rfl, rfl, trivial⟩ ⟨hblk12, isVo_leaf (by omega) hZr (by omega) (by decide), h12, hk12, hfin⟩
  by_cases k6 : c = 80
  · subst k6
    obtain ⟨hbad, hemp, hcons⟩ := hcons (by omega); rw [hbad, hemp] at h3; replace h3 : KD B w2 rb l2 false := h3; clear hlast; have hok : ∀ (t : ByteArray) (l4 : List Int) (b4 : Bool), t.size + l4.length ≤ l2.length → (∀ b r2, false = false → txR l2 [] = some (b, r2) → t = strOfNums b ∧ l4 = r2 ∧ b4 = false) → KOut (m + 1) l bad (.mk 6 0 0 t [] []) l4 b4 := fun t l4 b4 ht hx => hcons (.leaf (by simp only [List.length_cons]; omega) fun x r q0 q1 q2 q3 => by
      obtain ⟨e, -⟩ | ⟨e, -⟩ | ⟨e, -⟩ | ⟨e, -⟩ | ⟨-, t0, -, rfl, e2⟩ | ⟨e, -⟩ | ⟨e, -⟩ := kinv q1 q3 <;> (first | omega | skip); have h8 : txR l2 [] = some (t0.toList.map fun c => (c.toNat : Int), r) := by
        rw [e2, textK]; have := txR_enc t0.toList [] r
        simpa [List.append_assoc] using this
      obtain ⟨rfl, rfl, rfl⟩ := hx _ _ rfl h8; exact ⟨by rw [bytes_back]; rfl, rfl, rfl⟩)
    refine K.kgo ?_; refine WL.call rfl rfl rfl rfl rfl Try.func47 rfl (by kernel_rfl) (dtext_any h3 (by have := hk3.size; omega) hl2) ?_; rintro _ w4 ⟨t, l4, b4, rfl, h4, ht, hk4, hx⟩; refine ⟨_, rfl, ?_⟩; have hblk4 := hblk3.keep hk4 ⟨hblk3.lt, by omega⟩; refine K.kgo ?_; refine WL.build [.int .i64 6, .int .i64 0, .int .i64 0, .string t, .slice none 0 0, .slice none 0 0] rfl rfl rfl rfl rfl (by kernel_rfl) ?_; refine WL.storeRow rfl rfl rfl rfl rfl rfl hblk4 rfl rfl (onesT _ _) ?_; obtain ⟨h6, hk6⟩ := stR [.int .i64 6, .int .i64 0, .int .i64 0, .string t, .slice none 0 0, .slice none 0 0] h4 (hk3.trans hk4); have hblk6 := hblk4.setRow [.int .i64 6, .int .i64 0, .int .i64 0, .string t, .slice none 0 0, .slice none 0 0]; refine K.kgo ?_; exact WQ.meet (.mk 6 0 0 t [] [], _, l4, b4) ⟨rfl, rfl, trivial⟩ ⟨hblk6, isVo_leaf (by omega) (by omega) (by omega) (by omega), h6, hk6, hok t l4 b4 ht hx⟩
  by_cases k7 : c = 96
  · subst k7
    obtain ⟨hbad, hemp, hcons⟩ := hcons (by omega); rw [hbad, hemp] at h3; replace h3 : KD B w2 rb l2 false := h3; clear hlast; have hok : ∀ (t : ByteArray) (l4 : List Int) (b4 : Bool), t.size + l4.length ≤ l2.length → (∀ b r2, false = false → txR l2 [] = some (b, r2) → t = strOfNums b ∧ l4 = r2 ∧ b4 = false) → KOut (m + 1) l bad (.mk 7 0 0 t [] []) l4 b4 := fun t l4 b4 ht hx => hcons (.leaf (by simp only [List.length_cons]; omega) fun x r q0 q1 q2 q3 => by
      obtain ⟨e, -⟩ | ⟨e, -⟩ | ⟨e, -⟩ | ⟨e, -⟩ | ⟨-, t0, -, rfl, e2⟩ | ⟨e, -⟩ | ⟨e, -⟩ := kinv q1 q3 <;> (first | omega | skip); have h8 : txR l2 [] = some (t0.toList.map fun c => (c.toNat : Int), r) := by
        rw [e2, textK]; have := txR_enc t0.toList [] r
        simpa [List.append_assoc] using this
      obtain ⟨rfl, rfl, rfl⟩ := hx _ _ rfl h8; exact ⟨by rw [bytes_back]; rfl, rfl, rfl⟩)
    refine K.kgo ?_; refine WL.call rfl rfl rfl rfl rfl Try.func47 rfl (by kernel_rfl) (dtext_any h3 (by have := hk3.size; omega) hl2) ?_; rintro _ w4 ⟨t, l4, b4, rfl, h4, ht, hk4, hx⟩; refine ⟨_, rfl, ?_⟩; have hblk4 := hblk3.keep hk4 ⟨hblk3.lt, by omega⟩; refine K.kgo ?_; refine WL.build [.int .i64 7, .int .i64 0, .int .i64 0, .string t, .slice none 0 0, .slice none 0 0] rfl rfl rfl rfl rfl (by kernel_rfl) ?_; refine WL.storeRow rfl rfl rfl rfl rfl rfl hblk4 rfl rfl (onesT _ _) ?_; obtain ⟨h6, hk6⟩ := stR [.int .i64 7, .int .i64 0, .int .i64 0, .string t, .slice none 0 0, .slice none 0 0] h4 (hk3.trans hk4); have hblk6 := hblk4.setRow [.int .i64 7, .int .i64 0, .int .i64 0, .string t, .slice none 0 0, .slice none 0 0]; refine K.kgo ?_; exact WQ.meet (.mk 7 0 0 t [] [], _, l4, b4) ⟨rfl, rfl, trivial⟩ ⟨hblk6, isVo_leaf (by omega) (by omega) (by omega) (by omega), h6, hk6, hok t l4 b4 ht hx⟩
  by_cases k8 : c = 112
  · subst k8
    obtain ⟨hbad, hemp, hcons⟩ := hcons (by omega); rw [hbad, hemp] at h3; replace h3 : KD B w2 rb l2 false := h3; clear hlast; refine K.kgo ?_; refine WL.store (v := .int .i64 8) rfl rfl rfl rfl rfl rfl (by kernel_rfl) (hblk3.cell 0 (by simp)) (hblk3.free 0) ?_; obtain ⟨h5, hk5⟩ := stB (i := 0) (.int .i64 8) h3 hk3; have hblk5 := hblk3.set 0 (.int .i64 8); generalize w2.setCell ⟨vb, 0, none⟩ (.int .i64 8) = w5 at h5 hk5 hblk5 ⊢; simp only [List.set_cons_zero] at hblk5; refine K.kgb ?_; refine WC.mid (fun _ : List V × List Int × Bool => [(0, .pointer (some ⟨rb, 0, none⟩)), (4, .pointer (some ⟨ob, 0, none⟩)), (5, .pointer (some ⟨vb, 0, none⟩))])
      (fun i wr => (∃ sn sk q, KidsW rb vb (m + 1) 8 w1 wr [] i.1 sn sk q) ∧ KD B wr rb i.2.1 i.2.2 ∧ KL m l2 false i.1 i.2.1 i.2.2 ∧ (i.2.2 = false → nth i.2.1 0 = 0)) rfl ?_ ?_
    rotate_left
    · rintro ⟨ks, li, bi⟩ wr ⟨⟨sn, sk, q, hK⟩, hr, hL, hz⟩
      simp only at hK hr hL hz ⊢; refine K.kgo ?_; refine WL.call rfl rfl rfl rfl rfl Try.func44 rfl (by kernel_rfl) (done_any hr) ?_; rintro _ w6 ⟨rfl, h6, hk6⟩; refine ⟨_, rfl, ?_⟩; have hK6 := hK.read hk6; cases bi with
      | true =>
        replace h6 : KD B w6 rb li true := h6; refine K.kgo ?_; exact WQ.meet (.mk 8 0 0 noT [] ks, _, li, true) ⟨rfl, rfl, trivial⟩ (dkids_end (by omega) hK6 h6 (hcons (hL.stop (Nat.le_refl _))))
      | false =>
        replace h6 : KD B w6 rb (li.drop 1) li.isEmpty := h6; refine K.kgo ?_; exact WQ.meet (.mk 8 0 0 noT [] ks, _, li.drop 1, li.isEmpty) ⟨rfl, rfl, trivial⟩ (dkids_end (by omega) hK6 h6 (hcons (hL.done (hz rfl))))
    refine WC.block ?_; refine WC.loop (fun i : List V × List Int × Bool => [(0, .pointer (some ⟨rb, 0, none⟩)), (1, .int .i64 d), (4, .pointer (some ⟨ob, 0, none⟩)), (5, .pointer (some ⟨vb, 0, none⟩))])
      (fun i wr => (∃ sn sk q, KidsW rb vb (m + 1) 8 w1 wr [] i.1 sn sk q) ∧ KD B wr rb i.2.1 i.2.2 ∧ KL m l2 false i.1 i.2.1 i.2.2) (fun i => 2 * i.2.1.length + (if i.2.2 then 0 else 1)) ([], l2, false)
      ⟨rfl, rfl, rfl, rfl, trivial⟩ ⟨⟨_, _, fun _ => False, hblk5, OwnE.nil _ _ _ _ _ _, OwnE.nil _ _ _ _ _ _, (fun g hg => by cases hg), (fun b hb => hb.elim), hk5, hvbe, by omega⟩, h5, KL.start⟩ ?_
    rintro ⟨ks, li, bi⟩ wr ⟨⟨sn, sk, q, hK⟩, hr, hL⟩; simp only at hK hr hL ⊢; have hcnt := hL.count; obtain ⟨rs, hrs, hrb⟩ := hr.ex; have hlw : li.length ≤ l2.length := by have := hL.wt 0; cases bi <;> simp at this <;> omega
    have hwr := hK.keep.size; have hrl := bytesI_len rs; rw [hrs] at hrl; have hc1 : wr.cell? ⟨rb, 1, none⟩ = some (.bool bi) := hrb.cell 1 (by simp); have hc0 : wr.cell? ⟨rb, 0, none⟩ = some (.string rs) := hrb.cell 0 (by simp); cases bi with
    | true =>
      refine K.kgl ?_; exact WQ.meet (ks, li, true) ⟨rfl, rfl, rfl, trivial⟩ ⟨⟨sn, sk, q, hK⟩, hr, hL, fun h => by cases h⟩
    | false =>
      by_cases hn : li.length = 0
      · have hz : nth li 0 = 0 := by rw [List.eq_nil_of_length_eq_zero hn]; rfl
        refine K.kgl ?_; exact WQ.meet (ks, li, false) ⟨rfl, rfl, rfl, trivial⟩ ⟨⟨sn, sk, q, hK⟩, hr, hL, fun _ => hz⟩
      have hby : ((rs.toList.getD 0 0).toNat : Int) = nth li 0 := by
        rw [← hrs]; unfold bytesI nth; simp [List.getD_eq_getElem?_getD]
        cases rs.toList[0]? <;> rfl
      by_cases h0 : nth li 0 = 0
      · rw [h0] at hby
        refine K.kgl ?_; refine WL.byte 0 rfl rfl rfl rfl rfl rfl rfl rfl (by omega) ?_; rw [hby]; refine K.kgo ?_; exact WQ.meet (ks, li, false) ⟨rfl, rfl, rfl, trivial⟩ ⟨⟨sn, sk, q, hK⟩, hr, hL, fun _ => h0⟩
      · have hstep := fun v l' b' => @KL.step m l' l2 li false b' v ks hL h0
        generalize nth li 0 = c0 at h0 hby ⊢; refine K.kgl ?_; refine WL.byte 0 rfl rfl rfl rfl rfl rfl rfl rfl (by omega) ?_; rw [hby]; refine K.kgo ?_; refine WC.drawn 9 (fun wx => VBlk 37 wx vb (rowV 8 sn sk)) fun w15 hd5 => ?_; have hK5 := hK.below (hd5.below _); have hr5 := hr.keep (Keep.of_below (hd5.below wr.heap.size)) fun b hb => by omega
        have hsz5 : wr.heap.size ≤ w15.heap.size := (hd5.below 0).size; have hS := hK5.blk; refine K.fr [0] hS ?_; refine K.wl 1 [7, 8, 9] rfl rfl rfl rfl rfl rfl rfl (fun wx hx => hx.cell 5 (by simp)) hS ?_; refine K.fr [2, 3, 4] hS ?_; refine K.wo 5 ?_; refine WL.call rfl rfl rfl rfl rfl Try.func28 rfl (by kernel_rfl) (ih (d + 1) (by omega) hr5 (by omega) (by omega)) ?_; rintro _ w16 ⟨v, cs, l6, e6, rfl, hv6, hr6, hk6, ho6⟩; refine ⟨_, rfl, ?_⟩; have hvb5 := hK5.blk.lt; have hsn5 : ∀ g, (sn).ownBlock = some g → g < w15.heap.size := fun g hg => hK5.names.lt hg; have hsk5 : ∀ g, sk.ownBlock = some g → g < w15.heap.size := fun g hg => hK5.kids.lt hg; have hK6 := hK5.read hk6; refine WL.nil (WQ.dk (.inr hK6.blk) ?_); refine K.wo 6 ?_; refine WL.lit1 rfl rfl rfl rfl rfl rfl rfl hv6.len ⟨by omega, by omega⟩ (by kernel_rfl) fun g7 w17 hf7 => ?_; have hK7 := (hK6.below hf7.below).widen (S := w15.heap.size) (by have := hK5.keep.size; omega) hvb5 hsn5 hsk5; have hr7 := hr6.keep (Keep.of_below hf7.below) fun b hb => by have := hk6.size; omega
        have hv7 := hv6.there.keep (O' := fun b => q b ∨ (w15.heap.size ≤ b ∧ b < w17.heap.size)) (Keep.of_below hf7.below) (fun b _ h => h) fun b hb => .inr ⟨hb.1, by have := hf7.size; omega⟩; refine WL.nil (WQ.dk (.inr hK7.blk) ?_); refine K.wo 7 ?_; refine WL.snoc rfl rfl rfl rfl elemV6 rfl hK7.kids rfl hf7.blk hv6.one hv6.len hv7 (by omega) (by omega) fun sk8 w18 ho8 hg8 => ?_; obtain ⟨hb8, hK9⟩ := hK7.setK ho8 hg8; refine K.di hb8 ?_; have hsk8 : sk8.oneCell' = true := ho8.one; refine K.wo 8 ?_; refine WL.pure rfl rfl rfl rfl ?_; refine K.di hb8 ?_; refine K.wo 9 ?_; refine WL.store rfl rfl rfl rfl rfl hsk8 (by kernel_rfl) (hb8.cell 5 (by simp)) (hb8.free 5) ?_; have hr9 : KD B (w18.setCell ⟨vb, 5, none⟩ sk8) rb l6 e6 := (hr7.keep hg8.1 fun b hb => ⟨by have := hf7.size; have := hk6.size; omega, fun e => by have := (hK7.kids.own e).1; omega⟩).keep (K := fun b => b ≠ vb) ((Keep.refl _ w18).setCell (fun hk => hk rfl) _) fun b hb => by omega
        generalize w18.setCell ⟨vb, 5, none⟩ sk8 = w19 at hK9 hr9; refine K.dl ?_; refine WD.done (by kernel_rfl) ?_; refine K.kgo ?_; exact WQ.again (ks ++ [v], l6, e6) ⟨rfl, rfl, rfl, rfl, trivial⟩ ⟨⟨sn, sk8, _, hK9⟩, hr9, hstep v l6 e6 ho6⟩ (by
          show 2 * l6.length + (if e6 then 0 else 1) < 2 * li.length + 1
          have := ho6.len; cases e6 with
          | true => simp; omega
          | false => have := ho6.less; simp; omega)
  by_cases k9 : c = 128
  · subst k9
    obtain ⟨hbad, hemp, hcons⟩ := hcons (by omega); rw [hbad, hemp] at h3; replace h3 : KD B w2 rb l2 false := h3; clear hlast; refine K.kgo ?_; refine WL.store (v := .int .i64 9) rfl rfl rfl rfl rfl rfl (by kernel_rfl) (hblk3.cell 0 (by simp)) (hblk3.free 0) ?_; obtain ⟨h5, hk5⟩ := stB (i := 0) (.int .i64 9) h3 hk3; have hblk5 := hblk3.set 0 (.int .i64 9); generalize w2.setCell ⟨vb, 0, none⟩ (.int .i64 9) = w5 at h5 hk5 hblk5 ⊢; simp only [List.set_cons_zero] at hblk5; refine K.kgo ?_; refine WC.loop (fun i : List ByteArray × List V × List Int × Bool => [(0, .pointer (some ⟨rb, 0, none⟩)), (1, .int .i64 d), (4, .pointer (some ⟨ob, 0, none⟩)), (5, .pointer (some ⟨vb, 0, none⟩))])
      (fun i wr => (∃ sn sk q, KidsW rb vb (m + 1) 9 w1 wr i.1 i.2.1 sn sk q) ∧ KD B wr rb i.2.2.1 i.2.2.2 ∧ PL m l2 false i.1 i.2.1 i.2.2.1 i.2.2.2) (fun i => 2 * i.2.2.1.length + (if i.2.2.2 then 0 else 1)) ([], [], l2, false)
      ⟨rfl, rfl, rfl, rfl, trivial⟩ ⟨⟨_, _, fun _ => False, hblk5, OwnE.nil _ _ _ _ _ _, OwnE.nil _ _ _ _ _ _, (fun g hg => by cases hg), (fun b hb => hb.elim), hk5, hvbe, by omega⟩, h5, PL.start⟩ ?_
    rintro ⟨ns, ks, li, bi⟩ wr ⟨⟨sn, sk, q, hK⟩, hr, hL⟩; simp only at hK hr hL ⊢; have hcnt := hL.count; have hnk := hL.len; obtain ⟨rs, -, hrb⟩ := hr.ex; have hlw : li.length ≤ l2.length := by have := hL.wt 0; cases bi <;> simp at this <;> omega
    have hwr := hK.keep.size; refine K.kgo ?_; refine WL.load rfl rfl rfl rfl rfl rfl (hrb.cell 1 (by simp)) ?_; cases bi with
    | true =>
      refine K.kgo ?_; exact WQ.meet (.mk 9 0 0 noT ns ks, _, li, true) ⟨rfl, rfl, trivial⟩ (dkids_end (by omega) hK hr (hcons (hL.stop (Nat.le_refl _))))
    | false =>
      refine K.kgo ?_; refine WL.call rfl rfl rfl rfl rfl Try.func44 rfl (by kernel_rfl) (done_any hr) ?_; rintro _ w6 ⟨rfl, h6, hk6⟩; refine ⟨_, rfl, ?_⟩; replace h6 : KD B w6 rb (li.drop 1) li.isEmpty := h6; rw [show (if false = true then (0 : Int) else nth li 0) = nth li 0 from rfl]; have hK6 := hK.read hk6
      by_cases h0 : nth li 0 = 0
      · have hd1 := hL.done h0
        generalize nth li 0 = c0 at h0 ⊢; refine K.kgo ?_; exact WQ.meet (.mk 9 0 0 noT ns ks, _, li.drop 1, li.isEmpty) ⟨rfl, rfl, trivial⟩ (dkids_end (by omega) hK6 h6 (hcons hd1))
      · cases li with
        | nil => exact (h0 rfl).elim
        | cons c0 li2 =>
        replace h0 : c0 ≠ 0 := h0; have hw6 := hk6.size; simp only [List.length_cons] at hlw; replace h6 : KD B w6 rb li2 false := h6; rw [show nth (c0 :: li2) 0 = c0 from rfl]; refine K.kgo ?_; refine WC.mid (fun _ : Bool => [(0, .pointer (some ⟨rb, 0, none⟩)), (1, .int .i64 d), (4, .pointer (some ⟨ob, 0, none⟩)), (5, .pointer (some ⟨vb, 0, none⟩))]) (fun b1 wx => (c0 = 1 → b1 = false) ∧ KidsW rb vb (m + 1) 9 w1 wx ns ks sn sk q ∧ KD B wx rb li2 b1) rfl ?_ ?_
        · obtain ⟨rs7, -, hrc7⟩ := h6.ex
          by_cases h1 : c0 = 1
          · refine WC.condF rfl (fun h => h h1) ?_
            refine K.kgo ?_; exact WQ.meet false ⟨rfl, rfl, rfl, rfl, trivial⟩ ⟨fun _ => rfl, hK6, h6⟩
          · refine WC.condT rfl h1 ?_
            refine K.kgo ?_; refine WL.store rfl rfl rfl rfl rfl rfl (by kernel_rfl) (hrc7.cell 1 (by simp)) (hrc7.free 1) ?_; refine K.kgo ?_; exact WQ.meet true ⟨rfl, rfl, rfl, rfl, trivial⟩ ⟨fun h => (h1 h).elim, hK6.read (KeepR.set _ _ _ _), h6.setB true⟩
        clear h6 hK6 hK hr; rintro b1 w7 ⟨hb1, hK7, h7⟩; have hw7 := hK7.keep.size; refine K.kgo ?_; refine WC.drawn 7 (fun wx => VBlk 37 wx vb (rowV 9 sn sk)) fun w5 hd5 => ?_; have hK5 := hK7.below (hd5.below _); have hr5 := h7.keep (Keep.of_below (hd5.below w7.heap.size)) fun b hb => by omega
        have hsz5 : w7.heap.size ≤ w5.heap.size := (hd5.below 0).size; have hS := hK5.blk; refine K.fr [0] hS ?_; refine K.wl 1 [5, 6, 7] rfl rfl rfl rfl rfl rfl rfl (fun wx hx => hx.cell 4 (by simp)) hS ?_; refine K.fr [2] hS ?_; refine K.wo 3 ?_; refine WL.call rfl rfl rfl rfl rfl Try.func47 rfl (by kernel_rfl) (dtext_any hr5 (by omega) (by omega)) ?_; rintro _ w6 ⟨t, lt, et, rfl, hr6, ht, hk6', hot⟩; refine ⟨_, rfl, ?_⟩; have hK6 := hK5.read hk6'; refine WL.nil (WQ.dk (.inr hK6.blk) ?_); refine K.wo 4 ?_; refine WL.lit1 (cs := [.string t]) rfl rfl rfl rfl rfl rfl rfl rfl ⟨by omega, by omega⟩ (by kernel_rfl) fun g7 w7' hf7 => ?_; have hK7' := hK6.below hf7.below; have hr7 := hr6.keep (Keep.of_below hf7.below) fun b hb => by have := hk6'.size; omega
        refine WL.nil (WQ.dk (.inr hK7'.blk) ?_); refine K.wo 5 ?_; refine WL.snoc (y := t) rfl rfl rfl rfl elemS1 rfl hK7'.names rfl hf7.blk (by intro u hu; simp at hu; rw [hu]; rfl) rfl ⟨rfl, by omega⟩ (by omega) (by omega) fun sn8 w8 ho8 hg8 => ?_; obtain ⟨hb8, hK9⟩ := hK7'.setN ho8 hg8; refine K.di hb8 ?_; have hsn8 : sn8.oneCell' = true := ho8.one; refine K.wo 6 ?_; refine WL.pure rfl rfl rfl rfl ?_; refine K.di hb8 ?_; refine K.wo 7 ?_; refine WL.store rfl rfl rfl rfl rfl hsn8 (by kernel_rfl) (hb8.cell 4 (by simp)) (hb8.free 4) ?_; have hr9 : KD B (w8.setCell ⟨vb, 4, none⟩ sn8) rb lt et := (hr7.keep hg8.1 fun b hb => ⟨by have := hf7.size; have := hk6'.size; omega, fun e => by have := (hK7'.names.own e).1; omega⟩).keep (K := fun b => b ≠ vb) ((Keep.refl _ w8).setCell (fun hk => hk rfl) _) fun b hb => by omega
        generalize w8.setCell ⟨vb, 4, none⟩ sn8 = w9 at hK9 hr9; refine K.dl ?_; refine WD.done (by kernel_rfl) ?_; clear hK7 hr7 hb8 hK6 hr6 hK5 hr5 hS hk6' ho8 hg8 hK7' h7; have hw9 := hK9.keep.size; have hltl : lt.length ≤ l2.length := by omega
        refine K.kgo ?_; refine WC.drawn 9 (fun wx => VBlk 37 wx vb (rowV 9 sn8 sk)) fun w15 hd5 => ?_; have hK5 := hK9.below (hd5.below _); have hr5 := hr9.keep (Keep.of_below (hd5.below w9.heap.size)) fun b hb => by omega
        have hsz5 : w9.heap.size ≤ w15.heap.size := (hd5.below 0).size; have hS := hK5.blk; refine K.fr [0] hS ?_; refine K.wl 1 [7, 8, 9] rfl rfl rfl rfl rfl rfl rfl (fun wx hx => hx.cell 5 (by simp)) hS ?_; refine K.fr [2, 3, 4] hS ?_; refine K.wo 5 ?_; refine WL.call rfl rfl rfl rfl rfl Try.func28 rfl (by kernel_rfl) (ih (d + 1) (by omega) hr5 (by omega) (by omega)) ?_; rintro _ w16 ⟨v, cs, l6, e6, rfl, hv6, hr6, hk6, ho6⟩; refine ⟨_, rfl, ?_⟩; have hvb5 := hK5.blk.lt; have hsn5 : ∀ g, (sn8).ownBlock = some g → g < w15.heap.size := fun g hg => hK5.names.lt hg; have hsk5 : ∀ g, sk.ownBlock = some g → g < w15.heap.size := fun g hg => hK5.kids.lt hg; have hK6 := hK5.read hk6; refine WL.nil (WQ.dk (.inr hK6.blk) ?_); refine K.wo 6 ?_; refine WL.lit1 rfl rfl rfl rfl rfl rfl rfl hv6.len ⟨by omega, by omega⟩ (by kernel_rfl) fun g7 w17 hf7 => ?_; have hK7 := (hK6.below hf7.below).widen (S := w15.heap.size) (by have := hK5.keep.size; omega) hvb5 hsn5 hsk5; have hr7 := hr6.keep (Keep.of_below hf7.below) fun b hb => by have := hk6.size; omega
        have hv7 := hv6.there.keep (O' := fun b => q b ∨ (w15.heap.size ≤ b ∧ b < w17.heap.size)) (Keep.of_below hf7.below) (fun b _ h => h) fun b hb => .inr ⟨hb.1, by have := hf7.size; omega⟩; refine WL.nil (WQ.dk (.inr hK7.blk) ?_); refine K.wo 7 ?_; refine WL.snoc rfl rfl rfl rfl elemV6 rfl hK7.kids rfl hf7.blk hv6.one hv6.len hv7 (by omega) (by omega) fun sk8 w18 ho8 hg8 => ?_; obtain ⟨hb8, hKx⟩ := hK7.setK ho8 hg8; refine K.di hb8 ?_; have hsk8 : sk8.oneCell' = true := ho8.one; refine K.wo 8 ?_; refine WL.pure rfl rfl rfl rfl ?_; refine K.di hb8 ?_; refine K.wo 9 ?_; refine WL.store rfl rfl rfl rfl rfl hsk8 (by kernel_rfl) (hb8.cell 5 (by simp)) (hb8.free 5) ?_; have hrx : KD B (w18.setCell ⟨vb, 5, none⟩ sk8) rb l6 e6 := (hr7.keep hg8.1 fun b hb => ⟨by have := hf7.size; have := hk6.size; omega, fun e => by have := (hK7.kids.own e).1; omega⟩).keep (K := fun b => b ≠ vb) ((Keep.refl _ w18).setCell (fun hk => hk rfl) _) fun b hb => by omega
        generalize w18.setCell ⟨vb, 5, none⟩ sk8 = w19 at hKx hrx; refine K.dl ?_; refine WD.done (by kernel_rfl) ?_; refine K.kgo ?_; exact WQ.again (ns ++ [t], ks ++ [v], l6, e6) ⟨rfl, rfl, rfl, rfl, trivial⟩ ⟨⟨sn8, sk8, _, hKx⟩, hrx, hL.step h0 ht (fun e b r2 h => hot b r2 (hb1 e) h) ho6⟩ (by
          show 2 * l6.length + (if e6 then 0 else 1) < 2 * (li2.length + 1) + 1
          have := ho6.len; cases e6 <;> simp <;> omega)
  · have hfin := hlast fun x r q1 q3 => by
      obtain ⟨e, -⟩ | ⟨e, -⟩ | ⟨e, -⟩ | ⟨e, -⟩ | ⟨e, -⟩ | ⟨e, -⟩ | ⟨e, -⟩ := kinv q1 q3 <;> omega
    have hvr : vb ≠ rb := by omega
    obtain ⟨hm1, hm2, hm3⟩ := h3.mark hk3 hblk3 hvr; obtain ⟨s3, -, hrc3⟩ := h3.ex; refine K.kgo ?_; refine WL.store rfl rfl rfl rfl rfl rfl (by kernel_rfl) (hrc3.cell 1 (by simp)) (hrc3.free 1) ?_; refine K.kgo ?_; exact WQ.meet (.mk 0 0 0 noT [] [], _, l2, true) ⟨rfl, rfl, trivial⟩ ⟨hm3, isVo_leaf (by omega) (by omega) (by omega) (by decide), hm1, hm2, hfin⟩

theorem dvalue_any : ∀ (m : Nat) {B rb : Nat} {w : World} {l : List Int} {bad : Bool} (d : Int), d = 17 - (m : Int) → m ≤ 16 → KD B w rb l bad → B ≤ w.heap.size → l.length ≤ 1000000 → Calls Try.prog 28 #[.pointer (some ⟨rb, 0, none⟩), .int .i64 d] w (DvPost m B rb w l bad)
  | 0, B, rb, w, l, bad, d, hd, _, h, hB, _ => by
    refine enter (args := [.pointer (some ⟨rb, 0, none⟩), .int .i64 d]) Try.func28 rfl Try.ntmps28 rfl ?_; refine K.kgo ?_; refine WL.alloc (z := .agg zCells.toArray) rfl rfl rfl rfl (fun _ => by kernel_rfl) fun ob w1 hf => ?_; have hf' : Fresh w ob w1 37 zCells := hf; clear hf; have hob := hf'.eq; have hrB := h.rlt; have h1 : KD B w1 rb l bad := h.keep (Keep.of_below hf'.below) fun b hb => Nat.lt_of_lt_of_le hb hB; have hk1 : KeepR rb w w1 := KeepR.below hf'.below; have hblk1 := hf'.blk; obtain ⟨s3, -, hrc3⟩ := h1.ex; obtain ⟨hm1, hm2, hm3⟩ := h1.mark hk1 hblk1 (by omega); refine K.kgo ?_; refine WL.store rfl rfl rfl rfl rfl rfl (by kernel_rfl) (hrc3.cell 1 (by simp)) (hrc3.free 1) ?_; refine K.kgo ?_; refine WL.build zCells rfl rfl rfl rfl rfl (by kernel_rfl) ?_; refine WL.storeRow rfl rfl rfl rfl rfl rfl hm3 rfl rfl (onesV 0 0 0) ?_; refine K.kgo ?_; exact WQ.retC rfl rfl rfl rfl (hm3.setRow _) ⟨_, _, l, true, rfl, zV_is _ _ _, hm1.keep (K := fun b => b ≠ ob) (Keep.setRow (Keep.refl _ _) (fun hk => hk rfl) _) (fun b hb => by show b ≠ ob; omega), Keep.setRow hm2 (fun hk => by have := hk.1; omega) _, .deep (Nat.le_refl _)⟩
  | m + 1, _, _, _, _, _, d, hd, hm, h, hB, hl => dvalue_step m (fun d hd h hB hl => dvalue_any m d hd (by omega) h hB hl) d hd hm h hB hl
end K
end Go.Proofs.Ytfpakjbaiohcaaa

namespace Go.Proofs.Ytfpakjbaiohcaaa
open Go.RowKit
namespace K

theorem take_snoc_eq {α : Type} {a b : List α} {i : Nat} (h : a.take i = b.take i) (ha : i < a.length) (hb : i < b.length) (he : a[i] = b[i]) : a.take (i + 1) = b.take (i + 1) := by
  rw [List.take_add_one, List.take_add_one, h, List.getElem?_eq_getElem ha, List.getElem?_eq_getElem hb, he]
theorem V.ext' {a b : V} (h1 : a.k = b.k) (h2 : a.n = b.n) (h3 : a.s = b.s) (h4 : a.t = b.t) (h5 : a.names = b.names) (h6 : a.kids = b.kids) : a = b := by
  cases a; cases b
  simp only [V.k, V.n, V.s, V.t, V.names, V.kids] at h1 h2 h3 h4 h5 h6; subst h1; subst h2; subst h3; subst h4; subst h5; subst h6
  rfl
theorem bytes_ne {a b : ByteArray} (h : ¬ a = b) : ¬ a.toList = b.toList := fun e => h (by
  rw [ByteArray.toList_eq, ByteArray.toList_eq] at e; exact ByteArray.ext (Array.toList_inj.1 e))

set_option maxHeartbeats 8000000 in
theorem equal_any : ∀ (f : Nat) {f2 : Nat} {w : World} {v1 v2 : V} {c1 c2 : List Value}, IsV f w v1 c1 → IsV f2 w v2 c2 →
    Calls Try.prog 27 #[.agg c1.toArray, .agg c2.toArray] w fun e w' => (∃ b, e = .returned (.bool b) ∧ (b = true ↔ v1 = v2)) ∧ Below w.heap.size w w'
  | 0, _, _, _, _, _, _, h, _ => h.elim
  | _ + 1, 0, _, _, _, _, _, _, h => h.elim
  | f + 1, f2 + 1, w, v1, v2, c1, c2, h1, h2 => by
    obtain ⟨sn1, sk1, rfl, -, -, -, -, hn1, hk1⟩ := h1; obtain ⟨sn2, sk2, rfl, -, -, -, -, hn2, hk2⟩ := h2; obtain ⟨np1, nc1, rfl, nl1, nm1, -, nr1⟩ := hn1; obtain ⟨np2, nc2, rfl, nl2, nm2, -, nr2⟩ := hn2; obtain ⟨kp1, kc1, rfl, kl1, km1, kr1⟩ := hk1; obtain ⟨kp2, kc2, rfl, kl2, km2, kr2⟩ := hk2; refine enter (args := [.agg (six v1 (.slice np1 v1.names.length nc1) (.slice kp1 v1.kids.length kc1)).toArray, .agg (six v2 (.slice np2 v2.names.length nc2) (.slice kp2 v2.kids.length kc2)).toArray]) Try.func27 rfl Try.ntmps27 rfl ?_; refine K.kgo ?_; refine WL.box rfl rfl rfl rfl rfl fun g1 w1 hf1 => ?_; have hf1' : Fresh w g1 w1 37 (six v1 (.slice np1 v1.names.length nc1) (.slice kp1 v1.kids.length kc1)) := hf1; clear hf1; refine WL.box rfl rfl rfl rfl rfl fun g2 w2 hf2 => ?_; have hf2' : Fresh w1 g2 w2 37 (six v2 (.slice np2 v2.names.length nc2) (.slice kp2 v2.kids.length kc2)) := hf2; clear hf2; have hb2 : Below w.heap.size w w2 := hf1'.below.trans (hf2'.below.mono hf1'.below.size); have B1 := hf1'.blk.below hf2'.below hf1'.blk.lt; have B2 := hf2'.blk; clear hf1' hf2'; have no : ∀ {wx : World}, Below w.heap.size w wx → ¬ v1 = v2 → (∃ b, Ending.returned (Value.bool false) = .returned (.bool b) ∧ (b = true ↔ v1 = v2)) ∧ Below w.heap.size w wx := fun h1 h2 => ⟨⟨false, rfl, by simp [h2]⟩, h1⟩; refine K.kgo ?_; refine WL.load rfl rfl rfl rfl rfl rfl (B1.cell 0 (by simp)) ?_; refine K.kgo ?_; refine WL.load rfl rfl rfl rfl rfl rfl (B2.cell 0 (by simp)) ?_
    by_cases e1 : v1.k = v2.k
    rotate_left
    · refine K.kgo ?_
      exact WQ.ret1 rfl rfl (no hb2 fun e => e1 (by rw [e]))
    refine K.kgo ?_; refine WL.load rfl rfl rfl rfl rfl rfl (B1.cell 1 (by simp)) ?_; refine K.kgo ?_; refine WL.load rfl rfl rfl rfl rfl rfl (B2.cell 1 (by simp)) ?_
    by_cases e2 : v1.n = v2.n
    rotate_left
    · refine K.kgo ?_
      exact WQ.ret1 rfl rfl (no hb2 fun e => e2 (by rw [e]))
    refine K.kgo ?_; refine WL.load rfl rfl rfl rfl rfl rfl (B1.cell 2 (by simp)) ?_; refine K.kgo ?_; refine WL.load rfl rfl rfl rfl rfl rfl (B2.cell 2 (by simp)) ?_
    by_cases e3 : v1.s = v2.s
    rotate_left
    · refine K.kgo ?_
      exact WQ.ret1 rfl rfl (no hb2 fun e => e3 (by rw [e]))
    refine K.kgo ?_; refine WL.load rfl rfl rfl rfl rfl rfl (B1.cell 3 (by simp)) ?_; refine K.kgo ?_; refine WL.load rfl rfl rfl rfl rfl rfl (B2.cell 3 (by simp)) ?_
    by_cases e4 : v1.t = v2.t
    rotate_left
    · refine WL.on rfl rfl ?_
      refine WL.pureAs (.bool true) rfl rfl rfl rfl (by simp [bytes_ne e4]) ?_; refine K.kgo ?_; exact WQ.ret1 rfl rfl (no hb2 fun e => e4 (by rw [e]))
    refine WL.on rfl rfl ?_; refine WL.pureAs (.bool false) rfl rfl rfl rfl (by simp [e4]) ?_; refine K.kgo ?_; refine WL.load rfl rfl rfl rfl rfl rfl (B1.cell 4 (by simp)) ?_; refine K.kgo ?_; refine WL.load rfl rfl rfl rfl rfl rfl (B2.cell 4 (by simp)) ?_
    by_cases e5 : v1.names.length = v2.names.length
    rotate_left
    · refine K.kgo ?_
      exact WQ.ret1 rfl rfl (no hb2 fun e => e5 (by rw [e]))
    refine K.kgo ?_; refine WL.load rfl rfl rfl rfl rfl rfl (B1.cell 5 (by simp)) ?_; refine K.kgo ?_; refine WL.load rfl rfl rfl rfl rfl rfl (B2.cell 5 (by simp)) ?_
    by_cases e6 : v1.kids.length = v2.kids.length
    rotate_left
    · refine K.kgo ?_
      exact WQ.ret1 rfl rfl (no hb2 fun e => e6 (by rw [e]))
    have hz2 := hb2.size; refine K.kgb ?_; refine WC.mid (fun _ : Unit => [(2, .pointer (some ⟨g1, 0, none⟩)), (3, .pointer (some ⟨g2, 0, none⟩))]) (fun _ wx => v1.names = v2.names ∧ Below w2.heap.size w2 wx) rfl ?_ ?_
    · refine K.kgo ?_
      refine WC.loop (fun i : Nat => [(2, .pointer (some ⟨g1, 0, none⟩)), (3, .pointer (some ⟨g2, 0, none⟩)), (5, .int .i64 i)]) (fun i wx => i ≤ v1.names.length ∧ v1.names.take i = v2.names.take i ∧ Below w2.heap.size w2 wx) (fun i => v1.names.length - i) 0 ⟨rfl, rfl, rfl, trivial⟩ ⟨Nat.zero_le _, by simp, Below.refl _ _⟩ ?_; rintro i wr ⟨hi, ht, hbr⟩; have R1 := B1.below hbr B1.lt; have R2 := B2.below hbr B2.lt; refine K.kgo ?_; refine WL.load rfl rfl rfl rfl rfl rfl (R1.cell 4 (by simp)) ?_
      by_cases hik : i < v1.names.length
      · obtain ⟨b1, o1, rfl, hlt1, hc1⟩ := nr1 (by omega)
        obtain ⟨b2, o2, rfl, hlt2, hc2⟩ := nr2 (by omega); have hc1 := hc1 i hik; have hc2 := hc2 i (by omega); have hbw : Below w.heap.size w wr := hb2.trans (hbr.mono hz2); refine K.kgo ?_; refine WC.drawn 10 (fun wx => wx.heap = wr.heap) fun w3 hd => ?_; have hS : w3.heap = wr.heap := hd.heap; have hb3 : Below w2.heap.size w2 w3 := hbr.trans (hd.below _); refine K.fr [0] hS ?_; refine K.wl 1 [3, 4, 10] rfl rfl rfl rfl rfl rfl rfl (fun wx hx => (heap_cell hx _).trans (R1.cell 4 (by simp))) hS ?_; refine K.fr [2] hS ?_; refine K.wi 3 i (o1 + i) rfl rfl rfl rfl rfl rfl rfl rfl rfl hik (by omega) (.inr hS) ?_; refine K.wl 4 [10] rfl rfl rfl rfl rfl rfl rfl (fun wx hx => (heap_cell hx _).trans ((hbw.cell (p := ⟨b1, o1 + i, none⟩) hlt1).trans hc1)) hS ?_; refine K.fr [5] hS ?_; refine K.wl 6 [8, 9, 10] rfl rfl rfl rfl rfl rfl rfl (fun wx hx => (heap_cell hx _).trans (R2.cell 4 (by simp))) hS ?_; refine K.fr [7] hS ?_; refine K.wi 8 i (o2 + i) rfl rfl rfl rfl rfl rfl rfl rfl rfl (by omega) (by omega) (.inr hS) ?_; refine K.wl 9 [10] rfl rfl rfl rfl rfl rfl rfl (fun wx hx => (heap_cell hx _).trans ((hbw.cell (p := ⟨b2, o2 + i, none⟩) hlt2).trans hc2)) hS ?_; refine K.wo 10 ?_; refine WL.pure rfl rfl rfl rfl ?_; refine K.dl ?_; refine WD.done (by kernel_rfl) ?_; refine K.kgo ?_; have hg1 : v1.names.getD i noT = v1.names[i] := by simp [hik]
        have hg2 : v2.names.getD i noT = v2.names[i] := by simp [show i < v2.names.length by omega]
        refine WC.condB rfl (fun hne => ?_) fun heq => ?_
        · refine K.kgo ?_
          refine WQ.ret1 rfl rfl (no (hb2.trans (hb3.mono hz2)) fun e => ?_); have h := congrArg (fun v => v.names.getD i noT) e; rw [h] at hne; simp at hne
        · refine K.kgo ?_
          refine WQ.again (i + 1) ⟨rfl, rfl, rfl, trivial⟩ ⟨hik, take_snoc_eq ht hik (by omega) ?_, hb3⟩ (by show v1.names.length - (i + 1) < v1.names.length - i; omega); rw [← hg1, ← hg2]; refine Classical.byContradiction fun hne => ?_; exact bytes_ne hne (by simpa using heq)
      · obtain rfl : i = v1.names.length := by omega
        refine K.kgo ?_; exact WQ.meet () ⟨rfl, rfl, trivial⟩ ⟨by rw [List.take_length, e5, List.take_length] at ht; exact ht, hbr⟩
    rintro _ w5 ⟨e7, hb5⟩; refine K.kgo ?_; refine WC.loop (fun i : Nat => [(2, .pointer (some ⟨g1, 0, none⟩)), (3, .pointer (some ⟨g2, 0, none⟩)), (6, .int .i64 i)]) (fun i wx => i ≤ v1.kids.length ∧ v1.kids.take i = v2.kids.take i ∧ Below w2.heap.size w2 wx) (fun i => v1.kids.length - i) 0 ⟨rfl, rfl, rfl, trivial⟩ ⟨Nat.zero_le _, by simp, hb5⟩ ?_; rintro i wr ⟨hi, ht, hbr⟩; have R1 := B1.below hbr B1.lt; have R2 := B2.below hbr B2.lt; refine K.kgo ?_; refine WL.load rfl rfl rfl rfl rfl rfl (R1.cell 5 (by simp)) ?_
    by_cases hik : i < v1.kids.length
    · obtain ⟨b1, o1, rfl, hlt1, hc1⟩ := kr1 (by omega)
      obtain ⟨b2, o2, rfl, hlt2, hc2⟩ := kr2 (by omega); obtain ⟨cs1, hl1, hv1, ha1⟩ := hc1 i hik; obtain ⟨cs2, hl2, hv2, ha2⟩ := hc2 i (by omega); have hbw : Below w.heap.size w wr := hb2.trans (hbr.mono hz2); have ha1' : ∀ {wx : World}, wx.heap = wr.heap → wx.rangeAt b1 (o1 + i * 6) cs1 := fun hx j u hu => (heap_cell hx _).trans ((hbw.cell (p := ⟨b1, o1 + i * 6 + j, none⟩) hlt1).trans (ha1 j u hu)); have ha2' : ∀ {wx : World}, wx.heap = wr.heap → wx.rangeAt b2 (o2 + i * 6) cs2 := fun hx j u hu => (heap_cell hx _).trans ((hbw.cell (p := ⟨b2, o2 + i * 6 + j, none⟩) hlt2).trans (ha2 j u hu)); refine K.kgo ?_; refine WC.drawn 10 (fun wx => wx.heap = wr.heap) fun w3 hd => ?_; have hS : w3.heap = wr.heap := hd.heap; have hb3 : Below w2.heap.size w2 w3 := hbr.trans (hd.below _); refine K.fr [0] hS ?_; refine K.wl 1 [3, 4, 10, 11] rfl rfl rfl rfl rfl rfl rfl (fun wx hx => (heap_cell hx _).trans (R1.cell 5 (by simp))) hS ?_; refine K.fr [2] hS ?_; refine K.wi 3 i (o1 + i * 6) rfl rfl rfl rfl rfl rfl rfl rfl rfl hik rfl (.inr hS) ?_; refine K.wm 4 [10, 11] rfl rfl rfl rfl rfl rfl rfl (fun wx hx => ha1' hx) hl1 hS ?_; refine K.fr [5] hS ?_; refine K.wl 6 [8, 9, 10, 11] rfl rfl rfl rfl rfl rfl rfl (fun wx hx => (heap_cell hx _).trans (R2.cell 5 (by simp))) hS ?_; refine K.fr [7] hS ?_; refine K.wi 8 i (o2 + i * 6) rfl rfl rfl rfl rfl rfl rfl rfl rfl (by omega) rfl (.inr hS) ?_; refine K.wm 9 [10, 11] rfl rfl rfl rfl rfl rfl rfl (fun wx hx => ha2' hx) hl2 hS ?_; refine K.wo 10 ?_; have hbw3 : Below w.heap.size w w3 := hb2.trans (hb3.mono hz2); refine WL.call rfl rfl rfl rfl rfl Try.func27 rfl (by kernel_rfl) (equal_any f (hv1.below hbw3) (hv2.below hbw3)) ?_; rintro _ w4 ⟨⟨b, rfl, hb⟩, hb4⟩; refine ⟨_, rfl, ?_⟩; have hb4' : Below w2.heap.size w2 w4 := hb3.trans (hb4.mono hb3.size); refine K.dl ?_; refine K.wo 11 ?_; refine WL.pure rfl rfl rfl rfl ?_; refine K.dl ?_; refine WD.done (by kernel_rfl) ?_; refine K.kgo ?_; have hg1 : v1.kids.getD i noV = v1.kids[i] := by simp [hik]
      have hg2 : v2.kids.getD i noV = v2.kids[i] := by simp [show i < v2.kids.length by omega]
      refine WC.condB rfl (fun hne => ?_) fun heq => ?_
      · refine K.kgo ?_
        refine WQ.ret1 rfl rfl (no (hb2.trans (hb4'.mono hz2)) fun e => ?_); have := hb.2 (by rw [e]); simp [this] at hne
      · refine K.kgo ?_
        refine WQ.again (i + 1) ⟨rfl, rfl, rfl, trivial⟩ ⟨hik, take_snoc_eq ht hik (by omega) ?_, hb4'⟩ (by show v1.kids.length - (i + 1) < v1.kids.length - i; omega); rw [← hg1, ← hg2]; exact hb.1 (by simpa using heq)
    · obtain rfl : i = v1.kids.length := by omega
      refine K.kgo ?_; refine WQ.ret1 rfl rfl ⟨⟨true, rfl, ⟨fun _ => ?_, fun _ => rfl⟩⟩, hb2.trans (hbr.mono hz2)⟩; rw [List.take_length, e6, List.take_length] at ht; exact V.ext' e1 e2 e3 e4 e7 ht
end K
end Go.Proofs.Ytfpakjbaiohcaaa

namespace Go.Proofs.Ytfpakjbaiohcaaa
open Go.RowKit
namespace K
set_option maxHeartbeats 4000000 in
theorem dValues_any (s : ByteArray) (hs : s.size ≤ 1000000) (w : World) : Calls Try.prog 15 #[.string s] w (ValsOut w s) := by
  refine enter (args := [.string s]) Try.func15 rfl Try.ntmps15 rfl ?_; have hsl := bytesI_len s; refine K.kgo ?_; refine WL.build [.string s, .bool false] rfl rfl rfl rfl rfl (by kernel_rfl) ?_; refine WL.box rfl rfl rfl rfl rfl fun rb w1 hf => ?_; have hf1 : Fresh w rb w1 61 [.string s, .bool false] := hf; clear hf; have hrbe := hf1.eq; have hz1 := hf1.size; have hr1 : KD (rb + 1) w1 rb (bytesI s) false := ⟨Nat.lt_succ_self _, s, rfl, hf1.blk⟩; have hb1 := hf1.below; clear hf1; refine K.kgb ?_; refine WC.mid (fun i : Value × List V × List Int × Bool => [(0, .string s), (4, .pointer (some ⟨rb, 0, none⟩)), (5, i.1)])
    (fun i wr => KD (rb + 1) wr rb i.2.2.1 i.2.2.2 ∧ Below w.heap.size w wr ∧ IsVs 17 wr i.1 i.2.1 ∧ TL (bytesI s) i.2.1 i.2.2.1 i.2.2.2 ∧ (i.2.2.2 = false → i.2.2.1 = [])) rfl ?_ ?_
  · refine WC.block ?_
    refine WC.loop (fun i : Value × List V × List Int × Bool => [(0, .string s), (4, .pointer (some ⟨rb, 0, none⟩)), (5, i.1)])
      (fun i wr => KD (rb + 1) wr rb i.2.2.1 i.2.2.2 ∧ Below w.heap.size w wr ∧ w.heap.size < wr.heap.size ∧ (∃ q : Nat → Prop, OwnE 37 6 noV (IsVo q 17 wr) (fun b => w.heap.size < b) wr i.1 i.2.1 ∧ ∀ b, q b → w.heap.size < b ∧ b < wr.heap.size ∧ i.1.ownBlock ≠ some b) ∧ TL (bytesI s) i.2.1 i.2.2.1 i.2.2.2)
      (fun i => 2 * i.2.2.1.length + (if i.2.2.2 then 0 else 1)) (.slice none 0 0, [], bytesI s, false) ⟨rfl, rfl, rfl, trivial⟩ ⟨hr1, hb1, by omega, ⟨fun _ => False, OwnE.nil _ _ _ _ _ _, fun b h => h.elim⟩, TL.start⟩ ?_
    clear hr1 hb1; rintro ⟨v5, ks, li, bi⟩ wr ⟨hr, hb, hgt, ⟨q, ho, hq⟩, hT⟩; simp only at hr hb hgt ho hq hT ⊢; have hcnt := hT.count; have hlw : li.length ≤ (bytesI s).length := by have := hT.wt 0; cases bi <;> simp at this <;> omega
    obtain ⟨sr, hsr, hrc⟩ := hr.ex; have hsrl := bytesI_len sr; rw [hsr] at hsrl; have hvs : IsVs 17 wr v5 ks := elsVs ho.els; have hc1 : wr.cell? ⟨rb, 1, none⟩ = some (.bool bi) := hrc.cell 1 (by simp); have hc0 : wr.cell? ⟨rb, 0, none⟩ = some (.string sr) := hrc.cell 0 (by simp); cases bi with
    | true =>
      refine K.kgl ?_; exact WQ.meet (v5, ks, li, true) ⟨rfl, rfl, rfl, trivial⟩ ⟨hr, hb, hvs, hT, fun h => by cases h⟩
    | false =>
      by_cases h0 : li = []
      · have hst := str_none (s := sr) (by rw [h0] at hsrl; simpa using hsrl.symm)
        refine K.kgl ?_; refine WC.as 22 (.bool false) rfl (congrArg Value.bool (by rw [hst]; rfl)) ?_; refine K.kgl ?_; exact WQ.meet (v5, ks, li, false) ⟨rfl, rfl, rfl, trivial⟩ ⟨hr, hb, hvs, hT, fun _ => h0⟩
      · have hl0 : 0 < li.length := List.length_pos_iff.2 h0
        have hst := str_some (s := sr) (by omega); refine K.kgl ?_; refine WC.as 22 (.bool true) rfl (congrArg Value.bool (by rw [hst]; rfl)) ?_; refine K.kgo ?_; refine WL.call rfl rfl rfl rfl rfl Try.func28 rfl (by kernel_rfl) (dvalue_any 16 1 rfl (by omega) hr (by omega) (by omega)) ?_; rintro _ w6 ⟨v, cs, l6, e6, rfl, hv6, hr6, hk6, ho6⟩; refine ⟨_, rfl, ?_⟩; have hz6 := hk6.size; have hown : ∀ g, v5.ownBlock = some g → w.heap.size < g ∧ g < wr.heap.size := fun g hg => ⟨ho.own hg, ho.lt hg⟩; have ho6' : OwnE 37 6 noV (IsVo q 17 w6) (fun b => w.heap.size < b) w6 v5 ks := ho.keep hk6 (fun g hg => ⟨(hown g hg).2, by have := (hown g hg).1; omega⟩) (fun _ h => h) fun x cs hx => hx.keep hk6 (fun b hb _ => ⟨(hq b hb).2.1, by have := (hq b hb).1; omega⟩) fun _ h => h; have hb6 : Below w.heap.size w w6 := hb.trans (Keep.below (Keep.mono hk6 fun b (hb : b < w.heap.size) => ⟨by omega, by omega⟩)); refine WL.lit1 rfl rfl rfl rfl rfl rfl rfl hv6.len ⟨by omega, by omega⟩ (by kernel_rfl) fun g7 w7 hf7 => ?_; have hz7 := hf7.size; have hge7 := hf7.eq; have ho7 : OwnE 37 6 noV (IsVo (fun b => q b ∨ (wr.heap.size ≤ b ∧ b < w6.heap.size)) 17 w7) (fun b => w.heap.size < b) w7 v5 ks := ho6'.keep (Keep.of_below hf7.below) (fun g hg => by have := (hown g hg).2; omega) (fun _ h => h) fun x cs hx => hx.keep (Keep.of_below hf7.below) (fun b _ h => h) fun _ h => .inl h; have hv7 : IsVo (fun b => q b ∨ (wr.heap.size ≤ b ∧ b < w6.heap.size)) 17 w7 v cs := hv6.there.keep (Keep.of_below hf7.below) (fun b _ h => h) fun b hb => .inr hb; have hr7 := hr6.keep (Keep.of_below hf7.below) fun b hb => by omega
        refine WL.snoc rfl rfl rfl rfl elemV6 rfl ho7 rfl hf7.blk hv6.one hv6.len hv7 (by omega) (by omega) fun v8 w8 ho8 hg8 => ?_; have hz8 := hg8.1.size; have hr8 := hr7.keep hg8.1 fun b hb => ⟨by omega, fun e => by have := (hown b e).1; omega⟩; have hb8 : Below w.heap.size w w8 := (hb6.trans (hf7.below.mono (by omega))).trans (hg8.old (by omega) fun g hg => by have := (hown g hg).1; omega); have hown8 : ∀ g, v8.ownBlock = some g → v5.ownBlock = some g ∨ w7.heap.size ≤ g := hg8.2; refine K.kgo ?_; refine WQ.again (v8, ks ++ [v], l6, e6) ⟨rfl, rfl, rfl, trivial⟩ ⟨hr8, hb8, by omega, ⟨fun b => q b ∨ (wr.heap.size ≤ b ∧ b < w6.heap.size), ?_, fun b hbq => ?_⟩, hT.step h0 ho6⟩ ?_
        · refine ho8.keep (Keep.refl (fun _ => True) w8) (fun _ _ => trivial) (fun b hb => hb.elim id fun e => by omega) fun x cs hx => hx.keep hg8.1 (fun b hbq _ => ?_) fun _ h => h
          rcases hbq with hbq | hbq
          · exact ⟨by have := (hq b hbq).2.1; omega, (hq b hbq).2.2⟩
          · exact ⟨by omega, fun e => by have := (hown b e).2; omega⟩
        · rcases hbq with hbq | hbq
          · exact ⟨(hq b hbq).1, by have := (hq b hbq).2.1; omega, fun e => (hown8 b e).elim (hq b hbq).2.2 fun h => by have := (hq b hbq).2.1; omega⟩
          · exact ⟨by omega, by omega, fun e => (hown8 b e).elim (fun e => by have := (hown b e).2; omega) fun h => by omega⟩
        · show 2 * l6.length + (if e6 then 0 else 1) < 2 * li.length + 1
          have := ho6.len; cases e6 with
          | true => simp; omega
          | false => have := ho6.less; simp; omega
  clear hr1 hb1; rintro ⟨v5, ks, li, bi⟩ wr ⟨hr, hb, hvs, hT, hli⟩; simp only at hr hb hvs hT hli ⊢; have hcnt := hT.count; have hwr := isVs_wr hvs; have hsz : (keysV 16 ks).length ≤ 64 * (bytesI s).length + 1 := by
    have := hT.wt 16; unfold keysV; generalize (ks.flatMap (keyV 16)).length = A at this ⊢; cases bi <;> simp at this <;> omega
  have hwz := hb.size; obtain ⟨s2, -, hrc⟩ := hr.ex; have hend := fun h => hT.end_bad hwr hli h; refine K.kgo ?_; refine WL.load rfl rfl rfl rfl rfl rfl (hrc.cell 1 (by simp)) ?_; cases bi with
  | true =>
    refine K.kgo ?_; exact WQ.ret2 rfl rfl rfl ⟨hb, _, [], 3, rfl, isVs_none _ _, .inr ⟨rfl, rfl, hend (.inl rfl)⟩⟩
  | false =>
    have hok := @TL.end_ok ks s hwr (by have := hli rfl; rw [this] at hT; exact hT); have hkey : firstBad (ks.map (chk 16)) = 0 → keyOf ks = s → strOfNums (keysV 16 ks) = s := fun h1 h2 => by unfold keyOf at h2; rwa [if_pos h1] at h2
    refine K.kgo ?_; refine WL.call rfl rfl rfl rfl rfl Try.func9 rfl (by kernel_rfl) (rKey_any hvs (Below.refl _ _) (by omega) fun _ => by omega) ?_; rintro _ w2 ⟨rfl, hb2⟩; refine ⟨_, rfl, ?_⟩; have hbb : Below w.heap.size w w2 := hb.trans (hb2.mono hb.size); have hvs2 := hvs.below hb2; generalize firstBad (ks.map (chk 16)) = er at hend hok hkey ⊢
    by_cases he : er = 0
    · by_cases hks : keyOf ks = s
      · have hkk : strOfNums (keysV 16 ks) = s := hkey he hks
        obtain ⟨g1, g2, g3⟩ := hok he hkk; rw [hks]; refine K.kgo ?_; refine WC.as 43 (.bool false) rfl (congrArg Value.bool (by simp)) ?_; refine K.kgo ?_; exact WQ.ret2 rfl rfl rfl ⟨hbb, _, ks, 0, rfl, hvs2, .inl ⟨rfl, g1, g2, g3⟩⟩
      · refine K.kgo ?_
        refine WC.as 43 (.bool true) rfl (congrArg Value.bool (by
          rw [Bool.not_eq_true', beq_eq_false_iff_ne]; intro h
          apply hks
          apply ByteArray.ext
          apply Array.toList_inj.1
          rw [← ByteArray.toList_eq, ← ByteArray.toList_eq]; exact h)) ?_
        refine K.kgo ?_; exact WQ.ret2 rfl rfl rfl ⟨hbb, _, [], 3, rfl, isVs_none _ _, .inr ⟨rfl, rfl, hend (.inr (.inr hks))⟩⟩
    · refine K.kgo ?_
      exact WQ.ret2 rfl rfl rfl ⟨hbb, _, [], 3, rfl, isVs_none _ _, .inr ⟨rfl, rfl, hend (.inr (.inl he))⟩⟩
theorem vals8_any {f1 f2 : Nat} {w : World} {a b : Value} {l : List V} (h1 : IsVs f1 w a l) (h2 : IsVs f2 w b l) :
    Calls Try.prog 14 #[a, b] w fun e w' => e = .returned (.bool true) ∧ Below w.heap.size w w' := by
  obtain ⟨sp1, cap1, rfl, hc1, hm1, hr1⟩ := h1; obtain ⟨sp2, cap2, rfl, -, -, hr2⟩ := h2; refine enter (args := [.slice sp1 l.length cap1, .slice sp2 l.length cap2]) Try.func14 rfl Try.ntmps14 rfl ?_; refine K.kgo ?_; refine WC.loop (fun i : Nat => [(0, .slice sp1 l.length cap1), (1, .slice sp2 l.length cap2), (5, .int .i64 i)]) (fun i w' => i ≤ l.length ∧ Below w.heap.size w w') (fun i => l.length - i) 0 ⟨rfl, rfl, rfl, trivial⟩
    ⟨Nat.zero_le _, Below.refl _ _⟩ ?_
  rintro i wr ⟨hi, hb⟩
  by_cases hik : i < l.length
  · obtain ⟨kb1, ko1, rfl, hkb1, hcells1⟩ := hr1 (by omega)
    obtain ⟨kb2, ko2, rfl, hkb2, hcells2⟩ := hr2 (by omega); obtain ⟨c1, hc61, hci1, hcr1⟩ := hcells1 i hik; obtain ⟨c2, hc62, hci2, hcr2⟩ := hcells2 i hik; have x1 : wr.rangeAt kb1 (ko1 + i * 6) c1 := fun j u hu => by rw [hb.cell (p := ⟨kb1, ko1 + i * 6 + j, none⟩) hkb1]; exact hcr1 j u hu
    have x2 : wr.rangeAt kb2 (ko2 + i * 6) c2 := fun j u hu => by rw [hb.cell (p := ⟨kb2, ko2 + i * 6 + j, none⟩) hkb2]; exact hcr2 j u hu
    refine K.kgo ?_; refine WC.drawn 8 (fun wx => wx.heap = wr.heap) fun w2 hd => ?_; have hb2 : Below w.heap.size w w2 := hb.trans (hd.below _); have hS : w2.heap = wr.heap := hd.heap; refine K.fr [0, 1] hS ?_; refine K.wi 2 i (ko1 + i * 6) rfl rfl rfl rfl rfl rfl rfl rfl rfl hik rfl (.inr hS) ?_; refine K.wm 3 [8, 9] rfl rfl rfl rfl rfl rfl rfl (fun wx hx j u hu => (heap_cell hx _).trans (x1 j u hu)) hc61 hS ?_; refine K.fr [4, 5] hS ?_; refine K.wi 6 i (ko2 + i * 6) rfl rfl rfl rfl rfl rfl rfl rfl rfl hik rfl (.inr hS) ?_; refine K.wm 7 [8, 9] rfl rfl rfl rfl rfl rfl rfl (fun wx hx j u hu => (heap_cell hx _).trans (x2 j u hu)) hc62 hS ?_; refine K.wo 8 ?_; refine WL.call rfl rfl rfl rfl rfl Try.func27 rfl (by kernel_rfl) (equal_any f1 (hci1.below hb2) (hci2.below hb2)) ?_; rintro _ w3 ⟨⟨eb, rfl, heb⟩, hk3⟩; refine ⟨_, rfl, ?_⟩; obtain rfl : eb = true := heb.2 rfl; refine K.dl ?_
    (refine K.fzl 9 rfl (q := ?_))
    refine WD.done (by kernel_rfl) ?_; refine K.kgo ?_; exact WQ.again (i + 1) ⟨rfl, rfl, rfl, trivial⟩ ⟨hik, hb2.trans (hk3.mono hb2.size)⟩ (by show l.length - (i + 1) < l.length - i; omega)
  · obtain rfl : i = l.length := by omega
    refine K.kgo ?_; exact WQ.ret1 rfl rfl ⟨rfl, hb⟩
end K
end Go.Proofs.Ytfpakjbaiohcaaa

namespace Go.Proofs.Ytfpakjbaiohcaaa
open Go.RowKit
namespace Ord

set_option maxRecDepth 100000 in
set_option maxHeartbeats 2000000 in
theorem rabove_any (s : ByteArray) (w : World) (hs : s.size ≤ 4611686018427387904) :
    Calls Try.prog 16 #[.string s] w fun e w' => (∃ t, e = .returned (.tuple #[.string t, .bool (!(strip s.toList).isEmpty)]) ∧ t.toList = bump (strip s.toList)) ∧ Below w.heap.size w w' := by
  go_enter Try.func16, Try.ntmps16
  go_wp2_with fail
  go_loopw [0] (fun x wr => ∃ t : ByteArray, x = .string t ∧ strip t.toList = strip s.toList ∧ t.size ≤ s.size ∧ wr = w) (fun x _ => (match x with | .string t => t.size | _ => 0))
  case atStart => exact ⟨s, rfl, rfl, Nat.le_refl _, rfl⟩
  case round =>
    obtain ⟨t, rfl, ht, hts, rfl⟩ := hrel
    by_cases h0 : t.size = 0
    · have g0 : (t.size : Int) ≤ 0 := by omega
      have ht0 : t.toList = [] := list_empty h0; have Hst := Hid2.mk (show strip s.toList = [] by rw [← ht, ht0]; rfl); have hem : t.toList.isEmpty = true := by rw [ht0]; rfl
      clear ht ht0
      go_wp2_with fail
      go_ret2
      rw [Hst.out]; exact ⟨⟨ByteArray.mk #[], rfl, list_empty rfl⟩, Below.refl _ _⟩
    · have g0 : (0 : Int) < t.size := by omega
      obtain ⟨k, hk⟩ : ∃ k, t.size = k + 1 := ⟨t.size - 1, by omega⟩; have hkl : k < t.size := by omega
      have e1 : (t.size : Int) - 1 = (k : Nat) := by omega
      have hsp := list_split hk
      by_cases h255 : (t[k]'hkl) = 255
      · rw [h255] at hsp
        have Hsp := Hid2.mk hsp; clear hsp
        go_wp2_with fail
        refine ⟨⟨_, rfl, ?_, ?_, trivial⟩, ?_⟩
        · rw [← ht, Hsp.out, strip_top]
        · have : (t.extract 0 k).size = k := by simp; omega
          omega
        · have : (t.extract 0 k).size = k := by simp; omega
          show (t.extract 0 k).size < t.size
          omega
      · have Hsp := Hid2.mk hsp
        have hem : t.toList.isEmpty = false := by rw [hsp]; simp
        have h2 : ¬ (t[k]'hkl).toNat = 255 := fun e => h255 (UInt8.toNat.inj e); have g255 : (((t[k]'hkl).toNat : Int) == 255) = false := beq_eq_false_iff_ne.2 (by omega); clear hsp
        go_wp2_with fail
        have hwk : IntKind.i64.wrap (k : Int) = (k : Int) := IntWalk.i64_in _ (by omega); have hkk : (k : Int) ≤ (k : Int) + 1 := by omega
        have hwc : IntKind.u8.wrap (((t[k]'hkl).toNat : Int) + 1) = (((t[k]'hkl) + 1).toNat : Int) := by
          have h1 := (t[k]'hkl).toNat_lt; rw [UInt8.toNat_add, IntKind.wrap_u8]; simp
        refine wp_region_till 11 (fun _ => True) (by kernel_rfl) ?_; have hS : True := trivial; refine till_free (i := 0) rfl (by kernel_rfl) (by kernel_rfl) (by kernel_rfl) rfl (fun _ _ _ h => h) (.inr hS) (by rfl) (fun _ => by first | (go_simp; done) | (go_simp; with_reducible rfl)) ?_; refine till_free (i := 1) rfl (by kernel_rfl) (by kernel_rfl) (by kernel_rfl) rfl (fun _ _ _ h => h) (.inr hS) (by rfl) (fun _ => by first | (go_simp; done) | (go_simp; with_reducible rfl)) ?_; refine till_free (i := 2) rfl (by kernel_rfl) (by kernel_rfl) (by kernel_rfl) rfl (fun _ _ _ h => h) (.inr hS) (by rfl) (fun _ => by first | (go_simp; done) | (go_simp; with_reducible rfl)) ?_; refine till_free (i := 3) rfl (by kernel_rfl) (by kernel_rfl) (by kernel_rfl) rfl (fun _ _ _ h => h) (.inr hS) (by rfl) (fun _ => by first | (go_simp; done) | (go_simp; with_reducible rfl)) ?_; refine till_free (i := 4) rfl (by kernel_rfl) (by kernel_rfl) (by kernel_rfl) rfl (fun _ _ _ h => h) (.inr hS) (by rfl) (fun _ => by first | (go_simp; done) | (go_simp; with_reducible rfl)) ?_; refine till_free (i := 5) rfl (by kernel_rfl) (by kernel_rfl) (by kernel_rfl) rfl (fun _ _ _ h => h) (.inr hS) (by rfl) (fun _ => by first | (go_simp; done) | (go_simp; with_reducible rfl)) ?_; refine till_free (i := 6) rfl (by kernel_rfl) (by kernel_rfl) (by kernel_rfl) rfl (fun _ _ _ h => h) (.inr hS) (by rfl) (fun _ => by first | (go_simp; done) | (go_simp; with_reducible rfl)) ?_; refine till_free (i := 7) rfl (by kernel_rfl) (by kernel_rfl) (by kernel_rfl) rfl (fun _ _ _ h => h) (.inr hS) (by rfl) (fun _ => by first | (go_simp; done) | (go_simp; with_reducible rfl)) ?_; refine till_free (i := 8) rfl (by kernel_rfl) (by kernel_rfl) (by kernel_rfl) rfl (fun _ _ _ h => h) (.inr hS) (by rfl) (fun _ => by first | (go_simp; done) | (go_simp; with_reducible rfl)) ?_; refine till_free (i := 9) rfl (by kernel_rfl) (by kernel_rfl) (by kernel_rfl) rfl (fun _ _ _ h => h) (.inr hS) (by rfl) (fun _ => by first | (go_simp; done) | (go_simp; with_reducible rfl)) ?_; refine till_free (i := 10) rfl (by kernel_rfl) (by kernel_rfl) (by kernel_rfl) rfl (fun _ _ _ h => h) (.inr hS) (by rfl) (fun _ => by first | (go_simp; done) | (go_simp; with_reducible rfl)) ?_
        conv => { arg 9; simp [go_sem] }
        refine till_one (i := 11) (by kernel_rfl) rfl ?_; intro K hK
        go_simp
        refine hK _ _ (.inl rfl) ?_; clear hK K; have hcv := run_convert_bytes_arg (P := Try.prog) (wr.alloc (.cells #[.int .u8 (((t[k]'hkl).toNat + 1) % 256)] 5)).drew 47 5 Try.underlying47 Try.underlying5 wr.heap.size 0 1 1 [((t[k]'hkl).toNat + 1) % 256] rfl (fun i hi => by
          obtain rfl : i = 0 := by omega
          exact ((VBlk.mk wr [.int .u8 (((t[k]'hkl).toNat + 1) % 256)] 5).drewN 1).cell 0 (by simp)) 9 Try.underlying9
        have hbw : Below wr.heap.size wr (wr.alloc (.cells #[.int .u8 (((t[k]'hkl).toNat + 1) % 256)] 5)).drew := ((Keep.of_below ((Below.refl _ wr).alloc (Nat.le_refl _) _)).drewN 1).below; have hnum : (strOfNums [(((t[k]'hkl).toNat : Int) + 1) % 256]).toList = [(t[k]'hkl) + 1] := by
          rw [ByteArray.toList_eq, strOfNums_data]; have h1 := (t[k]'hkl).toNat_lt; have e : ((((t[k]'hkl).toNat : Int) + 1) % 256).toNat = (t[k]'hkl).toNat + 1 := by omega
          simp only [List.map_cons, List.map_nil, e]
          congr 1
        have hsz := strOfNums_size [(((t[k]'hkl).toNat : Int) + 1) % 256]; have hu : (t.extract 0 k).size = k := by simp; omega
        have Hbw := Hid2.mk hbw; have Hnum := Hid2.mk hnum; clear hbw hnum; generalize strOfNums [(((t[k]'hkl).toNat : Int) + 1) % 256] = x at hcv Hnum hsz; generalize t.extract 0 k = u at Hsp hu ⊢; refine till_one (i := 12) (by kernel_rfl) rfl ?_; intro K hK
        go_simp
        refine hK _ _ (.inl rfl) ?_; clear hK K; have hx1 : x.size = 1 := by simpa using hsz
        have hsum3 : ¬ 9223372036854775807 < k + 1 := by omega
        have hsum : ¬ (9223372036854775807 : Int) < ((u.size : Int) + (x.size : Int)) := by omega
        have hsum2 : ((u.size : Int) + (x.size : Int)) ≤ (9223372036854775807 : Int) := by omega
        clear hcv
        conv => { arg 9; simp [go_sem] }
        refine till_free (i := 13) rfl (by kernel_rfl) (by kernel_rfl) (by kernel_rfl) rfl (fun _ _ _ h => h) (.inl rfl) (by rfl) (fun _ => by first | (go_simp; done) | (go_simp; with_reducible rfl)) ?_; refine till_free (i := 14) rfl (by kernel_rfl) (by kernel_rfl) (by kernel_rfl) rfl (fun _ _ _ h => h) (.inl rfl) (by rfl) (fun _ => by first | (go_simp; done) | (go_simp; with_reducible rfl)) ?_; refine till_free (i := 15) rfl (by kernel_rfl) (by kernel_rfl) (by kernel_rfl) rfl (fun _ _ _ h => h) (.inl rfl) (by rfl) (fun _ => by first | (go_simp; done) | (go_simp; with_reducible rfl)) ?_; refine till_done (by kernel_rfl) ?_ _; have Hst := Hid2.mk (show strip s.toList = u.toList ++ [t[k]'hkl] by rw [← ht, Hsp.out, strip_low _ h255])
        go_wp2_with fail
        go_ret2
        rw [Hst.out]; refine ⟨⟨u ++ x, by simp, ?_⟩, Hbw.out⟩; rw [bump_end, ByteArray.toList_eq, ByteArray.data_append, Array.toList_append, ← ByteArray.toList_eq, ← ByteArray.toList_eq, Hnum.out]

end Ord
end Go.Proofs.Ytfpakjbaiohcaaa

namespace Go.Proofs.Ytfpakjbaiohcaaa
open Go.RowKit
namespace K
theorem bytes_same {s t : ByteArray} (h : s.toList = t.toList) : s = t := by
  apply ByteArray.ext
  apply Array.toList_inj.1
  rw [← ByteArray.toList_eq, ← ByteArray.toList_eq]; exact h
set_option maxHeartbeats 2000000 in
theorem back8_law {f : Nat} {w : World} {sl : Value} {l : List V} (s : ByteArray) (h : IsVs f w sl l) (hsm : ∀ x ∈ l, Sml f x) (hl : l.length ≤ 9223372036854775807) :
    Calls Try.prog 6 #[sl, .string s] w fun e w' => e = .returned (.bool true) ∧ Below w.heap.size w w' := by
  refine enter (args := [sl, .string s]) Try.func6 rfl Try.ntmps6 rfl ?_; refine K.kgo ?_; refine WL.call rfl rfl rfl rfl rfl Try.func7 rfl (by kernel_rfl) (heavy_any h hsm (Below.refl _ _)) ?_; rintro e w1 ⟨rfl, hb1⟩; refine ⟨_, rfl, ?_⟩
  by_cases hbig : 2000 < grtK 2000 (grt 2000 f) l 0
  · refine K.kgo ?_
    exact WQ.ret1 rfl rfl ⟨rfl, hb1⟩
  by_cases hsb : 2000 < s.size
  · refine K.kgo ?_
    exact WQ.ret1 rfl rfl ⟨rfl, hb1⟩
  have hlen : firstBad (l.map (chk 16)) = 0 → (keysV 16 l).length ≤ 200000 := fun hc => by have := grt_keys hsm hbig hc; omega
  refine K.kgo ?_; refine WL.call rfl rfl rfl rfl rfl Try.func8 rfl (by kernel_rfl) (Key_any (h.below hb1) hl fun hc => by have := hlen hc; omega) ?_; rintro e w2 ⟨rfl, hb2⟩; refine ⟨_, rfl, ?_⟩; replace hb2 : Below w.heap.size w w2 := hb1.trans (hb2.mono hb1.size); have hwr := isVs_wr h; have hg := good_bad hwr; have hko : firstBad (l.map (chk 16)) = 0 → keyOf l = strOfNums (keysV 16 l) := fun hc => by unfold keyOf; rw [if_pos hc]
  generalize firstBad (l.map (chk 16)) = e0 at hlen hg hko ⊢; refine K.kgo ?_; refine WC.mid (fun _ : Unit => [(1, .string s)]) (fun _ w' => Below w.heap.size w w') rfl ?_ ?_
  · by_cases h0 : e0 = 0
    · refine WC.condT rfl h0 ?_
      have hks : (keyOf l).size ≤ 1000000 := by
        rw [hko h0]; have := hlen h0
        show ((keysV 16 l).map _).toArray.size ≤ _
        simp
        omega
      refine K.kgo ?_; refine WL.call rfl rfl rfl rfl rfl Try.func13 rfl (by kernel_rfl) (Values_any (keyOf l) hks w2) ?_; rintro _ w3 ⟨hb3, m, l3, er, rfl, hv3, hd3⟩; refine ⟨_, rfl, ?_⟩; have hgood := hg.1 h0; have hkey : keysV 16 l = bytesI (keyOf l) := by rw [hko h0, bytesK_strOf (good_keys hgood)]
      have hb13 : Below w.heap.size w w3 := hb2.trans (hb3.mono hb2.size); rcases hd3 with ⟨rfl, -, -, hu⟩ | ⟨rfl, -, hu⟩
      · obtain rfl := hu l hgood hkey
        refine K.kgo ?_; refine WL.call rfl rfl rfl rfl rfl Try.func14 rfl (by kernel_rfl) (vals8_any hv3 (h.below hb13)) ?_; rintro _ w4 ⟨rfl, hb4⟩; refine ⟨_, rfl, ?_⟩; refine K.kgo ?_; exact WQ.meet () ⟨rfl, trivial⟩ (hb13.trans (hb4.mono hb13.size))
      · exact (hu l hgood hkey).elim
    · refine WC.condF rfl h0 ?_
      refine K.kgo ?_; exact WQ.meet () ⟨rfl, trivial⟩ hb2
  rintro _ w3 hb3; refine K.kgo ?_; refine WL.call rfl rfl rfl rfl rfl Try.func13 rfl (by kernel_rfl) (Values_any s (by omega) w3) ?_; rintro _ w4 ⟨hb4, va, la, ea, rfl, hva, hda⟩; refine ⟨_, rfl, ?_⟩; have hb34 : Below w.heap.size w w4 := hb3.trans (hb4.mono hb3.size); refine K.kgo ?_; refine WL.call rfl rfl rfl rfl rfl Try.func15 rfl (by kernel_rfl) (dValues_any s (by omega) w4) ?_; rintro _ w5 ⟨hb5, vb, lb, eb, rfl, hvb, hdb⟩; refine ⟨_, rfl, ?_⟩; have hb35 : Below w.heap.size w w5 := hb34.trans (hb5.mono hb34.size); have hva5 := hva.below hb5; have hsame : la = lb ∧ ea = eb := by
    rcases hda with ⟨rfl, a1, a2, a3⟩ | ⟨rfl, a1, a2⟩
    · rcases hdb with ⟨rfl, b1, b2, b3⟩ | ⟨rfl, b1, b2⟩
      · exact ⟨b3 la a1 a2, rfl⟩
      · exact (b2 la a1 a2).elim
    · rcases hdb with ⟨rfl, b1, b2, b3⟩ | ⟨rfl, b1, b2⟩
      · exact (a2 lb b1 b2).elim
      · exact ⟨by rw [a1, b1], rfl⟩
  obtain ⟨rfl, rfl⟩ := hsame; clear hda hdb hva; refine K.kgo ?_; refine WL.call rfl rfl rfl rfl rfl Try.func11 rfl (by kernel_rfl) (Ord.above_any s w5 (by omega)) ?_; rintro _ w6 ⟨⟨t1, rfl, ht1⟩, hb6⟩; refine ⟨_, rfl, ?_⟩; have hb36 : Below w.heap.size w w6 := hb35.trans (hb6.mono hb35.size); refine K.kgo ?_; refine WL.call rfl rfl rfl rfl rfl Try.func16 rfl (by kernel_rfl) (Ord.rabove_any s w6 (by omega)) ?_; rintro _ w7 ⟨⟨t2, rfl, ht2⟩, hb7⟩; refine ⟨_, rfl, ?_⟩; have hb37 : Below w.heap.size w w7 := hb36.trans (hb7.mono hb36.size); obtain rfl : t1 = t2 := bytes_same (ht1.trans ht2.symm); generalize (!(Ord.strip s.toList).isEmpty) = ab; have hb57 : Below w5.heap.size w5 w7 := hb6.trans (hb7.mono hb6.size); refine K.kgo ?_; refine WL.call rfl rfl rfl rfl rfl Try.func14 rfl (by kernel_rfl) (vals8_any (hva5.below hb57) (hvb.below hb57)) ?_; rintro _ w8 ⟨rfl, hb8⟩; refine ⟨_, rfl, ?_⟩; have hb38 : Below w.heap.size w w8 := hb37.trans (hb8.mono hb37.size); refine K.kgo ?_; refine WL.as 77 (.bool true) rfl (congrArg Value.bool (by simp)) ?_; refine K.kgo ?_; refine WL.as 82 (.bool true) rfl (congrArg Value.bool (by simp)) ?_; refine K.kgo ?_; refine WL.call rfl rfl rfl rfl rfl Try.func10 rfl (by kernel_rfl) (known_any w8) ?_; rintro e w9 ⟨rfl, hb9⟩; refine ⟨_, rfl, ?_⟩; refine K.kgo ?_; exact WQ.ret1 rfl rfl ⟨rfl, hb38.trans (hb9.mono hb38.size)⟩
end K
end Go.Proofs.Ytfpakjbaiohcaaa
