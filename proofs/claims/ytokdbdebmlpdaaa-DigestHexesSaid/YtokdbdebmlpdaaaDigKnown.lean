/- digest's laws: leaves, and two digests that are known. -/
import Derived.Test.YtokdbdebmlpdaaaDigHex
import Derived.Test.YtokdbdebmlpdaaaDigLawA
import Derived.Lib.SlBytesConst
namespace Go.Proofs.Ytokdbdebmlpdaaa
open Go.RowKit
namespace Dig

set_option maxRecDepth 100000 in
set_option maxHeartbeats 1000000 in
theorem leaf_any (v : Value) (l : List Int) (w : World) (hv : Sl .u8 w v l) (hn : l.length ≤ 35184372088832) :
    Calls Try.prog 11 #[v] w fun e w' => e = .returned (.agg ((sumL (0 :: l)).map (Value.int .u8)).toArray) ∧ Below w.heap.size w w' := by
  have hv2 := hv
  obtain ⟨sp, cap, rfl, -, -, -, -⟩ := hv2
  have hz25 := zero25
  have hB0 := VBlk.mk w (Z32.map (Value.int .u8)) 25
  have hbel0 : Below w.heap.size w (w.alloc (.cells (Z32.map (Value.int .u8)).toArray 25)) := (Below.refl _ w).alloc (Nat.le_refl _) _
  obtain ⟨W0, hW0⟩ : ∃ W0, W0 = w.alloc (.cells (Z32.map (Value.int .u8)).toArray 25) := ⟨_, rfl⟩
  have hs0 : W0.heap.size = w.heap.size + 1 := by rw [hW0]; simp
  rw [← hW0] at hB0 hbel0
  have hE0 : Buf .u8 5 (W0.alloc (.cells #[.int .u8 0] 5)) (w.heap.size + 1) (.slice (some ⟨w.heap.size + 1, 0, none⟩) 1 1) [0] := by
    have := Buf.mk (k := .u8) (e := 5) (w := W0) (base := w.heap.size + 1) [0] [] (by omega) (by decide)
    rw [hs0] at this
    exact this
  have hSe : Sl .u8 (W0.alloc (.cells #[.int .u8 0] 5)) (.slice sp l.length cap) l := hv.of_below (hbel0.alloc (by omega) _)
  rw [hW0] at hE0 hSe
  have HE0 := Hid2.mk hE0
  have HSe := Hid2.mk hSe
  have HW0 := Hid2.mk hW0
  clear hE0 hSe hW0
  go_enter Try.func11, Try.ntmps11
  go_wp2_with (refine wpList_app rfl (.tmp 3) (.tmp 4) 22 rfl elemBytes (w.heap.size + 1) _ [0] rfl HE0.out _ l rfl HSe.out (l.length + 1) ?h1 ?h2 ?h3 ?h4 ?h5)
  case h1 => simp; omega
  case h2 => unfold maxLen; omega
  case h3 => omega
  case h4 => simp
  case h5 =>
    intro sp1 c1 w1 hb1 hk1
    rw [← HW0.out] at hk1
    have hk2 : Keep (fun k => k < w.heap.size + 1) W0 w1 := ((Keep.refl _ W0).alloc (fun k (hk : k < w.heap.size + 1) => by omega) _).trans hk1
    have hB1 := hB0.keep hk2 (by omega)
    have hb2 : Below w.heap.size w w1 := hbel0.trans (hk2.mono (fun k (hk : k < w.heap.size) => by omega)).below
    have hsl : Sl .u8 w1 (.slice sp1 (l.length + 1) c1) (0 :: l) := hb1.sl
    have hln : (0 :: l).length ≤ 1152921504606846975 := by simp; omega
    clear hb1 hk1 hk2 HE0 HSe HW0 hB0 hbel0 hv hz25
    go_wp2_with fail
    refine (sum_any _ _ _ hsl hln).mono ?_
    rintro e w2 ⟨rfl, hb3⟩
    have hB2 := hB1.below hb3 hB1.lt
    have hbf : Below w.heap.size w w2 := hb2.trans (hb3.mono hb2.size)
    obtain ⟨hh, hhe⟩ : ∃ hh, hh = sumL (0 :: l) := ⟨_, rfl⟩
    have hhl : hh.length = 32 := by rw [hhe]; exact sumL_length _
    rw [← hhe]
    have hgH : w2.heap[w.heap.size]? = some (.cells (Z32.map (Value.int .u8)).toArray 25 (0, 0)) := hB2
    have hi25 : (Try.prog.info? 25).map (·.size) = some (hh.map (Value.int .u8)).toArray.size := by
      rw [List.size_toArray, List.length_map, hhl]; kernel_rfl
    have hi26 : (Z32.map (Value.int .u8)).toArray.size = (hh.map (Value.int .u8)).toArray.size := by
      rw [List.size_toArray, List.length_map, List.size_toArray, List.length_map, hhl]; rfl
    have hone : (hh.map (Value.int .u8)).toArray.all (·.oneCell') = true := by simp [Value.oneCell']
    have Hhe := Hid2.mk hhe
    have HgH := Hid2.mk hgH
    have Hi25 := Hid2.mk hi25
    have Hi26 := Hid2.mk hi26
    have Hone := Hid2.mk hone
    clear hgH hi25 hi26 hone hB1 hB2 hb2 hb3 hsl hln hhe hhl
    go_wp2_with (refine wpList_store_row rfl 25 (.tmp 2) (.tmp 6) rfl w.heap.size (hh.map (Value.int .u8)).toArray rfl rfl 25 (Z32.map (Value.int .u8)).toArray HgH.out Hi25.out Hi26.out Hone.out ?_)
    refine bodyPost_ret (results_cell_row rfl _ _ w.heap.size 25 (hh.map (Value.int .u8)).toArray (0, 0) _ rfl (setRow_heap _ _ _ _ _ _ HgH.out) Try.underlying25 rfl Hi25.out) rfl ⟨by rw [Hhe.out], ?_⟩
    exact below_setRow hbf (Nat.le_refl _) _

def abcHex : ByteArray := { data := #[98, 97, 55, 56, 49, 54, 98, 102, 56, 102, 48, 49, 99, 102, 101, 97, 52, 49, 52, 49, 52, 48, 100, 101, 53, 100, 97, 101, 50, 50, 50, 51, 98, 48, 48, 51, 54, 49, 97, 51, 57, 54, 49, 55, 55, 97, 57, 99, 98, 52, 49, 48, 102, 102, 54, 49, 102, 50, 48, 48, 49, 53, 97, 100] }
def nilHex : ByteArray := { data := #[54, 101, 51, 52, 48, 98, 57, 99, 102, 102, 98, 51, 55, 97, 57, 56, 57, 99, 97, 53, 52, 52, 101, 54, 98, 98, 55, 56, 48, 97, 50, 99, 55, 56, 57, 48, 49, 100, 51, 102, 98, 51, 51, 55, 51, 56, 55, 54, 56, 53, 49, 49, 97, 51, 48, 54, 49, 55, 97, 102, 97, 48, 49, 100] }
theorem abc_list : abcHex.toList = [98, 97, 55, 56, 49, 54, 98, 102, 56, 102, 48, 49, 99, 102, 101, 97, 52, 49, 52, 49, 52, 48, 100, 101, 53, 100, 97, 101, 50, 50, 50, 51, 98, 48, 48, 51, 54, 49, 97, 51, 57, 54, 49, 55, 55, 97, 57, 99, 98, 52, 49, 48, 102, 102, 54, 49, 102, 50, 48, 48, 49, 53, 97, 100] := by decide +kernel
theorem nil_list : nilHex.toList = [54, 101, 51, 52, 48, 98, 57, 99, 102, 102, 98, 51, 55, 97, 57, 56, 57, 99, 97, 53, 52, 52, 101, 54, 98, 98, 55, 56, 48, 97, 50, 99, 55, 56, 57, 48, 49, 100, 51, 102, 98, 51, 51, 55, 51, 56, 55, 54, 56, 53, 49, 49, 97, 51, 48, 54, 49, 55, 97, 102, 97, 48, 49, 100] := by decide +kernel
theorem abc_hex : strOfNums (hexN (sumL [97, 98, 99]) 64) = abcHex := by decide +kernel
theorem nil_hex : strOfNums (hexN (sumL [0]) 64) = nilHex := by decide +kernel

set_option maxRecDepth 100000 in
set_option maxHeartbeats 1000000 in
theorem known_any (w : World) :
    Calls Try.prog 10 #[] w fun e w' => e = .returned (.bool true) ∧ Below w.heap.size w w' := by
  have hb0 : Below w.heap.size w (w.alloc (.cells #[.int .u8 97, .int .u8 98, .int .u8 99] 5 (3, 4))) := (Below.refl _ _).alloc (Nat.le_refl _) _
  have hsl : Sl .u8 (w.alloc (.cells #[.int .u8 97, .int .u8 98, .int .u8 99] 5 (3, 4))) (.slice (some ⟨w.heap.size, 0, none⟩) 3 3) [97, 98, 99] := by
    refine Sl.mk (l := [97, 98, 99]) (Nat.le_refl _) (by decide) (by simp) (fun j hj => ?_)
    rw [Nat.zero_add, World.cell?_alloc_mark]
    match j, hj with
    | 0, _ => rfl
    | 1, _ => rfl
    | 2, _ => rfl
  have kc := fun (w : World) (C : Array Value) (n c : Nat) => Lib.run_convert_bytes_const (P := Try.prog) w 22 5 C n c Try.underlying22 Try.underlying5
  go_enter Try.func10, Try.ntmps10
  go_wp2_with fail
  refine (sum_any _ _ _ hsl (by decide)).mono ?_
  rintro e w1 ⟨rfl, hb1⟩
  have hb2 : Below w.heap.size w w1 := hb0.trans (hb1.mono hb0.size)
  clear hsl hb0 hb1 kc
  go_wp2_with fail
  refine (hex_any _ _ (sumL_length _) (sumL_range _)).mono ?_
  rintro e w2 ⟨rfl, hb3⟩
  have hb4 : Below w.heap.size w w2 := hb2.trans (hb3.mono hb2.size)
  rw [abc_hex]
  clear hb2 hb3
  have he1 := abc_list
  have he2 := nil_list
  go_wp2_with fail
  refine (leaf_any _ [] _ (Sl.nil .u8 _) (by decide)).mono ?_
  rintro e w3 ⟨rfl, hb5⟩
  have hb6 : Below w.heap.size w w3 := hb4.trans (hb5.mono hb4.size)
  clear hb4 hb5
  go_wp2_with fail
  refine (hex_any _ _ (sumL_length _) (sumL_range _)).mono ?_
  rintro e w4 ⟨rfl, hb7⟩
  have hb8 : Below w.heap.size w w4 := hb6.trans (hb7.mono hb6.size)
  rw [nil_hex]
  clear hb6 hb7
  go_wp2_with fail
  go_ret
  exact ⟨rfl, hb8⟩

end Dig
end Go.Proofs.Ytokdbdebmlpdaaa
