/- Chapter 8: Above. -/
import Derived.Test.YtfpakjbaiohcaaaBaseC
import Derived.Test.YtfpakjbaiohcaaaOrdPure
import Derived.Test.YtfpakjbaiohcaaaReg
import Derived.Great.BuildSlice
namespace Go.Proofs.Ytfpakjbaiohcaaa
open Go.RowKit
namespace Ord

set_option maxRecDepth 100000 in
set_option maxHeartbeats 2000000 in
theorem above_any (s : ByteArray) (w : World) (hs : s.size ≤ 4611686018427387904) :
    Calls Try.prog 11 #[.string s] w fun e w' => (∃ t, e = .returned (.tuple #[.string t, .bool (!(strip s.toList).isEmpty)]) ∧ t.toList = bump (strip s.toList)) ∧ Below w.heap.size w w' := by
  go_enter Try.func11, Try.ntmps11
  go_wp2_with fail
  go_loopw [0] (fun x wr => ∃ t : ByteArray, x = .string t ∧ strip t.toList = strip s.toList ∧ t.size ≤ s.size ∧ wr = w) (fun x _ => (match x with | .string t => t.size | _ => 0))
  case atStart => exact ⟨s, rfl, rfl, Nat.le_refl _, rfl⟩
  case round =>
    obtain ⟨t, rfl, ht, hts, rfl⟩ := hrel
    by_cases h0 : t.size = 0
    · have g0 : (t.size : Int) ≤ 0 := by omega
      have ht0 : t.toList = [] := list_empty h0
      have Hst := Hid2.mk (show strip s.toList = [] by rw [← ht, ht0]; rfl)
      have hem : t.toList.isEmpty = true := by rw [ht0]; rfl
      clear ht ht0
      go_wp2_with fail
      go_ret2
      rw [Hst.out]
      exact ⟨⟨ByteArray.mk #[], rfl, list_empty rfl⟩, Below.refl _ _⟩
    · have g0 : (0 : Int) < t.size := by omega
      obtain ⟨k, hk⟩ : ∃ k, t.size = k + 1 := ⟨t.size - 1, by omega⟩
      have hkl : k < t.size := by omega
      have e1 : (t.size : Int) - 1 = (k : Nat) := by omega
      have hsp := list_split hk
      by_cases h255 : (t[k]'hkl) = 255
      · rw [h255] at hsp
        have Hsp := Hid2.mk hsp
        clear hsp
        go_wp2_with fail
        refine ⟨⟨_, rfl, ?_, ?_, trivial⟩, ?_⟩
        · rw [← ht, Hsp.out, strip_top]
        · have : (t.extract 0 k).size = k := by simp; omega
          omega
        · have : (t.extract 0 k).size = k := by simp; omega
          show (t.extract 0 k).size < t.size
          omega
      · have Hsp := Hid2.mk hsp
        have hem : t.toList.isEmpty = false := by rw [hsp]; simp
        have h2 : ¬ (t[k]'hkl).toNat = 255 := fun e => h255 (UInt8.toNat.inj e)
        have g255 : (((t[k]'hkl).toNat : Int) == 255) = false := beq_eq_false_iff_ne.2 (by omega)
        clear hsp
        go_wp2_with fail
        have hwk : IntKind.i64.wrap (k : Int) = (k : Int) := IntWalk.i64_in _ (by omega)
        have hkk : (k : Int) ≤ (k : Int) + 1 := by omega
        have hwc : IntKind.u8.wrap (((t[k]'hkl).toNat : Int) + 1) = (((t[k]'hkl) + 1).toNat : Int) := by
          have h1 := (t[k]'hkl).toNat_lt
          rw [UInt8.toNat_add, IntKind.wrap_u8]
          simp
        refine wp_region_till 11 (fun _ => True) (by kernel_rfl) ?_
        have hS : True := trivial
        refine till_free (i := 0) rfl (by kernel_rfl) (by kernel_rfl) (by kernel_rfl) rfl (fun _ _ _ h => h) (.inr hS) (by rfl) (fun _ => by first | (go_simp; done) | (go_simp; with_reducible rfl)) ?_
        refine till_free (i := 1) rfl (by kernel_rfl) (by kernel_rfl) (by kernel_rfl) rfl (fun _ _ _ h => h) (.inr hS) (by rfl) (fun _ => by first | (go_simp; done) | (go_simp; with_reducible rfl)) ?_
        refine till_free (i := 2) rfl (by kernel_rfl) (by kernel_rfl) (by kernel_rfl) rfl (fun _ _ _ h => h) (.inr hS) (by rfl) (fun _ => by first | (go_simp; done) | (go_simp; with_reducible rfl)) ?_
        refine till_free (i := 3) rfl (by kernel_rfl) (by kernel_rfl) (by kernel_rfl) rfl (fun _ _ _ h => h) (.inr hS) (by rfl) (fun _ => by first | (go_simp; done) | (go_simp; with_reducible rfl)) ?_
        refine till_free (i := 4) rfl (by kernel_rfl) (by kernel_rfl) (by kernel_rfl) rfl (fun _ _ _ h => h) (.inr hS) (by rfl) (fun _ => by first | (go_simp; done) | (go_simp; with_reducible rfl)) ?_
        refine till_free (i := 5) rfl (by kernel_rfl) (by kernel_rfl) (by kernel_rfl) rfl (fun _ _ _ h => h) (.inr hS) (by rfl) (fun _ => by first | (go_simp; done) | (go_simp; with_reducible rfl)) ?_
        refine till_free (i := 6) rfl (by kernel_rfl) (by kernel_rfl) (by kernel_rfl) rfl (fun _ _ _ h => h) (.inr hS) (by rfl) (fun _ => by first | (go_simp; done) | (go_simp; with_reducible rfl)) ?_
        refine till_free (i := 7) rfl (by kernel_rfl) (by kernel_rfl) (by kernel_rfl) rfl (fun _ _ _ h => h) (.inr hS) (by rfl) (fun _ => by first | (go_simp; done) | (go_simp; with_reducible rfl)) ?_
        refine till_free (i := 8) rfl (by kernel_rfl) (by kernel_rfl) (by kernel_rfl) rfl (fun _ _ _ h => h) (.inr hS) (by rfl) (fun _ => by first | (go_simp; done) | (go_simp; with_reducible rfl)) ?_
        refine till_free (i := 9) rfl (by kernel_rfl) (by kernel_rfl) (by kernel_rfl) rfl (fun _ _ _ h => h) (.inr hS) (by rfl) (fun _ => by first | (go_simp; done) | (go_simp; with_reducible rfl)) ?_
        refine till_free (i := 10) rfl (by kernel_rfl) (by kernel_rfl) (by kernel_rfl) rfl (fun _ _ _ h => h) (.inr hS) (by rfl) (fun _ => by first | (go_simp; done) | (go_simp; with_reducible rfl)) ?_
        conv => { arg 9; simp [go_sem] }
        refine till_one (i := 11) (by kernel_rfl) rfl ?_; intro K hK
        go_simp
        refine hK _ _ (.inl rfl) ?_
        clear hK K
        have hcv := run_convert_bytes_arg (P := Try.prog) (wr.alloc (.cells #[.int .u8 (((t[k]'hkl).toNat + 1) % 256)] 5)).drew 47 5 Try.underlying47 Try.underlying5 wr.heap.size 0 1 1 [((t[k]'hkl).toNat + 1) % 256] rfl (fun i hi => by
          obtain rfl : i = 0 := by omega
          exact ((VBlk.mk wr [.int .u8 (((t[k]'hkl).toNat + 1) % 256)] 5).drewN 1).cell 0 (by simp)) 9 Try.underlying9
        have hbw : Below wr.heap.size wr (wr.alloc (.cells #[.int .u8 (((t[k]'hkl).toNat + 1) % 256)] 5)).drew := ((Keep.of_below ((Below.refl _ wr).alloc (Nat.le_refl _) _)).drewN 1).below
        have hnum : (strOfNums [(((t[k]'hkl).toNat : Int) + 1) % 256]).toList = [(t[k]'hkl) + 1] := by
          rw [ByteArray.toList_eq, strOfNums_data]
          have h1 := (t[k]'hkl).toNat_lt
          have e : ((((t[k]'hkl).toNat : Int) + 1) % 256).toNat = (t[k]'hkl).toNat + 1 := by omega
          simp only [List.map_cons, List.map_nil, e]
          congr 1
        have hsz := strOfNums_size [(((t[k]'hkl).toNat : Int) + 1) % 256]
        have hu : (t.extract 0 k).size = k := by simp; omega
        have Hbw := Hid2.mk hbw
        have Hnum := Hid2.mk hnum
        clear hbw hnum
        generalize strOfNums [(((t[k]'hkl).toNat : Int) + 1) % 256] = x at hcv Hnum hsz
        generalize t.extract 0 k = u at Hsp hu ⊢
        refine till_one (i := 12) (by kernel_rfl) rfl ?_; intro K hK
        go_simp
        refine hK _ _ (.inl rfl) ?_
        clear hK K
        have hx1 : x.size = 1 := by simpa using hsz
        have hsum3 : ¬ 9223372036854775807 < k + 1 := by omega
        have hsum : ¬ (9223372036854775807 : Int) < ((u.size : Int) + (x.size : Int)) := by omega
        have hsum2 : ((u.size : Int) + (x.size : Int)) ≤ (9223372036854775807 : Int) := by omega
        clear hcv
        conv => { arg 9; simp [go_sem] }
        refine till_free (i := 13) rfl (by kernel_rfl) (by kernel_rfl) (by kernel_rfl) rfl (fun _ _ _ h => h) (.inl rfl) (by rfl) (fun _ => by first | (go_simp; done) | (go_simp; with_reducible rfl)) ?_
        refine till_free (i := 14) rfl (by kernel_rfl) (by kernel_rfl) (by kernel_rfl) rfl (fun _ _ _ h => h) (.inl rfl) (by rfl) (fun _ => by first | (go_simp; done) | (go_simp; with_reducible rfl)) ?_
        refine till_free (i := 15) rfl (by kernel_rfl) (by kernel_rfl) (by kernel_rfl) rfl (fun _ _ _ h => h) (.inl rfl) (by rfl) (fun _ => by first | (go_simp; done) | (go_simp; with_reducible rfl)) ?_
        refine till_done (by kernel_rfl) ?_ _
        have Hst := Hid2.mk (show strip s.toList = u.toList ++ [t[k]'hkl] by rw [← ht, Hsp.out, strip_low _ h255])
        go_wp2_with fail
        go_ret2
        rw [Hst.out]
        refine ⟨⟨u ++ x, by simp, ?_⟩, Hbw.out⟩
        rw [bump_end, ByteArray.toList_eq, ByteArray.data_append, Array.toList_append, ← ByteArray.toList_eq, ← ByteArray.toList_eq, Hnum.out]

end Ord
end Go.Proofs.Ytfpakjbaiohcaaa
