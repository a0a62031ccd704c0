/- digest's laws: what they look by: same, roomy, stands. -/
import Derived.Test.YtokdbdebmlpdaaaDigPure
namespace Go.Proofs.Ytokdbdebmlpdaaa
open Go.RowKit
namespace Dig

set_option maxRecDepth 100000 in
set_option maxHeartbeats 1000000 in
theorem same_true (v1 v2 : Value) (l : List Int) (w : World) (h1 : Sl .u8 w v1 l) (h2 : Sl .u8 w v2 l) :
    Calls Try.prog 25 #[v1, v2] w fun e w' => e = .returned (.bool true) ∧ Drawn w w' := by
  obtain ⟨sp1, c1, rfl, ha1, ha2, ha3, -⟩ := h1
  obtain ⟨sp2, c2, rfl, hb1, hb2, hb3, -⟩ := h2
  have hne : ((l.length : Int) != l.length) = false := by simp
  go_enter Try.func25, Try.ntmps25
  go_wp2_with fail
  go_loopw [5] (fun i wr => ∃ k : Nat, k ≤ l.length ∧ i = .int .i64 k ∧ ∃ n, wr = w.drewN n) (fun i _ => l.length - (intOf i).toNat)
  case atStart => exact ⟨0, Nat.zero_le _, rfl, 0, rfl⟩
  case round =>
    obtain ⟨k, hk, rfl, n, rfl⟩ := hrel
    by_cases hlt : k < l.length
    · obtain ⟨b1, o1, rfl, -, r1⟩ := ha3 (by omega)
      obtain ⟨b2, o2, rfl, -, r2⟩ := hb3 (by omega)
      have d1 := r1.at k hlt
      have d2 := r2.at k hlt
      have i1 : (k : Int) < l.length := by omega
      have i0 : 0 ≤ (k : Int) := by omega
      have hn2 : (nth l k != nth l k) = false := by simp
      clear ha3 hb3 r1 r2
      go_wp2_with fail
      go_quiet (fail)
      go_wp2_with fail
      go_roundw
      case rel => exact ⟨k + 1, by omega, by go_num, _, rfl⟩
      case measure => simp [intOf]; omega
    · have i1 : decide ((k : Int) < l.length) = false := decide_eq_false (by omega)
      go_wp2_with fail
      go_ret
      exact ⟨rfl, Drawn.mk _ _⟩

set_option maxRecDepth 100000 in
set_option maxHeartbeats 1000000 in
theorem roomy_any (v : Value) (l : List Int) (w : World) (hv : Sl .u8 w v l) (hn : l.length ≤ 35184372088832) :
    Calls Try.prog 6 #[v] w fun e w' => (∃ g c, e = .returned (.slice (some ⟨g, 0, none⟩) (l.length + 1) c) ∧ l.length + 2 ≤ c ∧ c ≤ 9223372036854775807 ∧ g < w'.heap.size ∧ Row .u8 w' g 0 (l ++ [171, 171])) ∧ Below w.heap.size w w' := by
  have hv2 := hv
  obtain ⟨sp, cap, rfl, -, -, -, -⟩ := hv2
  have hE0 : Buf .u8 5 (w.alloc (.cells #[] 5)) w.heap.size (.slice (some ⟨w.heap.size, 0, none⟩) 0 0) [] := Buf.empty (Nat.le_refl _)
  have hBe : Below w.heap.size w (w.alloc (.cells #[] 5)) := (Below.refl _ w).alloc (Nat.le_refl _) _
  have hSe := hv.of_below hBe
  have HE0 := Hid2.mk hE0
  have HSe := Hid2.mk hSe
  clear hE0 hSe
  go_enter Try.func6, Try.ntmps6
  go_wp2_with (refine wpList_app rfl (.tmp 3) (.tmp 4) 22 rfl elemBytes w.heap.size _ [] rfl HE0.out _ l rfl HSe.out l.length ?h1 ?h2 ?h3 ?h4 ?h5)
  case h1 => simp
  case h2 => unfold maxLen; omega
  case h3 => omega
  case h4 => simp
  case h5 =>
    intro sp1 c1 w1 hb1 hk1
    try rw [List.nil_append] at hb1
    have hs1 := hk1.size
    rw [World.size_alloc] at hs1
    go_wp2_with (refine wpList_app rfl (.tmp 5) (.tmp 6) 22 rfl elemBytes w.heap.size _ l rfl (hb1.alloc _) _ [171] rfl (Sl.one .u8 w1 171 5) (l.length + 1) ?h1 ?h2 ?h3 ?h4 ?h5)
    case h1 => simp
    case h2 => unfold maxLen; omega
    case h3 => omega
    case h4 => simp; omega
    case h5 =>
      intro sp2 c2 w2 hb2 hk2
      have hs2 := hk2.size
      rw [World.size_alloc] at hs2
      go_wp2_with (refine wpList_app rfl (.tmp 7) (.tmp 8) 22 rfl elemBytes w.heap.size _ (l ++ [171]) rfl (hb2.alloc _) _ [171] rfl (Sl.one .u8 w2 171 5) (l.length + 2) ?h1 ?h2 ?h3 ?h4 ?h5)
      case h1 => simp
      case h2 => unfold maxLen; omega
      case h3 => omega
      case h4 => simp; omega
      case h5 =>
        intro sp3 c3 w3 hb3 hk3
        have hbel : Below w.heap.size w w3 :=
          (Keep.of_below hBe).trans (hk1.trans (((Keep.refl _ w1).alloc (fun k (hk : k < w.heap.size) => by omega) _).trans (hk2.trans (((Keep.refl _ w2).alloc (fun k (hk : k < w.heap.size) => by omega) _).trans hk3)))) |>.below
        obtain ⟨g, rfl, hnn, hgB, hgl, hc, hc', hrow⟩ := buf_open hb3 (by simp)
        have hc3 : l.length + 2 ≤ c3 := by simp at hc; omega
        clear hb1 hk1 hb2 hk2 hb3 hk3 hBe HE0 HSe hv hnn hc
        go_wp2_with fail
        go_ret
        exact ⟨⟨g, c3, rfl, hc3, hc', hgl, hrow⟩, hbel⟩

set_option maxRecDepth 100000 in
set_option maxHeartbeats 1000000 in
theorem stands_true (g c : Nat) (v : Value) (l : List Int) (w : World) (hv : Sl .u8 w v l) (hc : l.length + 2 ≤ c) (hc2 : c ≤ 9223372036854775807) (hg : g < w.heap.size) (hr : Row .u8 w g 0 (l ++ [171, 171])) :
    Calls Try.prog 9 #[.slice (some ⟨g, 0, none⟩) (l.length + 1) c, v] w fun e w' => e = .returned (.bool true) ∧ Drawn w w' := by
  have hv2 := hv
  obtain ⟨sp, cap, rfl, -, hcap, -, -⟩ := hv2
  have hpre : Row .u8 w g 0 l := fun j hj => by
    rw [hr j (by simp; omega), nth_left _ _ _ hj]
  have hsl : Sl .u8 w (.slice (some ⟨g, 0, none⟩) l.length c) l := Sl.mk (by omega) hc2 hg hpre
  have d1 : w.cell? ⟨g, l.length, none⟩ = some (.int .u8 171) := by
    rw [hr.at0 l.length (by simp), nth_right _ _ _ (Nat.le_refl _), Nat.sub_self]; rfl
  have he : ((l.length : Int) + 1 == (l.length : Int) + 1) = true := by simp
  have i0 : (0 : Int) ≤ l.length := by omega
  have i1 : (l.length : Int) < l.length + 1 := by omega
  have i2 : (l.length : Int) ≤ c := by omega
  have i3 : ¬ c = 0 := by omega
  clear hr hpre
  go_enter Try.func9, Try.ntmps9
  go_wp2_with fail
  refine (same_true _ _ l _ hsl hv).mono ?_
  rintro e w' ⟨rfl, nq, rfl⟩
  clear hsl hv
  go_wp2_with fail
  go_ret
  exact ⟨rfl, Drawn.mk _ _⟩

end Dig
end Go.Proofs.Ytokdbdebmlpdaaa
