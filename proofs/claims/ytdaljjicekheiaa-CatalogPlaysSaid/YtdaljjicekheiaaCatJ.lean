/- Chapter 14: known(). -/
import Derived.Test.YtdaljjicekheiaaCatI
namespace Go.Proofs.Ytdaljjicekheiaa
open Go.RowKit Go.Maps
namespace Cat

/-- What is new is the call's own. -/
theorem app_below {w w1 w2 : World} {O O' : Nat → Prop} {B : Nat} (hb : Below B w w1) (hO : ∀ b, O b → B ≤ b) (hk : Keep (fun b => b < w1.heap.size ∧ ¬ O b) w1 w2) (ho : ∀ b, O' b → O b ∨ w1.heap.size ≤ b) (hB : B ≤ w1.heap.size) :
    Below B w w2 ∧ (∀ b, O' b → B ≤ b) ∧ B ≤ w2.heap.size := by
  refine ⟨hb.trans (hk.mono fun b (hb : b < B) => ⟨by omega, fun h => by have := hO b h; omega⟩).below, fun b hb => ?_, Nat.le_trans hB hk.size⟩
  rcases ho b hb with h | h
  · exact hO b h
  · omega

def txtA : ByteArray := ⟨#[97]⟩
theorem kc1 : appC [] 5 txtA 1 = 0 := by decide +kernel
theorem kl1 : appL [] 5 txtA 1 = [⟨txtA, false, []⟩] := by kernel_rfl
theorem kc2 : appC [⟨txtA, false, []⟩] 5 txtA 2 = 8 := by decide +kernel
theorem kl2 : appL [⟨txtA, false, []⟩] 5 txtA 2 = [⟨txtA, false, []⟩] := by kernel_rfl
theorem kc3 : appC [⟨txtA, false, []⟩] 6 ByteArray.empty 1 = 0 := by decide +kernel
theorem kl3 : appL [⟨txtA, false, []⟩] 6 ByteArray.empty 1 = [⟨txtA, true, []⟩] := by kernel_rfl
theorem kc4 : appC [⟨txtA, true, []⟩] 5 txtA 2 = 0 := by decide +kernel

set_option maxRecDepth 100000 in
set_option maxHeartbeats 4000000 in
theorem known_any (w : World) : Calls Try.prog 7 #[] w fun e w' => e = .returned (.bool true) ∧ Below w.heap.size w w' := by
  go_enter Try.func7, Try.ntmps7
  go_wp2_with fail
  refine (new_any _).mono ?_
  rintro e w1 ⟨O1, rfl, h1, hb1, ho1⟩
  have H1 := Hid2.mk h1
  have P1 := Hid2.mk (And.intro hb1 (And.intro ho1 hb1.size))
  generalize w.heap.size + 1 = c at H1 ⊢
  clear h1 hb1 ho1
  go_wp2_with fail
  refine (apply_any H1.out (kind := 5) (txt := txtA) (tbl := 1) (by exact ⟨rfl, rfl, rfl, rfl, by decide +kernel, by decide⟩) (by omega)).mono ?_
  rintro e w2 ⟨O2, he, h2, k2, o2⟩
  rw [kc1] at he
  rw [kl1] at h2
  subst he
  have H2 := Hid2.mk h2
  have P2 := Hid2.mk (app_below P1.out.1 P1.out.2.1 k2 o2 P1.out.2.2)
  clear h2 k2 o2 H1 P1
  go_wp2_with fail
  refine (apply_any H2.out (kind := 5) (txt := txtA) (tbl := 2) (by exact ⟨rfl, rfl, rfl, rfl, by decide +kernel, by decide⟩) (by omega)).mono ?_
  rintro e w3 ⟨O3, he, h3, k3, o3⟩
  rw [kc2] at he
  rw [kl2] at h3
  subst he
  have H3 := Hid2.mk h3
  have P3 := Hid2.mk (app_below P2.out.1 P2.out.2.1 k3 o3 P2.out.2.2)
  clear h3 k3 o3 H2 P2
  go_wp2_with fail
  refine (apply_any H3.out (kind := 6) (txt := ByteArray.empty) (tbl := 1) (by exact ⟨rfl, rfl, rfl, rfl, by decide +kernel, by decide⟩) (by omega)).mono ?_
  rintro e w4 ⟨O4, he, h4, k4, o4⟩
  rw [kc3] at he
  rw [kl3] at h4
  subst he
  have H4 := Hid2.mk h4
  have P4 := Hid2.mk (app_below P3.out.1 P3.out.2.1 k4 o4 P3.out.2.2)
  clear h4 k4 o4 H3 P3
  go_wp2_with fail
  refine (apply_any H4.out (kind := 5) (txt := txtA) (tbl := 2) (by exact ⟨rfl, rfl, rfl, rfl, by decide +kernel, by decide⟩) (by omega)).mono ?_
  rintro e w5 ⟨O5, he, h5, k5, o5⟩
  rw [kc4] at he
  subst he
  have P5 := Hid2.mk (app_below P4.out.1 P4.out.2.1 k5 o5 P4.out.2.2)
  clear h5 k5 o5 H4 P4
  go_wp2_with fail
  go_ret
  exact ⟨rfl, P5.out.1⟩

end Cat
end Go.Proofs.Ytdaljjicekheiaa
