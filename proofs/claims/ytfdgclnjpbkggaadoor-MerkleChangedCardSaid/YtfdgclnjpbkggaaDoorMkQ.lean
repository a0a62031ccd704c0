/- The tree of digests: consistencies. -/
import Derived.Test.YtfdgclnjpbkggaaDoorMkP
namespace Go.Proofs.YtfdgclnjpbkggaaDoor
open Go.RowKit Go.Maps
namespace Mk

theorem sub_all {m : Nat} {l : List H} (h : m = l.length) : subP m l true = [] := by unfold subP; rw [sub, if_pos h, if_pos rfl]
theorem sub_self {m : Nat} {l : List H} (h : m = l.length) : subP m l false = [rt l] := by unfold subP; rw [sub, if_pos h, if_neg (by decide)]; rfl
theorem sub_left {m f n : Nat} {l : List H} {wh : Bool} (h2 : 2 ≤ n) (hl : f + n ≤ l.length) (hne : ¬ m = n) (hm : m ≤ half n) : subP m (seg l f n) wh = subP m (seg l f (half n)) wh ++ [rt (seg l (f + half n) (n - half n))] := by
  have e := seg_len hl
  unfold subP
  rw [sub, if_neg (by rw [e]; exact hne), dif_pos (by omega), e, if_pos hm, seg_take (by have := half_lt h2; omega), seg_drop]
  rfl
theorem sub_right {m f n : Nat} {l : List H} {wh : Bool} (h2 : 2 ≤ n) (hl : f + n ≤ l.length) (hne : ¬ m = n) (hm : ¬ m ≤ half n) : subP m (seg l f n) wh = subP (m - half n) (seg l (f + half n) (n - half n)) false ++ [rt (seg l f (half n))] := by
  have e := seg_len hl
  unfold subP
  rw [sub, if_neg (by rw [e]; exact hne), dif_pos (by omega), e, if_neg hm, seg_take (by have := half_lt h2; omega), seg_drop]
  rfl
theorem okh_sub : ∀ (n : Nat) {l : List H} {m : Nat} {wh : Bool}, l.length = n → Okh l → Okh (subP m l wh) := by
  intro n
  induction n using Nat.strongRecOn with
  | ind n ih =>
    intro l m wh hn h
    unfold subP
    rw [sub]
    by_cases hm : m = l.length
    · rw [if_pos hm]
      cases wh with
      | true => exact okh_nil
      | false => exact okh_one (rt_len h)
    · rw [if_neg hm]
      by_cases h2 : 2 ≤ l.length
      · have hk := half_lt h2
        have hp := half_pos l.length
        rw [dif_pos h2]
        by_cases hi : m ≤ half l.length
        · rw [if_pos hi]
          exact okh_app (ih (half l.length) (by omega) (by rw [List.length_take]; omega) (okh_take h _)) (okh_one (rt_len (okh_drop h _)))
        · rw [if_neg hi]
          exact okh_app (ih (l.length - half l.length) (by omega) (by rw [List.length_drop]) (okh_drop h _)) (okh_one (rt_len (okh_take h _)))
      · rw [dif_neg h2]; exact okh_nil
theorem sub_len : ∀ (n : Nat) {l : List H} {m : Nat} {wh : Bool}, l.length = n → (subP m l wh).length ≤ n + 1 := by
  intro n
  induction n using Nat.strongRecOn with
  | ind n ih =>
    intro l m wh hn
    unfold subP
    rw [sub]
    by_cases hm : m = l.length
    · rw [if_pos hm]; cases wh <;> simp
    · rw [if_neg hm]
      by_cases h2 : 2 ≤ l.length
      · have hk := half_lt h2
        have hp := half_pos l.length
        rw [dif_pos h2]
        by_cases hi : m ≤ half l.length
        · rw [if_pos hi, List.length_append]
          have := @ih (half l.length) (by omega) (l.take (half l.length)) m wh (by rw [List.length_take]; omega)
          unfold subP at this
          simp only [List.length_cons, List.length_nil]
          omega
        · rw [if_neg hi, List.length_append]
          have := @ih (l.length - half l.length) (by omega) (l.drop (half l.length)) (m - half l.length) false (by rw [List.length_drop])
          unfold subP at this
          simp only [List.length_cons, List.length_nil]
          omega
      · rw [dif_neg h2]; simp

/-- A slice of one digest, of the call's own. -/
theorem OwnV.one (w : World) {r : H} (hr : r.length = 32) : OwnV 27 32 (w.alloc (.cells (cellsH [r]).toArray 27)) (fun g => g = w.heap.size) (.slice (some ⟨w.heap.size, 0, none⟩) 1 1) 1 (cellsH [r]) := by
  have hl : (cellsH [r]).length = 32 := by rw [cellsH_len (okh_one hr)]; rfl
  exact ⟨⟨by rw [hl], .inr ⟨w.heap.size, 1, (cellsH [r]).toArray, rfl, Nat.zero_le _, heap_alloc_new _ _, by omega, by unfold maxLen; omega, by simp [hl], by simp; exact List.take_of_length_le (by omega)⟩⟩, ones_cellsH _, fun g hg => by cases hg; rfl⟩

set_option maxRecDepth 100000 in
set_option maxHeartbeats 4000000 in
theorem sub_any : ∀ (n : Nat) {w : World} {t cnt f i : Nat} {wh : Bool} {O : Nat → Prop} {l : List H}, IsTree w t O cnt l → Tab w → 1 ≤ n → f + n ≤ l.length → Al f n → l.length ≤ 1000000 → 1 ≤ i → i ≤ n →
    Calls Tryd.prog 33 #[.pointer (some ⟨t, 0, none⟩), .int .i64 (i : Nat), .int .i64 (f : Nat), .int .i64 (n : Nat), .bool wh] w (PathPost w (subP i (seg l f n) wh)) := by
  intro n
  induction n using Nat.strongRecOn with
  | ind n ih =>
    intro w t cnt f i wh O l h hT h1 hl ha hm hi0 hi
    have H0 := Hid2.mk h
    have HT := Hid2.mk hT
    have hok := h.ok
    have Hih := Hid2.mk ih
    have Hl := Hid2.mk hl
    have Ha := Hid2.mk ha
    have hn : n ≤ 1000000 := by omega
    have hf : f ≤ 1000000 := by omega
    clear h hT ih hl ha
    by_cases hn1 : i = n
    · subst hn1
      cases wh with
      | true =>
        have hp : subP i (seg l f i) true = [] := sub_all (by rw [seg_len Hl.out])
        rw [hp]
        clear hp
        go_enter Tryd.func33, Tryd.ntmps33
        go_wp2_with fail
        go_ret
        exact ⟨none, 0, rfl, OwnV.nil _ _ _ _, Below.refl _ _⟩
      | false =>
        have hp : subP i (seg l f i) false = [rt (seg l f i)] := sub_self (by rw [seg_len Hl.out])
        have hrl := rt_len (okh_seg hok f i)
        have Hp := Hid2.mk hp
        clear hp
        go_enter Tryd.func33, Tryd.ntmps33
        go_wp2_with fail
        refine (root_a i H0.out HT.out h1 (by have := Hl.out; omega) Ha.out (by omega)).mono ?_
        rintro e w3 ⟨rfl, hb3⟩
        generalize rt (seg l f i) = r at Hp hrl ⊢
        have Hb3 := Hid2.mk hb3
        have Hrl := Hid2.mk hrl
        clear hb3 hrl
        go_wp2_with (refine wpList_lit1 rfl (.tmp 19) rfl r Hrl.out rfl ?_)
        go_ret
        rw [Hp.out]
        unfold PathPost
        exact ⟨_, _, rfl, (OwnV.one w3 Hrl.out).mono (fun b hb => by rw [hb]; exact Hb3.out.size), Hb3.out.alloc Hb3.out.size _⟩
    · have h2 : 2 ≤ n := by omega
      have hn2 : ((i : Int) == (n : Int)) = false := by simp; omega
      have hkl := half_lt h2
      have hkp := half_pos n
      by_cases hik : i ≤ half n
      · have hp := sub_left (wh := wh) h2 Hl.out hn1 hik
        have Hp := Hid2.mk hp
        have hlt : (subP i (seg l f (half n)) wh).length ≤ half n + 1 := sub_len (half n) (by rw [seg_len (by have := Hl.out; omega)])
        have hokp : True := trivial
        have hrl := rt_len (okh_seg hok (f + half n) (n - half n))
        have Hal := Hid2.mk (And.intro (al_left Ha.out h2) (al_right Ha.out h2))
        clear hp hn1
        go_enter Tryd.func33, Tryd.ntmps33
        go_wp2_with fail
        refine (half_any n _ h2 (by omega)).mono ?_
        rintro e w' ⟨rfl, rfl⟩
        generalize hk : half n = k at hkl hkp hik Hp hlt hokp hrl Hal ⊢
        have hik2 : (i : Int) ≤ k := by omega
        clear hk
        go_wp2_with fail
        refine (Hih.out k hkl H0.out HT.out hkp (by have := Hl.out; omega) Hal.out.1 hm hi0 hik).mono ?_
        rintro e w2 ⟨sp, c, rfl, hown, hb2⟩
        generalize subP i (seg l f k) wh = P at Hp hlt hokp hown ⊢
        have Hown := Hid2.mk hown
        have Hb2 := Hid2.mk hb2
        have H2 := Hid2.mk (H0.out.below hb2 (Nat.le_refl _))
        have HT2 := Hid2.mk (HT.out.below hb2 (Nat.le_refl _))
        clear hown hb2
        go_wp2_with fail
        have e1 : (f : Int) + k = ((f + k : Nat) : Int) := by omega
        have e2 : (n : Int) - k = ((n - k : Nat) : Int) := by omega
        rw [e1, e2]
        refine (root_a (n - k) H2.out HT2.out (by omega) (by have := Hl.out; omega) Hal.out.2 (by omega)).mono ?_
        rintro e w3 ⟨rfl, hb3⟩
        generalize rt (seg l (f + k) (n - k)) = r at Hp hrl ⊢
        have Hown3 := Hid2.mk (Hown.out.keep (Keep.of_below hb3) (fun g hg => Hown.out.lt hg))
        have Hb3 := Hid2.mk (Hb2.out.trans (hb3.mono Hb2.out.size))
        have hs3 : w.heap.size ≤ w3.heap.size := Hb3.out.size
        have HownA := Hid2.mk (Hown3.out.alloc (.cells (cellsH [r]).toArray 27))
        have Hsl := Hid2.mk (SlV.fresh w3 (fun _ => True) 27 (m := 32) (n := 1) (l := cellsH [r]) (by rw [cellsH_len (okh_one hrl)]; rfl) (ones_cellsH _) trivial (by unfold maxLen; omega))
        have HbA := Hid2.mk (Hb3.out.alloc hs3 (.cells (cellsH [r]).toArray 27))
        have Hrl := Hid2.mk hrl
        have hlt2 : P.length ≤ 1000000 := by omega
        clear hb3 e1 e2 H2 HT2 Hown Hb2 hlt hrl
        go_wp2_with (first | (refine wpList_lit1 rfl (.tmp 39) rfl r Hrl.out rfl ?_
                              refine wpList_appV rfl (.tmp 31) (.tmp 40) 22 rfl elemHash rfl HownA.out rfl Hsl.out (n' := P.length + 1) rfl (by unfold maxLen; omega) (by omega) ?_
                              intro sp5 c5 w5 hown5 hg5 hat5))
        have hbf : Below w.heap.size w w5 := own_below2 (w1 := w) HbA.out hg5 (fun g e => HownA.out.own e)
        have Hbf := Hid2.mk hbf
        have Hfin := Hid2.mk hown5
        clear hg5 hat5 hbf hown5
        go_wp2_with fail
        go_ret
        rw [Hp.out]
        have hlen : (P ++ [r]).length = P.length + 1 := by simp
        unfold PathPost
        rw [hlen, cellsH_app]
        refine ⟨sp5, c5, rfl, Hfin.out.mono (fun b hb => ?_), Hbf.out⟩
        rcases hb with hb | hb
        · exact hb
        · rw [hb]; exact HbA.out.size
      · have hp := sub_right (wh := wh) h2 Hl.out hn1 hik
        have Hp := Hid2.mk hp
        have hlt : (subP (i - half n) (seg l (f + half n) (n - half n)) false).length ≤ n - half n + 1 := sub_len (n - half n) (by rw [seg_len (by have := Hl.out; omega)])
        have hrl := rt_len (okh_seg hok f (half n))
        have Hal := Hid2.mk (And.intro (al_left Ha.out h2) (al_right Ha.out h2))
        clear hp hn1
        go_enter Tryd.func33, Tryd.ntmps33
        go_wp2_with fail
        refine (half_any n _ h2 (by omega)).mono ?_
        rintro e w' ⟨rfl, rfl⟩
        generalize hk : half n = k at hkl hkp hik Hp hlt hrl Hal ⊢
        have hik2 : (k : Int) < i := by omega
        have hii : (i : Int) ≤ n := by omega
        clear hk
        go_wp2_with fail
        have e1 : (f : Int) + k = ((f + k : Nat) : Int) := by omega
        have e2 : (n : Int) - k = ((n - k : Nat) : Int) := by omega
        have e3 : (i : Int) - k = ((i - k : Nat) : Int) := by omega
        rw [e1, e2, e3]
        refine (Hih.out (n - k) (by omega) H0.out HT.out (by omega) (by have := Hl.out; omega) Hal.out.2 hm (by omega) (by omega)).mono ?_
        rintro e w2 ⟨sp, c, rfl, hown, hb2⟩
        clear e1 e2 e3
        generalize subP (i - k) (seg l (f + k) (n - k)) false = P at Hp hlt hown ⊢
        have Hown := Hid2.mk hown
        have Hb2 := Hid2.mk hb2
        have H2 := Hid2.mk (H0.out.below hb2 (Nat.le_refl _))
        have HT2 := Hid2.mk (HT.out.below hb2 (Nat.le_refl _))
        clear hown hb2
        go_wp2_with fail
        refine (root_a k H2.out HT2.out hkp (by have := Hl.out; omega) Hal.out.1 (by omega)).mono ?_
        rintro e w3 ⟨rfl, hb3⟩
        generalize rt (seg l f k) = r at Hp hrl ⊢
        have Hown3 := Hid2.mk (Hown.out.keep (Keep.of_below hb3) (fun g hg => Hown.out.lt hg))
        have Hb3 := Hid2.mk (Hb2.out.trans (hb3.mono Hb2.out.size))
        have hs3 : w.heap.size ≤ w3.heap.size := Hb3.out.size
        have HownA := Hid2.mk (Hown3.out.alloc (.cells (cellsH [r]).toArray 27))
        have Hsl := Hid2.mk (SlV.fresh w3 (fun _ => True) 27 (m := 32) (n := 1) (l := cellsH [r]) (by rw [cellsH_len (okh_one hrl)]; rfl) (ones_cellsH _) trivial (by unfold maxLen; omega))
        have HbA := Hid2.mk (Hb3.out.alloc hs3 (.cells (cellsH [r]).toArray 27))
        have Hrl := Hid2.mk hrl
        have hlt2 : P.length ≤ 1000000 := by omega
        clear hb3 H2 HT2 Hown Hb2 hlt hrl
        go_wp2_with (first | (refine wpList_lit1 rfl (.tmp 56) rfl r Hrl.out rfl ?_
                              refine wpList_appV rfl (.tmp 52) (.tmp 57) 22 rfl elemHash rfl HownA.out rfl Hsl.out (n' := P.length + 1) rfl (by unfold maxLen; omega) (by omega) ?_
                              intro sp5 c5 w5 hown5 hg5 hat5))
        have hbf : Below w.heap.size w w5 := own_below2 (w1 := w) HbA.out hg5 (fun g e => HownA.out.own e)
        have Hbf := Hid2.mk hbf
        have Hfin := Hid2.mk hown5
        clear hg5 hat5 hbf hown5
        go_wp2_with fail
        go_ret
        rw [Hp.out]
        have hlen : (P ++ [r]).length = P.length + 1 := by simp
        unfold PathPost
        rw [hlen, cellsH_app]
        refine ⟨sp5, c5, rfl, Hfin.out.mono (fun b hb => ?_), Hbf.out⟩
        rcases hb with hb | hb
        · exact hb
        · rw [hb]; exact HbA.out.size

end Mk
end Go.Proofs.YtfdgclnjpbkggaaDoor
