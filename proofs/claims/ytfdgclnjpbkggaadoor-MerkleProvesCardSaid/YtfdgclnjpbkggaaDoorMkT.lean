/- The reference's Sub. -/
import Derived.Test.YtfdgclnjpbkggaaDoorMkS
namespace Go.Proofs.YtfdgclnjpbkggaaDoor
open Go.RowKit Go.Maps
namespace Mk

theorem sub_takes {m : Nat} {l : List H} {wh : Bool} (h2 : 2 ≤ l.length) (hne : ¬ m = l.length) (hm : m ≤ half l.length) : subP m l wh = subP m (l.take (half l.length)) wh ++ [rt (l.drop (half l.length))] := by
  unfold subP; rw [sub, if_neg hne, dif_pos h2, if_pos hm]; rfl
theorem sub_drops {m : Nat} {l : List H} {wh : Bool} (h2 : 2 ≤ l.length) (hne : ¬ m = l.length) (hm : ¬ m ≤ half l.length) : subP m l wh = subP (m - half l.length) (l.drop (half l.length)) false ++ [rt (l.take (half l.length))] := by
  unfold subP; rw [sub, if_neg hne, dif_pos h2, if_neg hm]; rfl

set_option maxRecDepth 100000 in
set_option maxHeartbeats 4000000 in
theorem refSub_any : ∀ (n : Nat) {w : World} {O : Nat → Prop} {v : Value} {l : List H} {i : Nat} {wh : Bool}, l.length = n → HS w O v l → n ≤ 1000000 → 1 ≤ i → i ≤ n →
    Calls Tryd.prog 34 #[.int .i64 (i : Nat), v, .bool wh] w (PathPost w (subP i l wh)) := by
  intro n
  induction n using Nat.strongRecOn with
  | ind n ih =>
    intro w O v l i wh hln h hn hi0 hi
    have H0 := Hid2.mk h
    have hok := h.1
    have Hih := Hid2.mk ih
    obtain ⟨sp, cap, rfl, hc, hc'⟩ := h.form
    rw [hln] at hc H0 ⊢
    clear ih h
    have Hln := Hid2.mk hln
    clear hln
    by_cases h1 : i = n
    · subst h1
      cases wh with
      | true =>
        have Hp := Hid2.mk (show subP i l true = [] from sub_all Hln.out.symm)
        go_enter Tryd.func34, Tryd.ntmps34
        go_wp2_with fail
        go_ret
        rw [Hp.out]
        exact ⟨none, 0, rfl, OwnV.nil _ _ _ _, Below.refl _ _⟩
      | false =>
        have Hp := Hid2.mk (show subP i l false = [rt l] from sub_self Hln.out.symm)
        have hrl := rt_len hok
        go_enter Tryd.func34, Tryd.ntmps34
        go_wp2_with fail
        refine (refRoot_any _ Hln.out H0.out hn).mono ?_
        rintro e w3 ⟨rfl, hb3⟩
        generalize rt l = r at Hp hrl ⊢
        have Hb3 := Hid2.mk hb3
        have Hrl := Hid2.mk hrl
        clear hb3 hrl
        go_wp2_with (refine wpList_lit1 rfl (.tmp 14) rfl r Hrl.out rfl ?_)
        go_ret
        rw [Hp.out]
        unfold PathPost
        exact ⟨_, _, rfl, (OwnV.one w3 Hrl.out).mono (fun b hb => by rw [hb]; exact Hb3.out.size), Hb3.out.alloc Hb3.out.size _⟩
    · have h2 : 2 ≤ n := by omega
      have g0 : ((i : Int) == (n : Int)) = false := by simp; omega
      have hkl := half_lt h2
      have hkp := half_pos n
      obtain ⟨b, o, cap', hv, -, -, hb, -, -, -⟩ := H0.out.at 0 (by rw [Hln.out]; omega)
      rw [Hln.out] at hv
      obtain ⟨rfl, rfl⟩ : sp = some ⟨b, o, none⟩ ∧ cap = cap' := by simpa using hv
      have Ht0 := Hid2.mk (H0.out.take (k := half n) (by rw [Hln.out]; omega))
      have Hd0 := Hid2.mk (H0.out.drop (k := half n) (by rw [Hln.out]; omega))
      have la := rt_len (okh_take hok (half n))
      have lb := rt_len (okh_drop hok (half n))
      have llt : (l.take (half n)).length = half n := by rw [List.length_take, Hln.out]; omega
      have lld : (l.drop (half n)).length = n - half n := by rw [List.length_drop, Hln.out]
      clear hv
      by_cases hik : i ≤ half n
      · have Hp := Hid2.mk (show subP i l wh = subP i (l.take (half n)) wh ++ [rt (l.drop (half n))] by have := sub_takes (m := i) (l := l) (wh := wh) (by rw [Hln.out]; exact h2) (by rw [Hln.out]; exact h1) (by rw [Hln.out]; exact hik); rw [Hln.out] at this; exact this)
        have hlt : (subP i (l.take (half n)) wh).length ≤ half n + 1 := sub_len (half n) llt
        have hrl := lb
        clear h1
        go_enter Tryd.func34, Tryd.ntmps34
        go_wp2_with fail
        refine (refHalf_any n _ h2 hn).mono ?_
        rintro e w' ⟨rfl, rfl⟩
        generalize half n = k at hkl hkp Hp Ht0 Hd0 la lb llt lld hlt hrl hik ⊢
        generalize l.take k = A at Hp Ht0 la llt hlt
        generalize l.drop k = B at Hp Hd0 lb lld hrl
        have hkc : (k : Int) ≤ cap := by omega
        have hck : ¬ cap = k := by omega
        have hkn : (k : Int) ≤ n := by omega
        have hik2 : (i : Int) ≤ k := by omega
        have hLlt := Hid2.mk llt
        have hLld := Hid2.mk lld
        clear llt lld la lb
        go_wp2_with fail
        have hS : True := trivial
        refine wp_region_till 11 (fun _ => True) (by kernel_rfl) ?_
        refine till_free (i := 0) rfl (by kernel_rfl) (by kernel_rfl) (by kernel_rfl) rfl (fun _ _ _ h => h) (.inr hS) (by rfl) (fun _ => by first | (go_simp; done) | (go_simp; with_reducible rfl)) ?_  -- move (tmp 0)
        refine till_free (i := 1) rfl (by kernel_rfl) (by kernel_rfl) (by kernel_rfl) rfl (fun _ _ _ h => h) (.inr hS) (by rfl) (fun _ => by first | (go_simp; done) | (go_simp; with_reducible rfl)) ?_  -- move (tmp 1)
        refine till_free (i := 2) rfl (by kernel_rfl) (by kernel_rfl) (by kernel_rfl) rfl (fun _ _ _ h => h) (.inr hS) (by rfl) (fun _ => by first | (go_simp; done) | (go_simp; with_reducible rfl)) ?_  -- move (tmp 7)
        refine till_free (i := 3) rfl (by kernel_rfl) (by kernel_rfl) (by kernel_rfl) rfl (fun _ _ _ h => h) (.inr hS) (by rfl) (fun _ => by first | (go_simp; done) | (go_simp; with_reducible rfl)) ?_  -- slice 22 (tmp 23) none (some (tmp 24)) none
        refine till_free (i := 4) rfl (by kernel_rfl) (by kernel_rfl) (by kernel_rfl) rfl (fun _ _ _ h => h) (.inr hS) (by rfl) (fun _ => by first | (go_simp; done) | (go_simp; with_reducible rfl)) ?_  -- move (tmp 2)
        refine till_free (i := 6) rfl (by kernel_rfl) (by kernel_rfl) (by kernel_rfl) rfl (fun _ _ _ h => h) (.inr hS) (by rfl) (fun _ => by first | (go_simp; done) | (go_simp; with_reducible rfl)) ?_  -- move (tmp 1)
        refine till_free (i := 7) rfl (by kernel_rfl) (by kernel_rfl) (by kernel_rfl) rfl (fun _ _ _ h => h) (.inr hS) (by rfl) (fun _ => by first | (go_simp; done) | (go_simp; with_reducible rfl)) ?_  -- move (tmp 7)
        refine till_free (i := 8) rfl (by kernel_rfl) (by kernel_rfl) (by kernel_rfl) rfl (fun _ _ _ h => h) (.inr hS) (by rfl) (fun _ => by first | (go_simp; done) | (go_simp; with_reducible rfl)) ?_  -- slice 22 (tmp 28) (some (tmp 29)) none none
        have hd1 : Below w.heap.size w w.drew := belowN (Below.refl w.heap.size w) 1
        have Ht1 := Hid2.mk (Ht0.out.below hd1 (Nat.le_refl _))
        have Hd1 := Hid2.mk (Hd0.out.below hd1 (Nat.le_refl _))
        have HBd := Hid2.mk hd1
        refine till_one (i := 5) (by kernel_rfl) rfl ?_; intro K hK
        go_simp
        refine (Hih.out k hkl hLlt.out Ht1.out (by omega) hi0 hik).mono ?_
        rintro e w2 ⟨sp2, c2, rfl, hown, hb2⟩
        generalize subP i A wh = P at Hp hlt hown ⊢
        have Hown := Hid2.mk (hown.mono (O' := fun b => w.heap.size ≤ b) (fun b (hb : _ ≤ b) => hb))
        have HB2 := Hid2.mk (HBd.out.trans hb2)
        have Hx2 := Hid2.mk (Hd1.out.below hb2 (Nat.le_refl _))
        refine hK _ _ (.inr trivial) ?_
        clear hK K hb2 hd1 hown
        refine till_one (i := 9) (by kernel_rfl) rfl ?_; intro K hK
        go_simp
        refine (refRoot_any _ hLld.out Hx2.out (by omega)).mono ?_
        rintro e w3 ⟨rfl, hb3⟩
        generalize rt B = r at Hp hrl ⊢
        have Hown3 := Hid2.mk (Hown.out.keep (Keep.of_below hb3) (fun g hg => Hown.out.lt hg))
        have Hb3 := Hid2.mk (HB2.out.trans (hb3.mono HB2.out.size))
        have hs3 : w.heap.size ≤ w3.heap.size := Hb3.out.size
        have HownA := Hid2.mk (Hown3.out.alloc (.cells (cellsH [r]).toArray 27))
        have Hsl := Hid2.mk (SlV.fresh w3 (fun _ => True) 27 (m := 32) (n := 1) (l := cellsH [r]) (by rw [cellsH_len (okh_one hrl)]; rfl) (ones_cellsH _) trivial (by unfold maxLen; omega))
        have HbA := Hid2.mk (Hb3.out.alloc hs3 (.cells (cellsH [r]).toArray 27))
        have Hrl := Hid2.mk hrl
        have hlt2 : P.length ≤ 1000000 := by omega
        refine hK _ _ (.inr trivial) ?_
        clear hK K hb3 HB2 Hown hlt hrl
        refine till_one (i := 10) (by kernel_rfl) rfl ?_; intro K hK
        refine step_lit1 rfl (.tmp 31) rfl r Hrl.out rfl ?_
        refine hK _ _ (.inr trivial) ?_
        clear hK K
        refine till_one (i := 11) (by kernel_rfl) rfl ?_; intro K hK
        refine step_appV rfl (.tmp 27) (.tmp 32) 22 rfl elemHash rfl HownA.out rfl Hsl.out (n' := P.length + 1) rfl (by unfold maxLen; omega) (by omega) ?_
        intro sp5 c5 w5 hown5 hg5 hat5
        have hbf : Below w.heap.size w w5 := own_below2 (w1 := w) HbA.out hg5 (fun g e => HownA.out.own e)
        have Hbf := Hid2.mk hbf
        have Hfin := Hid2.mk hown5
        refine hK _ _ (.inl rfl) ?_
        clear hK K hg5 hat5 hbf hown5
        refine till_free (i := 12) rfl (by kernel_rfl) (by kernel_rfl) (by kernel_rfl) rfl (fun _ _ _ h => h) (.inl rfl) (by rfl) (fun _ => by first | (go_simp; done) | (go_simp; with_reducible rfl)) ?_  -- assign (tmp 33)
        refine till_done (by kernel_rfl) ?_ _
        go_wp2_with fail
        go_ret
        rw [Hp.out]
        have hlen : (P ++ [r]).length = P.length + 1 := by simp
        unfold PathPost
        rw [hlen, cellsH_app]
        refine ⟨sp5, c5, rfl, Hfin.out.mono (fun b hb => ?_), Hbf.out⟩
        rcases hb with hb | hb
        · exact hb
        · rw [hb]; exact HbA.out.size
      · have Hp := Hid2.mk (show subP i l wh = subP (i - half n) (l.drop (half n)) false ++ [rt (l.take (half n))] by have := sub_drops (m := i) (l := l) (wh := wh) (by rw [Hln.out]; exact h2) (by rw [Hln.out]; exact h1) (by rw [Hln.out]; exact hik); rw [Hln.out] at this; exact this)
        have hlt : (subP (i - half n) (l.drop (half n)) false).length ≤ n - half n + 1 := sub_len (n - half n) lld
        have hrl := la
        clear h1
        go_enter Tryd.func34, Tryd.ntmps34
        go_wp2_with fail
        refine (refHalf_any n _ h2 hn).mono ?_
        rintro e w' ⟨rfl, rfl⟩
        generalize half n = k at hkl hkp Hp Ht0 Hd0 la lb llt lld hlt hrl hik ⊢
        generalize l.take k = A at Hp Ht0 la llt hrl
        generalize l.drop k = B at Hp Hd0 lb lld hlt
        have hkc : (k : Int) ≤ cap := by omega
        have hck : ¬ cap = k := by omega
        have hkn : (k : Int) ≤ n := by omega
        have hik2 : (k : Int) < i := by omega
        have hwi : IntKind.i64.wrap ((i : Int) - k) = ((i - k : Nat) : Int) := by
          have e : (i : Int) - k = ((i - k : Nat) : Int) := by omega
          rw [e]; exact IntWalk.i64_in _ (by omega)
        have hLlt := Hid2.mk llt
        have hLld := Hid2.mk lld
        clear llt lld la lb
        go_wp2_with fail
        have hS : True := trivial
        refine wp_region_till 12 (fun _ => True) (by kernel_rfl) ?_
        refine till_free (i := 0) rfl (by kernel_rfl) (by kernel_rfl) (by kernel_rfl) rfl (fun _ _ _ h => h) (.inr hS) (by rfl) (fun _ => by first | (go_simp; done) | (go_simp; with_reducible rfl)) ?_  -- move (tmp 0)
        refine till_free (i := 1) rfl (by kernel_rfl) (by kernel_rfl) (by kernel_rfl) rfl (fun _ _ _ h => h) (.inr hS) (by rfl) (fun _ => by first | (go_simp; done) | (go_simp; with_reducible rfl)) ?_  -- move (tmp 7)
        refine till_free (i := 2) rfl (by kernel_rfl) (by kernel_rfl) (by kernel_rfl) rfl (fun _ _ _ h => h) (.inr hS) (by rfl) (fun _ => by first | (go_simp; done) | (go_simp; with_reducible rfl)) ?_  -- binOp Binsub 3 (tmp 34) (tmp 35) 3
        refine till_free (i := 3) rfl (by kernel_rfl) (by kernel_rfl) (by kernel_rfl) rfl (fun _ _ _ h => h) (.inr hS) (by rfl) (fun _ => by first | (go_simp; done) | (go_simp; with_reducible rfl)) ?_  -- move (tmp 1)
        refine till_free (i := 4) rfl (by kernel_rfl) (by kernel_rfl) (by kernel_rfl) rfl (fun _ _ _ h => h) (.inr hS) (by rfl) (fun _ => by first | (go_simp; done) | (go_simp; with_reducible rfl)) ?_  -- move (tmp 7)
        refine till_free (i := 5) rfl (by kernel_rfl) (by kernel_rfl) (by kernel_rfl) rfl (fun _ _ _ h => h) (.inr hS) (by rfl) (fun _ => by first | (go_simp; done) | (go_simp; with_reducible rfl)) ?_  -- slice 22 (tmp 37) (some (tmp 38)) none none
        refine till_free (i := 7) rfl (by kernel_rfl) (by kernel_rfl) (by kernel_rfl) rfl (fun _ _ _ h => h) (.inr hS) (by rfl) (fun _ => by first | (go_simp; done) | (go_simp; with_reducible rfl)) ?_  -- move (tmp 1)
        refine till_free (i := 8) rfl (by kernel_rfl) (by kernel_rfl) (by kernel_rfl) rfl (fun _ _ _ h => h) (.inr hS) (by rfl) (fun _ => by first | (go_simp; done) | (go_simp; with_reducible rfl)) ?_  -- move (tmp 7)
        refine till_free (i := 9) rfl (by kernel_rfl) (by kernel_rfl) (by kernel_rfl) rfl (fun _ _ _ h => h) (.inr hS) (by rfl) (fun _ => by first | (go_simp; done) | (go_simp; with_reducible rfl)) ?_  -- slice 22 (tmp 41) none (some (tmp 42)) none
        have hd1 : Below w.heap.size w w.drew := belowN (Below.refl w.heap.size w) 1
        have Ht1 := Hid2.mk (Ht0.out.below hd1 (Nat.le_refl _))
        have Hd1 := Hid2.mk (Hd0.out.below hd1 (Nat.le_refl _))
        have HBd := Hid2.mk hd1
        refine till_one (i := 6) (by kernel_rfl) rfl ?_; intro K hK
        go_simp
        refine (Hih.out (n - k) (by omega) hLld.out Hd1.out (by omega) (by omega) (by omega)).mono ?_
        rintro e w2 ⟨sp2, c2, rfl, hown, hb2⟩
        generalize subP (i - k) B false = P at Hp hlt hown ⊢
        have Hown := Hid2.mk (hown.mono (O' := fun b => w.heap.size ≤ b) (fun b (hb : _ ≤ b) => hb))
        have HB2 := Hid2.mk (HBd.out.trans hb2)
        have Hx2 := Hid2.mk (Ht1.out.below hb2 (Nat.le_refl _))
        refine hK _ _ (.inr trivial) ?_
        clear hK K hb2 hd1 hown
        refine till_one (i := 10) (by kernel_rfl) rfl ?_; intro K hK
        go_simp
        refine (refRoot_any _ hLlt.out Hx2.out (by omega)).mono ?_
        rintro e w3 ⟨rfl, hb3⟩
        generalize rt A = r at Hp hrl ⊢
        have Hown3 := Hid2.mk (Hown.out.keep (Keep.of_below hb3) (fun g hg => Hown.out.lt hg))
        have Hb3 := Hid2.mk (HB2.out.trans (hb3.mono HB2.out.size))
        have hs3 : w.heap.size ≤ w3.heap.size := Hb3.out.size
        have HownA := Hid2.mk (Hown3.out.alloc (.cells (cellsH [r]).toArray 27))
        have Hsl := Hid2.mk (SlV.fresh w3 (fun _ => True) 27 (m := 32) (n := 1) (l := cellsH [r]) (by rw [cellsH_len (okh_one hrl)]; rfl) (ones_cellsH _) trivial (by unfold maxLen; omega))
        have HbA := Hid2.mk (Hb3.out.alloc hs3 (.cells (cellsH [r]).toArray 27))
        have Hrl := Hid2.mk hrl
        have hlt2 : P.length ≤ 1000000 := by omega
        refine hK _ _ (.inr trivial) ?_
        clear hK K hb3 HB2 Hown hlt hrl
        refine till_one (i := 11) (by kernel_rfl) rfl ?_; intro K hK
        refine step_lit1 rfl (.tmp 44) rfl r Hrl.out rfl ?_
        refine hK _ _ (.inr trivial) ?_
        clear hK K
        refine till_one (i := 12) (by kernel_rfl) rfl ?_; intro K hK
        refine step_appV rfl (.tmp 40) (.tmp 45) 22 rfl elemHash rfl HownA.out rfl Hsl.out (n' := P.length + 1) rfl (by unfold maxLen; omega) (by omega) ?_
        intro sp5 c5 w5 hown5 hg5 hat5
        have hbf : Below w.heap.size w w5 := own_below2 (w1 := w) HbA.out hg5 (fun g e => HownA.out.own e)
        have Hbf := Hid2.mk hbf
        have Hfin := Hid2.mk hown5
        refine hK _ _ (.inl rfl) ?_
        clear hK K hg5 hat5 hbf hown5
        refine till_free (i := 13) rfl (by kernel_rfl) (by kernel_rfl) (by kernel_rfl) rfl (fun _ _ _ h => h) (.inl rfl) (by rfl) (fun _ => by first | (go_simp; done) | (go_simp; with_reducible rfl)) ?_  -- assign (tmp 46)
        refine till_done (by kernel_rfl) ?_ _
        go_wp2_with fail
        go_ret
        rw [Hp.out]
        have hlen : (P ++ [r]).length = P.length + 1 := by simp
        unfold PathPost
        rw [hlen, cellsH_app]
        refine ⟨sp5, c5, rfl, Hfin.out.mono (fun b hb => ?_), Hbf.out⟩
        rcases hb with hb | hb
        · exact hb
        · rw [hb]; exact HbA.out.size

end Mk
end Go.Proofs.YtfdgclnjpbkggaaDoor
