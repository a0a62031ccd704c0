/- The catalog: Apply of an index: refusals. -/
import Derived.Test.YtdaljjicekheiaaCatH
namespace Go.Proofs.Ytdaljjicekheiaa
open Go.RowKit Go.Maps
namespace Cat

set_option maxRecDepth 100000 in
set_option maxHeartbeats 8000000 in
theorem apply_index {w : World} {c n : Nat} {O : Nat → Prop} {L : List Tb} {cs : Array Value} {txt : ByteArray} {tbl : Int} (h : IsCat w c O n L) (hE : Ent cs 7 txt tbl) (hn : n < 1000000000) :
    Calls Try.prog 9 #[.pointer (some ⟨c, 0, none⟩), .agg cs] w (AppPost w c n O L 7 txt tbl) := by
  have hz := zeroTable
  have hbel : Below w.heap.size w (w.alloc (.cells cs 37)) := (Below.refl _ w).alloc (Nat.le_refl _) _
  have h1 := h.below hbel (Nat.le_refl _)
  have HE := Hid2.mk hE
  obtain ⟨e0, e1, e2⟩ := ent_cells (w := w) hE
  have H := Hid2.mk h
  have HB := Hid2.mk hbel
  have H1 := Hid2.mk h1
  have HT := Hid2.mk (there_any h1 tbl)
  clear h hbel h1 hE
  cases ht : there L tbl with
  | false =>
    have hx : appC L 7 txt tbl = 7 := by unfold appC; rw [if_neg (by omega), if_neg (by omega), if_pos rfl, if_pos ht]
    have Hx := Hid2.mk hx
    have Ht := Hid2.mk ht
    clear hx ht
    go_enter Try.func9, Try.ntmps9
    go_wp2_with (refine (HT.out).mono ?_; rw [Ht.out]; rintro e w' ⟨rfl, rfl⟩)
    go_ret
    exact appPost_no Hx.out (by omega) H.out HB.out
  | true =>
    cases hnm : isNm txt with
    | false =>
      have hx : appC L 7 txt tbl = 3 := by unfold appC; rw [if_neg (by omega), if_neg (by omega), if_pos rfl, if_neg (by rw [ht]; simp), if_pos hnm]
      have Hx := Hid2.mk hx
      have Ht := Hid2.mk ht
      have Hnm := Hid2.mk hnm
      clear hx ht hnm
      go_enter Try.func9, Try.ntmps9
      go_wp2_with (first | (go_at_call 23; refine (HT.out).mono ?_; rw [Ht.out]; rintro e w' ⟨rfl, rfl⟩) | (go_at_call 22; refine (isName_any _ _).mono ?_; rw [Hnm.out]; rintro e w' ⟨rfl, rfl⟩))
      go_ret
      exact appPost_no Hx.out (by omega) H.out HB.out
    | true =>
      obtain ⟨k, rfl, hk⟩ : ∃ k : Nat, tbl = (k + 1 : Nat) ∧ k < L.length := ⟨(tbl - 1).toNat, by unfold there at ht; simp at ht; omega, by unfold there at ht; simp at ht; omega⟩
      have hlen := H.out.good.len
      obtain ⟨t, hte⟩ : ∃ t, t = L.getD k noTb := ⟨_, rfl⟩
      have ek : (((k + 1 : Nat) : Int) - 1).toNat = k := by omega
      obtain ⟨tv, dr, mb, hc, hOc, hOm, hO3, ⟨cells, hT, hI⟩, hB3, hM3, hG⟩ := H1.out
      have hIk := hI k hk
      rw [← hte] at hIk
      obtain ⟨g, cap, rfl, hcap, hcap2, hg, hOg, x0, x1, x2, sp, cc, x3, hown⟩ := tab_cells hT hk hIk
      have c0 := hc.cell 0 (by simp)
      have c2 := hc.cell 2 (by simp)
      simp only [List.getD_cons_zero, List.getD_cons_succ] at c0 c2
      have hlk : ∀ m, (Instr.lookup 66 (.map (some mb)) (.agg #[.int .i64 ((k : Int) + 1), .string txt]) false).run Try.prog ((w.alloc (.cells cs 37)).drewN m) = .ok (.bool (has L ((k + 1 : Nat) : Int) txt)) ((w.alloc (.cells cs 37)).drewN m) :=
        fun m => look_has (hM3.drewN m) ((k + 1 : Nat) : Int) txt ⟨HE.out.hwf, HE.out.hsh⟩
      have Hte := Hid2.mk hte
      have HT0 := Hid2.mk hT
      have HI := Hid2.mk hI
      have Hm := Hid2.mk hM3
      have Hown := Hid2.mk hown
      have HX := Hid2.mk (And.intro hOm (And.intro hO3 (And.intro hB3 hG)))
      have hfl : t.fs.length ≤ 16 := by rw [hte]; exact (hG.each k hk).2.1
      obtain ⟨nf, hnf⟩ : ∃ nf, nf = t.fs.length := ⟨_, rfl⟩
      rw [← hnf] at x3 hfl
      have hncc : nf ≤ cc := by obtain ⟨sp', cap', e, hle, -⟩ := hown.slice; injection e with _ _ e3; omega
      have Hnf := Hid2.mk hnf
      have Ht := Hid2.mk ht
      have Hnm := Hid2.mk hnm
      have Hc := Hid2.mk hc
      clear ht hc hT hI hIk hown hM3 hG hO3 hOm hte hB3 hnm hnf
      cases hh : has L ((k + 1 : Nat) : Int) txt with
      | true =>
        have hx : appC L 7 txt ((k + 1 : Nat) : Int) = 8 := by unfold appC; rw [if_neg (by omega), if_neg (by omega), if_pos rfl, if_neg (by rw [Ht.out]; simp), if_neg (by rw [Hnm.out]; simp), if_pos hh]
        rw [hh] at hlk
        have Hx := Hid2.mk hx
        clear hx hh ek
        go_enter Try.func9, Try.ntmps9
        go_wp2_with (first | (go_at_call 23; refine (HT.out).mono ?_; rw [Ht.out]; rintro e w' ⟨rfl, rfl⟩) | (go_at_call 22; refine (isName_any _ _).mono ?_; rw [Hnm.out]; rintro e w' ⟨rfl, rfl⟩))
        go_quiet (fail)
        clear hlk
        go_wp2_with fail
        go_ret
        exact appPost_no Hx.out (by omega) H.out (belowN HB.out _)
      | false =>
        rw [hh] at hlk
        have hwk : IntKind.i64.wrap (k : Int) = k := IntWalk.i64_in _ (by omega)
        have hkl : (k : Int) < L.length := by omega
        have hk0 : (0 : Int) ≤ k := by omega
        have Hh := Hid2.mk hh
        have Hek := Hid2.mk ek
        clear hh ek
        by_cases h16 : 16 ≤ nf
        · have hx : appC L 7 txt ((k + 1 : Nat) : Int) = 17 := by unfold appC; rw [if_neg (by omega), if_neg (by omega), if_pos rfl, if_neg (by rw [Ht.out]; simp), if_neg (by rw [Hnm.out]; simp), if_neg (by rw [Hh.out]; simp), Hek.out, if_pos (by rw [← Hte.out, ← Hnf.out]; exact h16)]
          have Hx := Hid2.mk hx
          have h16' : (16 : Int) ≤ nf := by omega
          clear hx
          go_enter Try.func9, Try.ntmps9
          go_wp2_with (first | (go_at_call 23; refine (HT.out).mono ?_; rw [Ht.out]; rintro e w' ⟨rfl, rfl⟩) | (go_at_call 22; refine (isName_any _ _).mono ?_; rw [Hnm.out]; rintro e w' ⟨rfl, rfl⟩))
          go_quiet (fail)
          clear hlk
          go_wp2_with fail
          go_quiet (fail)
          go_wp2_with fail
          go_ret
          exact appPost_no Hx.out (by omega) H.out (belowN (belowN HB.out _) _)
        · exact apply_index_ok H.out HE.out hn Ht.out Hnm.out Hh.out (by rw [Hek.out, ← Hte.out, ← Hnf.out]; omega)

end Cat
end Go.Proofs.Ytdaljjicekheiaa
