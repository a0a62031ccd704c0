/- The catalog: New, and Apply of whatever entry. -/
import Derived.Test.YtdaljjicekheiaaCatG
namespace Go.Proofs.Ytdaljjicekheiaa
open Go.RowKit Go.Maps
namespace Cat

set_option maxRecDepth 100000 in
set_option maxHeartbeats 800000 in
theorem apply_other {w : World} {c n : Nat} {O : Nat → Prop} {L : List Tb} {cs : Array Value} {kind : Int} {txt : ByteArray} {tbl : Int} (h : IsCat w c O n L) (hE : Ent cs kind txt tbl) (h5 : kind ≠ 5) (h6 : kind ≠ 6) (h7 : kind ≠ 7) :
    Calls Try.prog 9 #[.pointer (some ⟨c, 0, none⟩), .agg cs] w (AppPost w c n O L kind txt tbl) := by
  have hbel : Below w.heap.size w (w.alloc (.cells cs 37)) := (Below.refl _ w).alloc (Nat.le_refl _) _
  obtain ⟨e0, e1, e2⟩ := ent_cells (w := w) hE
  have hx : appC L kind txt tbl = 0 := by unfold appC; rw [if_neg h5, if_neg h6, if_neg h7]
  have hl : appL L kind txt tbl = L := by unfold appL; rw [if_pos hx, if_neg h5, if_neg h6, if_neg h7]
  have Hx := Hid2.mk hx
  have Hl := Hid2.mk hl
  have HB := Hid2.mk hbel
  have H := Hid2.mk h
  have g5 : (kind == 5) = false := beq_eq_false_iff_ne.2 h5
  have g6 : (kind == 6) = false := beq_eq_false_iff_ne.2 h6
  have g7 : (kind == 7) = false := beq_eq_false_iff_ne.2 h7
  clear hx hl hbel h hE h5 h6 h7 e1 e2
  go_enter Try.func9, Try.ntmps9
  go_wp2_with fail
  go_ret
  exact ⟨O, by rw [Hx.out]; rfl, by rw [Hl.out]; exact (H.out.below HB.out (Nat.le_refl _)).mono (by omega), (Keep.of_below HB.out).mono (fun b hb => hb.1), fun b hb => .inl hb⟩

theorem apply_any {w : World} {c n : Nat} {O : Nat → Prop} {L : List Tb} {cs : Array Value} {kind : Int} {txt : ByteArray} {tbl : Int} (h : IsCat w c O n L) (hE : Ent cs kind txt tbl) (hn : n < 1000000000) :
    Calls Try.prog 9 #[.pointer (some ⟨c, 0, none⟩), .agg cs] w (AppPost w c n O L kind txt tbl) := by
  by_cases h5 : kind = 5
  · subst h5; exact apply_table h hE
  · by_cases h6 : kind = 6
    · subst h6; exact apply_drop h hE
    · by_cases h7 : kind = 7
      · subst h7; exact apply_index h hE hn
      · exact apply_other h hE h5 h6 h7

set_option maxRecDepth 100000 in
set_option maxHeartbeats 800000 in
theorem apply_nil (cs : Array Value) (w : World) : Calls Try.prog 9 #[.pointer none, .agg cs] w fun e w' => e = .returned (.int .i64 1) ∧ Below w.heap.size w w' := by
  have hbel : Below w.heap.size w (w.alloc (.cells cs 37)) := (Below.refl _ w).alloc (Nat.le_refl _) _
  have HB := Hid2.mk hbel
  clear hbel
  go_enter Try.func9, Try.ntmps9
  go_wp2_with fail
  go_ret
  exact ⟨rfl, HB.out⟩

theorem good_nil : Good [] := ⟨by simp, fun i hi => by simp at hi⟩
set_option maxHeartbeats 800000 in
theorem new_any (w : World) : Calls Try.prog 8 #[] w fun e w' => ∃ O, e = .returned (.pointer (some ⟨w.heap.size + 1, 0, none⟩)) ∧ IsCat w' (w.heap.size + 1) O 0 [] ∧ Below w.heap.size w w' ∧ ∀ b, O b → w.heap.size ≤ b := by
  have hmm := @run_makeMap Try.prog
  go_enter Try.func8, Try.ntmps8
  go_wp2_with fail
  go_ret
  have hm : MF Try.prog 75 mk (w.alloc (.map #[] 0)) w.heap.size 0 (fun _ => none) := MF.made _ _ _ w
  have hs1 : (w.alloc (.map #[] 0)).heap.size = w.heap.size + 1 := by simp
  have hv := VBlk.mk (w.alloc (.map #[] 0)) [.slice none 0 0, .int .u64 0, .map (some w.heap.size)] 69
  rw [hs1] at hv
  refine ⟨fun b => b = w.heap.size ∨ b = w.heap.size + 1, rfl, ⟨.slice none 0 0, 0, w.heap.size, hv, .inr rfl, .inl rfl, fun b hb => ?_, ⟨[], OwnV.nil _ _ _ _, fun i hi => by simp at hi⟩, ⟨by omega, fun i => by simp [noTb]⟩, ?_, good_nil⟩, ((Below.refl _ _).alloc (Nat.le_refl _) _).alloc (by simp) _, fun b hb => by omega⟩
  · simp; omega
  · exact (hm.alloc _).congr fun x => by unfold hasF has; simp; omega

end Cat
end Go.Proofs.Ytdaljjicekheiaa
