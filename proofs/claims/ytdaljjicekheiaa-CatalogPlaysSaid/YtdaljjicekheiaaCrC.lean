/- The document's catalog (chapter 14): Apply (printed by gen_crc.py). -/
import Derived.Test.YtdaljjicekheiaaCrB
import Derived.Test.YtdaljjicekheiaaCatM
import Derived.Test.YtdaljjicekheiaaCatI
namespace Go.Proofs.Ytdaljjicekheiaa
open Go.RowKit
namespace Cr
open K Cat
theorem elemRT : ElemV Try.prog 49 rtT 4 56 := ElemV.mk' (z := .agg zTab.toArray) Try.underlying49 (by kernel_rfl) rfl (by omega)
theorem elemSt : ElemV Try.prog 28 stT 1 16 := ElemV.mk' (z := .string ByteArray.empty) Try.underlying28 (by kernel_rfl) rfl (by omega)
/-- A literal's block as an own row. -/
theorem OwnV.fresh {w w' : World} {g e m n : Nat} {cs : List Value} {O : Nat → Prop} (h : Fresh w g w' e cs) (h1 : Ones cs) (hl : cs.length = n * m) (hn : n ≤ 1000000) (hO : O g) : OwnV e m w' O (.slice (some ⟨g, 0, none⟩) n n) n cs :=
  ⟨⟨hl, .inr ⟨g, n, cs.toArray, rfl, Nat.zero_le _, h.blk, Nat.le_refl _, by unfold maxLen; omega, by simp [hl], by simp [← hl]⟩⟩, h1, fun b hb => by cases hb; exact hO⟩
/-- What Apply promises. -/
def RApp (w : World) (rc : Nat) (O : Nat → Prop) (L : List Tb) (kind : Int) (txt : ByteArray) (tbl : Int) (e : Ending) (w' : World) : Prop :=
  ∃ O', e = .returned (.int .i64 (appC L kind txt tbl)) ∧ RCat w' rc O' (appL L kind txt tbl) ∧ Keep (fun b => b < w.heap.size ∧ ¬ O b) w w' ∧ ∀ b, O' b → O b ∨ w.heap.size ≤ b
theorem RApp.no {w w' : World} {rc : Nat} {O : Nat → Prop} {L : List Tb} {kind : Int} {txt : ByteArray} {tbl x : Int} (hx : appC L kind txt tbl = x) (hne : x ≠ 0) (h : RCat w rc O L) (hb : Below w.heap.size w w') : RApp w rc O L kind txt tbl (.returned (.int .i64 x)) w' :=
  ⟨O, by rw [hx], by unfold appL; rw [if_neg (by rw [hx]; exact hne)]; exact h.below hb, Keep.mono (Keep.of_below hb) (fun k hk => hk.1), fun b hb => .inl hb⟩
theorem ent_at {w : World} {g T : Nat} {cs : Array Value} {kind tbl : Int} {txt : ByteArray} (hE : Ent cs kind txt tbl) (h : VBlk T w g cs.toList) : w.cell? ⟨g, 0, none⟩ = some (.int .i64 kind) ∧ w.cell? ⟨g, 1, none⟩ = some (.string txt) ∧ w.cell? ⟨g, 2, none⟩ = some (.int .i64 tbl) := by
  have hl : cs.toList.length = 46 := by simpa using hE.hsz
  have e : ∀ j v, cs[j]? = some v → cs.toList.getD j undef = v := fun j v hv => by rw [List.getD_eq_getElem?_getD, Array.getElem?_toList, hv]; rfl
  exact ⟨by rw [h.cell 0 (by omega), e _ _ hE.hk], by rw [h.cell 1 (by omega), e _ _ hE.htx], by rw [h.cell 2 (by omega), e _ _ hE.htb]⟩

/-- A table more. -/
theorem RC.push {w w0 w' : World} {rc : Nat} {O O2 : Nat → Prop} {L : List Tb} {tv tv' : Value} {cells : List Value} {txt : ByteArray} (h : RC w rc O L tv cells) (hk : Keep (fun b => b < w0.heap.size) w w') (hs : w0.heap.size = w.heap.size) (h64 : L.length < 64) (hnm : isNm txt = true)
    (ho : OwnV rtT 4 w' O2 tv' (L.length + 1) (cells ++ [.int .i64 ((L.length : Int) + 1), .string txt, .bool false, .slice none 0 0])) (hO2 : ∀ g, tv'.ownBlock = some g → w.heap.size ≤ g) :
    RC (w'.setCell ⟨rc, 0, none⟩ tv') rc (fun b => (O b ∨ w.heap.size ≤ b) ∧ b < w'.heap.size) (L ++ [⟨txt, false, []⟩]) tv' (cells ++ [.int .i64 ((L.length : Int) + 1), .string txt, .bool false, .slice none 0 0]) ∧
      Keep (fun b => b < w.heap.size ∧ ¬ O b) w (w'.setCell ⟨rc, 0, none⟩ tv') := by
  rw [hs] at hk
  have hz := hk.size
  have hrc := h.lt _ h.rc
  have hl := h.own.len
  have vb' : VBlk rcT w' rc [tv] := h.vb.keep hk hrc
  have hnm' : 1 ≤ txt.size ∧ txt.size ≤ 40 := by unfold isNm at hnm; simpa using hnm
  have hsz : (w'.setCell ⟨rc, 0, none⟩ tv').heap.size = w'.heap.size := by simp
  refine ⟨⟨vb'.set 0 tv', ?_, fun i hi => ?_, ⟨.inl h.rc, by omega⟩, fun b hb => by rw [hsz]; exact hb.2, ?_⟩, Keep.setCell (hk.mono fun b hb => hb.1) (fun hh => hh.2 h.rc) _⟩
  · rw [show (L ++ [(⟨txt, false, []⟩ : Tb)]).length = L.length + 1 by simp]
    have ho' : OwnV rtT 4 w' (fun b => (O b ∨ w.heap.size ≤ b) ∧ b < w'.heap.size) tv' (L.length + 1) (cells ++ [.int .i64 ((L.length : Int) + 1), .string txt, .bool false, .slice none 0 0]) := ⟨ho.1, ho.2.1, fun g hg => ⟨.inr (hO2 g hg), ho.lt hg⟩⟩
    refine ho'.of_block fun g hg => Below.heap_setCell w' _ _ g ?_
    have := hO2 g hg
    show g ≠ rc
    omega
  · have hb : ∀ b, O b → (∃ cur, w.heap[b]? = some (.cells cur stT (0, 0))) → (w'.setCell ⟨rc, 0, none⟩ tv').heap[b]? = w.heap[b]? := fun b hb ⟨cur, hc⟩ => by
      rw [Below.heap_setCell w' _ _ b (fun e => ?_), hk.block b (h.lt b hb)]
      have e' : b = rc := e
      have hv : w.heap[rc]? = some (.cells [tv].toArray rcT (0, 0)) := h.vb
      rw [e', hv] at hc
      injection hc with hc
      injection hc with _ hc _
      exact absurd hc (by decide)
    by_cases hlt : i < L.length
    · rw [Cat.getD_left _ _ _ _ hlt]
      exact ((h.tab i hlt).of_block hb).left (by omega) |>.mono fun b hb => ⟨.inl hb, Nat.lt_of_lt_of_le (h.lt b hb) hz⟩
    · obtain rfl : i = L.length := by simp at hi; omega
      have e : (L ++ [(⟨txt, false, []⟩ : Tb)]).getD L.length noTb = ⟨txt, false, []⟩ := by simp
      rw [e]
      exact IsTab.last (t := ⟨txt, false, []⟩) (by omega) (OwnV.nil _ _ _ _)
  · refine ⟨by simp; omega, fun i hi => ?_⟩
    by_cases hlt : i < L.length
    · rw [Cat.getD_left _ _ _ _ hlt]; exact h.good.each i hlt
    · obtain rfl : i = L.length := by simp at hi; omega
      have e : (L ++ [(⟨txt, false, []⟩ : Tb)]).getD L.length noTb = ⟨txt, false, []⟩ := by simp
      rw [e]
      exact ⟨hnm'.2, by simp, by simp, by simp⟩
/-- Cells of one table are other ones. -/
theorem RC.place {w w' : World} {rc : Nat} {O O' : Nat → Prop} {L : List Tb} {cells cells' : List Value} {t : Tb} {g cap k : Nat} (h : RC w rc O L (.slice (some ⟨g, 0, none⟩) L.length cap) cells) (hk : k < L.length)
    (hb : ∀ b, b < w.heap.size → b ≠ g → w'.heap[b]? = w.heap[b]?) (ho : OwnV rtT 4 w' O (.slice (some ⟨g, 0, none⟩) L.length cap) L.length cells') (hO : ∀ b, O b → O' b) (hlt : ∀ b, O' b → b < w'.heap.size)
    (hc : ∀ i, i ≠ k → ∀ j, j < 4 → cells'.getD (i * 4 + j) undef = cells.getD (i * 4 + j) undef) (ht : IsTab stT w' O' cells' k t) (hg : Cat.Good (L.set k t)) : RC w' rc O' (L.set k t) (.slice (some ⟨g, 0, none⟩) L.length cap) cells' := by
  have htag : w.heap[g]? = some (.cells ((w.heap[g]?).elim #[] fun | .cells c _ _ => c | _ => #[]) rtT (0, 0)) := by
    obtain ⟨cur, hcur⟩ := h.own.tag (g := g) rfl
    rw [hcur]; rfl
  have hrcg : rc ≠ g := fun e => by
    have hv : w.heap[rc]? = some (.cells [Value.slice (some ⟨g, 0, none⟩) L.length cap].toArray rcT (0, 0)) := h.vb
    rw [e, htag] at hv
    injection hv with hv
    injection hv with _ hv _
    exact absurd hv (by decide)
  refine ⟨(hb rc (h.lt _ h.rc) hrcg).trans h.vb, ?_, fun i hi => ?_, hO _ h.rc, hlt, hg⟩
  · rw [List.length_set]; exact ho.mono hO
  · rw [List.length_set] at hi
    by_cases e : i = k
    · subst e
      rw [Cat.getD_set_eq _ _ _ _ hi]; exact ht
    · rw [Cat.getD_set_ne _ _ _ _ _ (fun q => e q.symm)]
      refine ((h.tab i hi).moved (hc i e) fun b hOb ⟨cur, hcur⟩ => hb b (h.lt b hOb) fun q => ?_).mono hO
      rw [q, htag] at hcur
      injection hcur with hcur
      injection hcur with _ hcur _
      exact absurd hcur (by decide)
end Cr
end Go.Proofs.Ytdaljjicekheiaa
