/- Digests laid into the middle of a block of one's own: what is kept. -/
import Derived.Test.YtfdgclnjpbkggaaDoorMkW
namespace Go.Proofs.YtfdgclnjpbkggaaDoor
open Go.RowKit Go.Maps
namespace Mk

theorem keep_setCells {K : Nat → Prop} {b : Nat} (hb : ¬ K b) : ∀ (vs : List Value) (o : Nat) (a w : World), Keep K a w → Keep K a (w.setCells b o vs)
  | [], _, _, _, h => h
  | v :: r, o, a, w, h => keep_setCells hb r (o + 1) a (w.setCell ⟨b, o, none⟩ v) (h.setCell hb v)
theorem vblk_setCells {T : TypeId} {b : Nat} : ∀ (vs : List Value) (o : Nat) (w : World) (l : List Value), VBlk T w b l → ∃ l', l'.length = l.length ∧ VBlk T (w.setCells b o vs) b l'
  | [], _, _, l, h => ⟨l, rfl, h⟩
  | v :: r, o, w, l, h => by
    obtain ⟨l', h1, h2⟩ := vblk_setCells r (o + 1) (w.setCell ⟨b, o, none⟩ v) (l.set o v) (h.set o v)
    exact ⟨l', by rw [h1, List.length_set], h2⟩
theorem there_vblk {T : TypeId} {w : World} {b : Nat} {l : List Value} (h : VBlk T w b l) {o n : Nat} (hn : o + n ≤ l.length) : w.there b o n := fun j hj =>
  ⟨by rw [h.cell (o + j) (by omega)]; rfl, h.free (o + j)⟩

end Mk
end Go.Proofs.YtfdgclnjpbkggaaDoor
