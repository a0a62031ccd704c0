/- Memory of walks: own rows of bytes that grow; new blocks; texts' bytes. -/
import Derived.Test.YtdaljjicekheiaaKTy
import Derived.Test.YtdaljjicekheiaaRow
import Derived.Lib.ConvBytes
import Derived.Great.BuildSlice
namespace Go.Proofs.Ytdaljjicekheiaa
open Go.RowKit
namespace K

/-- The slice v is the call's own, and reads as the bytes l. -/
def Bu (w : World) (v : Value) (l : List Int) : Prop := Buf .u8 5 w 0 v l
/-- What becomes of memory when the own slice v becomes v'. -/
def Grow (w : World) (v : Value) (w' : World) (v' : Value) : Prop :=
  Keep (fun b => b < w.heap.size ∧ v.ownBlock ≠ some b) w w' ∧ ∀ g, v'.ownBlock = some g → v.ownBlock = some g ∨ w.heap.size ≤ g

theorem Grow.refl (w : World) (v : Value) : Grow w v w v := ⟨Keep.refl _ _, fun _ h => .inl h⟩
theorem Grow.trans {w w1 w2 : World} {v v1 v2 : Value} (h : Grow w v w1 v1) (k : Grow w1 v1 w2 v2) : Grow w v w2 v2 :=
  ⟨h.1.trans (k.1.mono fun b hb => ⟨Nat.lt_of_lt_of_le hb.1 h.1.size, fun e => (h.2 b e).elim hb.2 (fun h2 => absurd hb.1 (by omega))⟩),
   fun g hg => (k.2 g hg).elim (h.2 g) (fun h2 => .inr (Nat.le_trans h.1.size h2))⟩
theorem Grow.alloc {w w1 : World} {v v1 : Value} (h : Grow w v w1 v1) (o : Obj) : Grow w v (w1.alloc o) v1 :=
  ⟨h.1.trans ((Keep.refl _ w1).alloc (fun _ hk => Nat.lt_of_lt_of_le hk.1 h.1.size) o), h.2⟩
theorem Grow.below {w w1 w2 : World} {v v1 : Value} (h : Grow w v w1 v1) (k : Below w1.heap.size w1 w2) : Grow w v w2 v1 :=
  ⟨h.1.trans ((Keep.of_below k).mono fun _ hb => Nat.lt_of_lt_of_le hb.1 h.1.size), h.2⟩
theorem Grow.drewN {w w1 : World} {v v1 : Value} (h : Grow w v w1 v1) (n : Nat) : Grow w v (w1.drewN n) v1 := ⟨h.1.drewN n, h.2⟩
/-- What lies below where the own slices begin stays. -/
theorem Grow.old {w w' : World} {v v' : Value} (h : Grow w v w' v') {B : Nat} (hB : B ≤ w.heap.size) (hv : ∀ g, v.ownBlock = some g → B ≤ g) : Below B w w' :=
  (h.1.mono fun b (hb : b < B) => ⟨Nat.lt_of_lt_of_le hb hB, fun e => absurd (hv b e) (by omega)⟩).below
theorem Grow.own {w w' : World} {v v' : Value} (h : Grow w v w' v') {B : Nat} (hB : B ≤ w.heap.size) (hv : ∀ g, v.ownBlock = some g → B ≤ g) : ∀ g, v'.ownBlock = some g → B ≤ g :=
  fun g hg => (h.2 g hg).elim (hv g) (fun h2 => Nat.le_trans hB h2)

theorem Bu.nil (w : World) : Bu w (.slice none 0 0) [] := Buf.nil _ _ _ _
theorem Bu.lt {w : World} {v : Value} {l : List Int} (h : Bu w v l) : ∀ g, v.ownBlock = some g → g < w.heap.size := fun g hg => (Buf.own h g hg).2
theorem Bu.keep {K : Nat → Prop} {w w' : World} {v : Value} {l : List Int} (h : Bu w v l) (hk : Keep K w w') (hK : ∀ g, v.ownBlock = some g → K g) : Bu w' v l :=
  Buf.keep h hk fun g _ _ hg => hK g hg
theorem Bu.alloc {w : World} {v : Value} {l : List Int} (h : Bu w v l) (o : Obj) : Bu (w.alloc o) v l := Buf.alloc h o
theorem Bu.below {w w' : World} {v : Value} {l : List Int} (h : Bu w v l) (hk : Below w.heap.size w w') : Bu w' v l := Buf.below h hk (Nat.le_refl _)
theorem Bu.drewN {w : World} {v : Value} {l : List Int} (h : Bu w v l) (n : Nat) : Bu (w.drewN n) v l := h.below (((Keep.of_below (Below.refl _ w)).drewN n).below)
theorem Bu.sl {w : World} {v : Value} {l : List Int} (h : Bu w v l) : Sl .u8 w v l := Buf.sl h
/-- A row of bytes that has just been laid. -/
theorem Bu.new (w : World) (l : List Int) (hm : l.length ≤ maxLen) : Bu (w.alloc (.cells (l.map (Value.int .u8)).toArray 5)) (.slice (some ⟨w.heap.size, 0, none⟩) l.length l.length) l := by
  have := Buf.mk (k := .u8) (e := 5) (w := w) (base := 0) l [] (Nat.zero_le _) (by simpa using hm)
  simpa [Bu] using this

theorem Sl.slV {w : World} {v : Value} {l : List Int} (h : Sl .u8 w v l) : SlV w (fun _ => True) 1 v l.length (l.map (Value.int .u8)) := by
  obtain ⟨sp, cap, rfl, h1, h2, h3, h4⟩ := h
  refine ⟨by simp, Ones.int _ _, sp, cap, rfl, h1, h2, h4, fun h0 => ?_⟩
  obtain ⟨b, o, e, hb, hr⟩ := h3 h0
  refine ⟨b, o, e, hb, trivial, fun j hj => ?_⟩
  rw [List.length_map] at hj
  rw [hr j hj]
  simp [nth, hj]

theorem elemU8 : ElemV Try.prog 27 5 1 1 := ElemV.mk' (z := .int .u8 0) Try.underlying27 (by kernel_rfl) rfl (by omega)

theorem bytesWorld_below (w : World) (e : TypeId) (s : ByteArray) : Below w.heap.size w (Lib.bytesWorld w e s) :=
  ⟨rfl, rfl, rfl, by rw [Lib.bytesWorld_size]; omega, fun k hk => Lib.bytesWorld_at_old w e s k hk⟩

theorem Bu.form {w : World} {v : Value} {l : List Int} (h : Bu w v l) : ∃ sp c, v = .slice sp l.length c ∧ l.length ≤ c ∧ c ≤ 9223372036854775807 := by
  obtain ⟨sp, c, h1, h2, h3, -⟩ := Bu.sl h
  exact ⟨sp, c, h1, h2, h3⟩
theorem Bu.fresh {w w' : World} {v : Value} {l : List Int} (h : Bu w v l) (hk : Keep (fun b => b < w.heap.size) w w') : Bu w' v l := h.keep hk fun g hg => h.lt g hg

/-- A byte of an own row: where it lies; it may be written. -/
theorem Bu.at {w : World} {v : Value} {l : List Int} (h : Bu w v l) {j : Nat} (hj : j < l.length) : ∃ g c, v = .slice (some ⟨g, 0, none⟩) l.length c ∧ v.ownBlock = some g ∧ w.cell? ⟨g, j, none⟩ = some (.int .u8 (nth l j)) ∧ w.frozen? ⟨g, j, none⟩ = false ∧
    ∀ x, Bu (w.setCell ⟨g, j, none⟩ (.int .u8 x)) v (l.set j x) ∧ Grow w v (w.setCell ⟨g, j, none⟩ (.int .u8 x)) v := by
  have ho : OwnV 5 1 w (fun g => v.ownBlock = some g) v l.length (l.map (Value.int .u8)) := ⟨h, Ones.int _ _, fun g hg => hg⟩
  rcases Buf.block h with ⟨-, rfl⟩ | ⟨g, c, rest, rfl, -⟩
  · simp at hj
  · have hat := ho.at j (by simpa using hj)
    have hnth : (l.map (Value.int .u8)).getD j undef = .int .u8 (nth l j) := by simp [nth, hj]
    rw [hnth] at hat
    refine ⟨g, c, rfl, rfl, hat, ho.free j, fun x => ⟨?_, ?_, fun g2 hg2 => .inl hg2⟩⟩
    · have := (ho.stored j (u := .int .u8 x) rfl).1
      rw [← List.map_set] at this
      show World.ownsRow _ _ _ _ _ _ _
      rw [List.length_set]
      exact this
    · exact (Keep.refl _ w).setCell (fun hk => hk.2 rfl) _

/-- A new block. -/
structure Fresh (w : World) (g : Nat) (w' : World) (T : TypeId) (cs : List Value) : Prop where
  eq : g = w.heap.size
  blk : VBlk T w' g cs
  below : Below w.heap.size w w'
  size : w'.heap.size = w.heap.size + 1
theorem Fresh.mk' (w : World) (T : TypeId) (cs : List Value) : Fresh w w.heap.size (w.alloc (.cells cs.toArray T)) T cs :=
  ⟨rfl, VBlk.mk w cs T, (Below.refl _ w).alloc (Nat.le_refl _) _, by show (w.heap.push _).size = _; simp⟩

theorem VBlk.rangeAt {T : TypeId} {w : World} {b : Nat} {cs : List Value} (h : VBlk T w b cs) : w.rangeAt b 0 cs := by
  intro j v hj
  have hlt : j < cs.length := by
    rcases Nat.lt_or_ge j cs.length with h | h
    · exact h
    · rw [List.getElem?_eq_none h] at hj; cases hj
  have := h.cell j hlt
  rw [Nat.zero_add]
  rw [this]
  simp [List.getD_eq_getElem?_getD, hj]
end K
end Go.Proofs.Ytdaljjicekheiaa
