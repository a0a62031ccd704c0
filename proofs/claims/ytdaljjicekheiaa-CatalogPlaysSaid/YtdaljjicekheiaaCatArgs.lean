/- Entries that came in: one by value, and rows of them. -/
import Derived.Test.YtdaljjicekheiaaCatE
import Derived.Test.YtdaljjicekheiaaArgs
import Derived.Deep.Slices
import Derived.Deep.MidRow
namespace Go.Proofs.Ytdaljjicekheiaa
open Go.ChangeShapes Go.WideShapes Go.ChangeAt Go.RowKit
namespace Cat

theorem entCells : Try.prog.cellsOf 37 = 46 := by kernel_rfl

theorem take_one {l : List Value} {o : Nat} {v : Value} (h : (l.drop o).take 1 = [v]) : l[o]? = some v := by
  have : ((l.drop o).take 1)[0]? = some v := by rw [h]; rfl
  simpa using this

/-- The cells of an Entry. -/
theorem ent_of {H : Type} {enc : TypeId × Value → H} {w : World} {base : Nat} {spare : Nat → Bool} {held : Bool} {fuel : Nat} {cs : List Value} {x : DataW H × List MemPlace}
    (h : DataW.trod enc Try.prog w base spare held fuel 37 cs = some x) : ∃ kind txt tbl, Ent cs.toArray kind txt tbl := by
  obtain ⟨xs, n, -, -, hl, hxl, hx⟩ := DataW.trod_struct Try.underlying37 h
  have h0 := hx 0 _ rfl
  have h1 := hx 1 _ rfl
  have h2 := hx 2 _ rfl
  have hxl' : xs.length = 9 := hxl
  obtain ⟨x0, e0⟩ : ∃ y, xs[0]? = some y := ⟨xs[0], List.getElem?_eq_getElem (by omega)⟩
  obtain ⟨x1, e1⟩ : ∃ y, xs[1]? = some y := ⟨xs[1], List.getElem?_eq_getElem (by omega)⟩
  obtain ⟨x2, e2⟩ : ∃ y, xs[2]? = some y := ⟨xs[2], List.getElem?_eq_getElem (by omega)⟩
  rw [e0] at h0; rw [e1] at h1; rw [e2] at h2
  obtain ⟨a, ha, -, -⟩ := DataW.trod_int Try.underlying3 h0
  obtain ⟨s, hs, -, hsz⟩ := DataW.trod_string Try.underlying9 h1
  obtain ⟨b, hb, -, hwf⟩ := DataW.trod_int Try.underlying3 h2
  have ci : Try.prog.cellsOf 3 = 1 := by kernel_rfl
  have cstr : Try.prog.cellsOf 9 = 1 := by kernel_rfl
  have ha' : (cs.drop 0).take 1 = [.int .i64 a] := by rw [← ci]; exact ha
  have hb' : (cs.drop 2).take 1 = [.int .i64 b] := by rw [← ci]; exact hb
  have hs' : (cs.drop 1).take 1 = [.string s] := by rw [← cstr]; exact hs
  rw [entCells] at hl
  exact ⟨a, s, b, by simpa using hl, by simpa using take_one ha', by simpa using take_one hs', by simpa using take_one hb', hsz, hwf⟩

/-- An Entry that came in by value. -/
theorem open_ent {H : Type} {enc : TypeId × Value → H} {W : World} {base b0 : Nat} {spare : Nat → Bool} {held : Bool} {r : Reach} {v : Value} {d : DataW H} {p : List MemPlace}
    (hval : Value.okWide Try.prog W r b0 37 v) (h : DataW.Trod enc Try.prog W base spare held 37 v d p) : ∃ cs kind txt tbl, v = .agg cs ∧ Ent cs kind txt tbl := by
  obtain ⟨cs, rfl, -⟩ := okWide_struct Try.underlying37 hval
  obtain ⟨fuel, hf⟩ := h
  obtain ⟨kind, txt, tbl, hE⟩ := ent_of hf
  exact ⟨cs, kind, txt, tbl, rfl, by simpa [Value.cells] using hE⟩

/-- An entry: its cells, kind, text, table. -/
structure En where
  cs : Array Value
  kind : Int
  txt : ByteArray
  tbl : Int
def noEn : En := ⟨#[], 0, ByteArray.empty, 0⟩
def En.ok (e : En) : Prop := Ent e.cs e.kind e.txt e.tbl
/-- The slice v reads as the entries l. -/
def Ents (w : World) (v : Value) (l : List En) : Prop :=
  ∃ sp cap, v = .slice sp l.length cap ∧ l.length ≤ cap ∧ cap ≤ 9223372036854775807 ∧ (∀ k, k < l.length → (l.getD k noEn).ok) ∧
    (0 < l.length → ∃ b o, sp = some ⟨b, o, none⟩ ∧ b < w.heap.size ∧ ∀ k, k < l.length → w.rangeAt b (o + k * 46) (l.getD k noEn).cs.toList)

theorem Ents.below {w w' : World} {v : Value} {l : List En} (h : Ents w v l) (hb : Below w.heap.size w w') : Ents w' v l := by
  obtain ⟨sp, cap, h1, h2, h3, h4, h5⟩ := h
  refine ⟨sp, cap, h1, h2, h3, h4, fun h0 => ?_⟩
  obtain ⟨b, o, e, hlt, hr⟩ := h5 h0
  exact ⟨b, o, e, Nat.lt_of_lt_of_le hlt hb.size, fun k hk j u hu => by rw [hb.cell (p := ⟨b, o + k * 46 + j, none⟩) hlt]; exact hr k hk j u hu⟩

/-- A row of entries that came in. -/
theorem open_ents {H : Type} {enc : TypeId × Value → H} {W : World} {base b0 : Nat} {held : Bool} {r : Reach} {v : Value} {d : DataW H} {p : List MemPlace}
    (hval : Value.okWide Try.prog W r b0 39 v) (h : DataW.Trod enc Try.prog W base (fun _ => true) held 39 v d p) : ∃ l, Ents W v l := by
  obtain ⟨a, len, cap, rfl⟩ := okWide_slice Try.underlying39 hval
  obtain ⟨fuel, hf⟩ := h
  rcases Deep.open_slice Try.underlying39 hf with ⟨hcs, -⟩ | ⟨x, len', cap', m, n, D, Pl, hcs, -, hl, hm, hmm, -, hel⟩
  · simp [Value.cells] at hcs
    obtain ⟨rfl, rfl, rfl⟩ := hcs
    exact ⟨[], none, 0, rfl, by simp, by omega, fun k hk => by simp at hk, fun h => by simp at h⟩
  · simp [Value.cells] at hcs
    obtain ⟨rfl, rfl, rfl⟩ := hcs
    have hmm' : m = cap := by simpa using hmm
    subst hmm'
    have key : ∀ i, i < len → ∃ e : En, e.ok ∧ ∀ j u, e.cs.toList[j]? = some u → W.cell? ((x.add (i * 46)).add j) = some u := by
      intro i hi
      obtain ⟨cs', h1, h2⟩ := hel i (by omega)
      rw [entCells] at h1
      obtain ⟨kind, txt, tbl, hE⟩ := ent_of h2
      obtain ⟨-, hlen, hat⟩ := World.cells?_some h1
      refine ⟨⟨cs'.toArray, kind, txt, tbl⟩, hE, fun j u hu => ?_⟩
      have hj : j < 46 := by
        rcases Nat.lt_or_ge j 46 with h | h
        · exact h
        · simp at hu
          obtain ⟨h', -⟩ := List.getElem?_eq_some_iff.1 hu
          omega
      rw [hat j hj]
      simpa using hu
    have : Inhabited En := ⟨noEn⟩
    obtain ⟨f, hf⟩ := Deep.choose_lt key
    have hget : ∀ k, k < len → ((List.range len).map f).getD k noEn = f k := fun k hk => by simp [hk]
    refine ⟨(List.range len).map f, some x, m, by simp, by simpa using hl, by unfold maxLen at hm; exact hm, fun k hk => ?_, fun h0 => ?_⟩
    · have hk' : k < len := by simpa using hk
      rw [hget k hk']; exact (hf k hk').1
    · have h0' : 0 < len := by simpa using h0
      have hsz := (hf 0 h0').1.hsz
      have hx0 := (hf 0 h0').2 0 ((f 0).cs.toList[0]'(by simp; omega)) (by simp)
      have e0 : (x.add (0 * 46)).add 0 = x := rfl
      rw [e0] at hx0
      have hsp := cell_spot hx0
      obtain ⟨b, o, s⟩ := x
      simp only at hsp
      subst hsp
      refine ⟨b, o, rfl, block_lt_of_cell hx0, fun k hk j u hu => ?_⟩
      have hk' : k < len := by simpa using hk
      rw [hget k hk'] at hu
      have := (hf k hk').2 j u hu
      rw [addr_add, addr_add] at this
      exact this

end Cat
end Go.Proofs.Ytdaljjicekheiaa
