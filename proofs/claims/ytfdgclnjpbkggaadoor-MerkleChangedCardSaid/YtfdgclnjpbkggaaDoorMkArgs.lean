/- Digests that came in; the library's table, as the row lays it. -/
import Derived.Test.YtfdgclnjpbkggaaDoorMkFa
import Derived.Test.YtfdgclnjpbkggaaDoorArgs
import Derived.Deep.Slices
import Derived.LaidMore
import Derived.Stop.Joined
import Derived.MakeChecks
import Derived.SizedLaws
namespace Go.Proofs.YtfdgclnjpbkggaaDoor
open Go.ChangeShapes Go.WideShapes Go.ChangeAt Go.RowKit
namespace Mk

/-- What the row lays, and its variable's name. -/
def laidL : List (String × DataW Unit) := Rows.merkleGoesRow.laid
def tabName : String := (laidL.map (·.1)).headD Rows.merkleGoesRow.func
theorem laidL_is : laidL = [(tabName, Rows.laid_math_bits_deBruijn64tab)] := rfl
theorem gTab : Tryd.prog.globalNamed tabName = some 0 := by kernel_rfl
theorem tTab : (Tryd.prog.globals[0]?).map (·.type) = some 93 := by kernel_rfl
theorem datum_is : (Rows.laid_math_bits_deBruijn64tab : DataW Unit) = .agg (Lib.deBruijn64tab.map fun n : Nat => .lit (.int .u8 (n : Int))) := rfl

theorem of_laid {W : World} (h : laidMetH Tryd.prog laidL W) : Tab W := by
  rw [MakeChecks.laidMetH_plain _ _ _ (by kernel_rfl), laidL_is] at h
  obtain ⟨ps, ⟨g0, t0, cs0, f0, p0, q0, hg0, ht0, hv0, hd0, _, _⟩, _, _⟩ := h
  obtain rfl := Option.some.inj (gTab.symm.trans hg0)
  obtain rfl := Option.some.inj (tTab.symm.trans ht0)
  obtain ⟨xs, m1, rfl, hx1, hlen, hn3, hel⟩ := DataW.trod_array Tryd.underlying93 hd0
  have c5 : Tryd.prog.cellsOf 5 = 1 := by kernel_rfl
  simp only [Prod.mk.injEq] at hx1
  have hxs : Lib.deBruijn64tab.map (fun n : Nat => (DataW.lit (.int .u8 (n : Int)) : DataW Unit)) = xs.map (·.1) := by
    have := hx1.1
    rw [datum_is] at this
    injection this
  intro j hj
  have hj64 : j < 64 := hj
  have h0 := hel j hj64
  obtain ⟨x, hx⟩ : ∃ x, xs[j]? = some x := ⟨xs[j]'(by omega), List.getElem?_eq_getElem (by omega)⟩
  rw [hx] at h0
  obtain ⟨k, e1, e2, _⟩ := DataW.trod_int Tryd.underlying5 h0
  have e1' : (cs0.toList.drop j).take 1 = [.int .u8 k] := by
    rw [c5, Nat.mul_one] at e1; exact e1
  have hk : (Lib.deBruijn64tab.map (fun n : Nat => (DataW.lit (.int .u8 (n : Int)) : DataW Unit)))[j]? = some x.1 := by rw [hxs, List.getElem?_map, hx]; rfl
  rw [e2, List.getElem?_map] at hk
  have hjl : j < Lib.deBruijn64tab.length := hj
  rw [List.getElem?_eq_getElem hjl] at hk
  simp only [Option.map_some, Option.some.injEq, DataW.lit.injEq, Lit.int.injEq, true_and] at hk
  have hcell := World.var?_cell hg0 hv0 j
  have e3 : cs0[j]? = some (.int .u8 k) := by
    have : ((cs0.toList.drop j).take 1)[0]? = some (.int .u8 k) := by rw [e1']; rfl
    simpa using this
  show W.cell? ⟨0, j, none⟩ = _
  rw [hcell, e3, ← hk]
  have : Lib.deBruijn64tab.getD j 0 = Lib.deBruijn64tab[j] := by simp [hjl]
  rw [this]

/-- The door's own heap meets the condition. -/
theorem door_met (os : Os) (args : Array Value) : laidMetH Tryd.prog laidL ((World.doorLaid Tryd.prog 14 os).forCall (fun _ _ => 0) ⟨#[], args, []⟩).memory :=
  laidMetH_of_parts3 (fuel := 8) (laidMet_of_run' 8 (by kernel_rfl) (by kernel_rfl)) (by kernel_rfl) (by kernel_rfl)

theorem hashCells : Tryd.prog.cellsOf 27 = 32 := by kernel_rfl
theorem byteCells : Tryd.prog.cellsOf 5 = 1 := by kernel_rfl

/-- The cells of a digest. -/
theorem hash_of {H : Type} {enc : TypeId × Value → H} {w : World} {base : Nat} {spare : Nat → Bool} {held : Bool} {fuel : Nat} {cs : List Value} {x : DataW H × List MemPlace}
    (h : DataW.trod enc Tryd.prog w base spare held fuel 27 cs = some x) : ∃ l : List Int, l.length = 32 ∧ cs = l.map (Value.int .u8) := by
  obtain ⟨xs, m, -, -, hl, hxl, hx⟩ := DataW.trod_array Tryd.underlying27 h
  rw [hashCells] at hl
  have hel : ∀ i, i < 32 → ∃ q, cs[i]? = some (.int .u8 q) := by
    intro i hi
    have h0 := hx i hi
    obtain ⟨y, hy⟩ : ∃ y, xs[i]? = some y := ⟨xs[i]'(by omega), List.getElem?_eq_getElem (by omega)⟩
    rw [hy, byteCells, Nat.mul_one] at h0
    obtain ⟨k, e1, -, -⟩ := DataW.trod_int Tryd.underlying5 h0
    have : ((cs.drop i).take 1)[0]? = some (.int .u8 k) := by rw [e1]; rfl
    exact ⟨k, by simpa using this⟩
  obtain ⟨f, hf⟩ := Deep.choose_lt hel
  refine ⟨(List.range 32).map f, by simp, ?_⟩
  apply List.ext_getElem?
  intro i
  by_cases hi : i < 32
  · rw [hf i hi]; simp [hi]
  · rw [List.getElem?_eq_none (by omega), List.getElem?_eq_none (by simp; omega)]

/-- A row of digests that came in. -/
theorem open_hashes {H' : Type} {enc : TypeId × Value → H'} {W : World} {base b0 : Nat} {held : Bool} {r : Reach} {v : Value} {d : DataW H'} {p : List MemPlace}
    (hval : Value.okWide Tryd.prog W r b0 22 v) (h : DataW.Trod enc Tryd.prog W base (fun _ => true) held 22 v d p) :
    ∃ l, HS W (fun _ => True) v l ∧ ∀ (ts : List TypeId) (ds : List (DataW H')) (j : Nat), ts[j]? = some 22 → ds[j]? = some d → (DataW.weightsEach Tryd.prog ts ds).all (· ≤ reachBytes) = true → l.length ≤ 140737488355328 := by
  obtain ⟨a, len, cap, rfl⟩ := okWide_slice Tryd.underlying22 hval
  obtain ⟨fuel, hf⟩ := h
  rcases Deep.open_slice Tryd.underlying22 hf with ⟨hcs, -⟩ | ⟨x, len', cap', m, n, D, Pl, hcs, -, hl, hm, hmm, hdx, hel⟩
  · simp [Value.cells] at hcs
    obtain ⟨rfl, rfl, rfl⟩ := hcs
    exact ⟨[], ⟨okh_nil, SlV.nil _ _ _⟩, fun _ _ _ _ _ _ => by simp⟩
  · simp [Value.cells] at hcs
    obtain ⟨rfl, rfl, rfl⟩ := hcs
    have hmm' : m = cap := by simpa using hmm
    subst hmm'
    have key : ∀ i, i < len → ∃ e : H, e.length = 32 ∧ ∀ j, j < 32 → W.cell? ((x.add (i * 32)).add j) = (e.map (Value.int .u8))[j]? := by
      intro i hi
      obtain ⟨cs', h1, h2⟩ := hel i (by omega)
      rw [hashCells] at h1
      obtain ⟨l, hl32, rfl⟩ := hash_of h2
      obtain ⟨-, hlen, hat⟩ := World.cells?_some h1
      exact ⟨l, hl32, fun j hj => hat j hj⟩
    obtain ⟨f, hf⟩ := Deep.choose_lt key
    have hget : ∀ k, k < len → ((List.range len).map f).getD k [] = f k := fun k hk => by simp [hk]
    have hok : Okh ((List.range len).map f) := fun h hh => by
      obtain ⟨i, hi, rfl⟩ := List.mem_map.1 hh
      exact (hf i (List.mem_range.1 hi)).1
    have hll : ((List.range len).map f).length = len := by simp
    refine ⟨(List.range len).map f, ⟨hok, cellsH_len hok, ones_cellsH _, some x, m, by rw [hll], by rw [hll]; omega, by unfold maxLen at hm; exact hm, (fun h => by cases h), fun h0 => ?_⟩, fun ts ds j ht hd hz => ?_⟩
    · rw [hll] at h0
      have hx0 := (hf 0 h0).2 0 (by omega)
      have e0 : (x.add (0 * 32)).add 0 = x := rfl
      rw [e0] at hx0
      have h32 := (hf 0 h0).1
      rw [List.getElem?_eq_getElem (by rw [List.length_map]; omega)] at hx0
      have hsp := cell_spot hx0
      obtain ⟨b, o, s⟩ := x
      simp only at hsp
      subst hsp
      refine ⟨b, o, rfl, block_lt_of_cell hx0, trivial, fun q hq => ?_⟩
      rw [cellsH_len hok, hll] at hq
      have hk : q / 32 < len := by omega
      have hj : q % 32 < 32 := Nat.mod_lt _ (by omega)
      have e1 : q = q / 32 * 32 + q % 32 := by omega
      have h1 := (hf (q / 32) hk).2 (q % 32) hj
      rw [addr_add, addr_add] at h1
      have h2 := cellsH_at hok (q / 32) (q % 32) (by rw [hll]; exact hk) hj
      rw [hget _ hk] at h2
      rw [← h2, ← e1] at h1
      have e2 : o + q / 32 * 32 + q % 32 = o + q := by omega
      rw [e2] at h1
      rw [h1]
      have hql : q < (cellsH ((List.range len).map f)).length := by rw [cellsH_len hok, hll]; omega
      simp [hql]
    · have hd2 : ds[j]? = some (DataW.slice ((List.range len).map D) ((List.range (m - len)).map fun j => D (len + j))) := by
        rw [hd]
        simp only [Prod.mk.injEq] at hdx
        rw [hdx.1]
      have h1 := sized_slice hz ht hd2 Tryd.underlying22
      have hb : Tryd.prog.bytesOf 27 = 32 := by kernel_rfl
      rw [hb] at h1
      simp only [List.length_map, List.length_range] at h1
      have h2 : reachBytes < 2 ^ 47 := reachBytes_lt
      rw [hll]
      omega

end Mk
end Go.Proofs.YtfdgclnjpbkggaaDoor
