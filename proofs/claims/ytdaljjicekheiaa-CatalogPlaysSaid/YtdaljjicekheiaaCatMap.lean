/- The catalog's map of indexes: its keys. -/
import Derived.Test.YtdaljjicekheiaaCatA
namespace Go.Proofs.Ytdaljjicekheiaa
open Go.RowKit Go.Maps
namespace Cat

theorem laid : laidOutB Try.prog = true := by kernel_rfl
theorem keyRow : (75 : TypeId) < Try.prog.types.size := of_decide_eq_true (by kernel_rfl)
theorem keyWide : (match Try.prog.underlying 75 with | some (.array _ _) | some (.struct _) => true | _ => false) = true := by rw [Try.underlying75]
theorem keyed : Keyed Try.prog 75 := Keyed.of_law (deep_law_laid laid (m := 2) (by omega) keyRow (by kernel_rfl) keyWide)

/-- A number and a text that may lie in a key. -/
def okKey (x : Int × ByteArray) : Prop := (Lit.int .i64 x.1).wf = true ∧ x.2.size ≤ maxLen
theorem keyType : Try.prog.keyType 75 = true := by kernel_rfl
theorem keyCells : Try.prog.cellsOf 75 = 2 := by kernel_rfl
theorem intCells : Try.prog.cellsOf 3 = 1 := by kernel_rfl
theorem strCells : Try.prog.cellsOf 9 = 1 := by kernel_rfl
theorem deepEnough : Try.prog.types.size + 1 = (Try.prog.types.size - 1) + 1 + 1 := of_decide_eq_true (by kernel_rfl)
theorem keyOf_pair {P : Program} {k ti ts : TypeId} {f0 f1 : Field} (hk : P.underlying k = some (.struct #[f0, f1])) (hi : P.underlying ti = some (.int .i64)) (hs : P.underlying ts = some .string)
    (t0 : f0.type = ti) (o0 : f0.offset = 0) (n0 : (f0.name != "_") = true) (t1 : f1.type = ts) (o1 : f1.offset = 1) (n1 : (f1.name != "_") = true) (hkt : P.keyType k = true) (hc : P.cellsOf k = 2) (ci : P.cellsOf ti = 1) (cs : P.cellsOf ts = 1)
    {d : Nat} (hd : P.types.size + 1 = d + 1 + 1) (x : Int × ByteArray) (h1 : (Lit.int .i64 x.1).wf = true) (h2 : x.2.size ≤ maxLen) : keyOf P k (mk x) = some (.string (keyBytes [.int .i64 x.1, .string x.2.data.toList])) := by
  have e1 : (mk x).formed P k = true := by
    unfold Value.formed mk
    simp only [hk, hc]
    rfl
  have e3 : P.keyLits (d + 1) ti [.int .i64 x.1] = some [.int .i64 x.1] := by
    unfold Program.keyLits
    rw [hi]
    exact if_pos ⟨rfl, h1⟩
  have e4 : P.keyLits (d + 1) ts [.string x.2] = some [.string x.2.data.toList] := by
    unfold Program.keyLits
    rw [hs]
    exact if_pos h2
  have e2 : P.keyLits (d + 1 + 1) k (mk x).cells.toList = some [.int .i64 x.1, .string x.2.data.toList] := by
    unfold Program.keyLits
    rw [hk]
    simp only [mk, Value.cells, hc, t0, t1, o0, o1, n0, n1, ci, cs, List.length_cons, List.length_nil, List.mapM_cons, List.mapM_nil, List.drop_zero, List.drop_succ_cons, List.take_succ_cons, List.take_zero, e3, e4, List.all_cons, List.all_nil, Bool.and_self, Array.all_toList.symm, and_self, if_true]
    simp
  unfold keyOf
  simp only [hk, hkt, e1, Bool.and_self, if_true, hd, e2, Option.map_some]
theorem keyOf_mk (x : Int × ByteArray) (h : okKey x) : ∃ kl, keyOf Try.prog 75 (mk x) = some kl :=
  ⟨_, keyOf_pair Try.underlying75 Try.underlying3 Try.underlying9 rfl rfl (by decide) rfl rfl (by decide) keyType keyCells intCells strCells deepEnough x h.1 h.2⟩
theorem mk_inj (x y : Int × ByteArray) (h : mk x = mk y) : x = y := by
  unfold mk at h
  simp at h
  exact Prod.ext h.1 h.2

theorem zeroBool (w : World) : (zeroValue 4).run Try.prog w = .ok (.bool false) w := by kernel_rfl
/-- What the map answers. -/
theorem look_has {w : World} {mb n : Nat} {L : List Tb} (h : MF Try.prog 75 mk w mb n (hasF L)) (id : Int) (f : ByteArray) (ok : okKey (id, f)) :
    (Instr.lookup 66 (.map (some mb)) (.agg #[.int .i64 id, .string f]) false).run Try.prog w = .ok (.bool (has L id f)) w := by
  obtain ⟨kl, hk⟩ := keyOf_mk (id, f) ok
  have := h.look keyed Try.underlying66 (zeroBool w) hk
  unfold mk at this
  rw [this]
  unfold hasF
  cases has L id f <;> rfl

end Cat
end Go.Proofs.Ytdaljjicekheiaa
