/- The tree of digests: what it is in memory; its keys; New, Size, half. -/
import Derived.Test.YtfdgclnjpbkggaaDoorRow
import Derived.Test.YtfdgclnjpbkggaaDoorMkPure
import Derived.Test.YtfdgclnjpbkggaaDoorMkShelf
import Derived.Test.YtfdgclnjpbkggaaDoorDigNode
namespace Go.Proofs.YtfdgclnjpbkggaaDoor
open Go.RowKit Go.Maps
namespace Mk
open Dig (sumL sumL_length)

def nodeP (a b : H) : H := sumL (1 :: (a ++ b))
def noneP : H := sumL []
/-- The root of leaves. -/
def rt (l : List H) : H := root nodeP noneP l
/-- All are digests. -/
def Okh (l : List H) : Prop := ∀ h ∈ l, h.length = 32
theorem okh_getD {l : List H} (h : Okh l) {k : Nat} (hk : k < l.length) : (l.getD k []).length = 32 := by
  have : l.getD k [] = l[k] := by simp [hk]
  rw [this]; exact h _ (List.getElem_mem hk)
theorem okh_app {a b : List H} (h : Okh a) (h' : Okh b) : Okh (a ++ b) := fun x hx => (List.mem_append.1 hx).elim (h x) (h' x)
theorem okh_one {a : H} (h : a.length = 32) : Okh [a] := fun x hx => by simp at hx; rw [hx]; exact h
theorem okh_nil : Okh [] := fun _ hx => (List.not_mem_nil hx).elim
theorem okh_seg {l : List H} (h : Okh l) (f n : Nat) : Okh (seg l f n) := fun _ hx => h _ (List.mem_of_mem_drop (List.mem_of_mem_take hx))
theorem okh_take {l : List H} (h : Okh l) (n : Nat) : Okh (l.take n) := fun _ hx => h _ (List.mem_of_mem_take hx)
theorem okh_drop {l : List H} (h : Okh l) (n : Nat) : Okh (l.drop n) := fun _ hx => h _ (List.mem_of_mem_drop hx)
theorem rt_len {l : List H} (h : Okh l) : (rt l).length = 32 := by
  unfold rt
  rw [root]
  split
  · exact sumL_length _
  · cases l with
    | nil => exact sumL_length _
    | cons a r => exact h a List.mem_cons_self
theorem node_p {a b : H} (w : World) (ha : a.length = 32) (hb : b.length = 32) : Calls Tryd.prog 35 #[hv a, hv b] w fun e w' => e = .returned (hv (nodeP a b)) ∧ Below w.heap.size w w' := Dig.node_any a b w ha hb
theorem refNode_p {a b : H} (w : World) (ha : a.length = 32) (hb : b.length = 32) : Calls Tryd.prog 13 #[hv a, hv b] w fun e w' => e = .returned (hv (nodeP a b)) ∧ Below w.heap.size w w' := Dig.refNode_any a b w ha hb
theorem nodeP_len (a b : H) : (nodeP a b).length = 32 := sumL_length _

/-! ### Keys -/
theorem laid : laidOutB Tryd.prog = true := by kernel_rfl
theorem keyRow : (66 : TypeId) < Tryd.prog.types.size := of_decide_eq_true (by kernel_rfl)
theorem keyWide : (match Tryd.prog.underlying 66 with | some (.array _ _) | some (.struct _) => true | _ => false) = true := by rw [Tryd.underlying66]
theorem keyed : Keyed Tryd.prog 66 := Keyed.of_law (deep_law_laid laid (m := 2) (by omega) keyRow (by kernel_rfl) keyWide)
/-- A key. -/
def mk (x : Int × Int) : Value := .agg #[.int .i64 x.1, .int .i64 x.2]
def okKey (x : Int × Int) : Prop := (Lit.int .i64 x.1).wf = true ∧ (Lit.int .i64 x.2).wf = true
theorem keyType : Tryd.prog.keyType 66 = true := by kernel_rfl
theorem keyCells : Tryd.prog.cellsOf 66 = 2 := by kernel_rfl
theorem intCells : Tryd.prog.cellsOf 3 = 1 := by kernel_rfl
theorem deepEnough : Tryd.prog.types.size + 1 = (Tryd.prog.types.size - 1) + 1 + 1 := of_decide_eq_true (by kernel_rfl)
theorem keyOf_pair {P : Program} {k ti : TypeId} (hk : P.underlying k = some (.array 2 ti)) (hi : P.underlying ti = some (.int .i64)) (hkt : P.keyType k = true) (hc : P.cellsOf k = 2) (ci : P.cellsOf ti = 1)
    {d : Nat} (hd : P.types.size + 1 = d + 1 + 1) (x : Int × Int) (h1 : (Lit.int .i64 x.1).wf = true) (h2 : (Lit.int .i64 x.2).wf = true) : keyOf P k (mk x) = some (.string (keyBytes [.int .i64 x.1, .int .i64 x.2])) := by
  have e1 : (mk x).formed P k = true := by
    unfold Value.formed mk
    simp only [hk, hc]
    rfl
  have e3 : ∀ y : Int, (Lit.int .i64 y).wf = true → P.keyLits (d + 1) ti [.int .i64 y] = some [.int .i64 y] := fun y hy => by
    unfold Program.keyLits
    rw [hi]
    exact if_pos ⟨rfl, hy⟩
  have e2 : P.keyLits (d + 1 + 1) k (mk x).cells.toList = some [.int .i64 x.1, .int .i64 x.2] := by
    unfold Program.keyLits
    rw [hk]
    have hr : List.range 2 = [0, 1] := rfl
    simp only [mk, Value.cells, hc, ci, hr, List.length_cons, List.length_nil, List.mapM_cons, List.mapM_nil, Nat.zero_mul, Nat.one_mul, List.drop_zero, List.drop_succ_cons, List.take_succ_cons, List.take_zero, e3 _ h1, e3 _ h2, if_true]
    simp
  unfold keyOf
  simp only [hk, hkt, e1, Bool.and_self, if_true, hd, e2, Option.map_some]
theorem keyOf_mk (x : Int × Int) (h : okKey x) : ∃ kl, keyOf Tryd.prog 66 (mk x) = some kl :=
  ⟨_, keyOf_pair Tryd.underlying66 Tryd.underlying3 keyType keyCells intCells deepEnough x h.1 h.2⟩
theorem mk_inj (x y : Int × Int) (h : mk x = mk y) : x = y := by
  unfold mk at h
  simp at h
  exact Prod.ext h.1 h.2
theorem wf_nat {k : Nat} (h : k < 9223372036854775808) : (Lit.int .i64 (k : Int)).wf = true := by
  simp [Lit.wf, IntKind.min, IntKind.max, IntKind.bits, IntKind.signed]; omega

/-! ### The tree -/
/-- Block t is a tree of the leaves l; O: its blocks; n: how often something was laid into its map, at most. -/
def IsTree (w : World) (t : Nat) (O : Nat → Prop) (n : Nat) (l : List H) : Prop :=
  ∃ mb, VBlk 57 w t [.int .i64 (l.length : Nat), .map (some mb)] ∧ O t ∧ O mb ∧ (∀ b, O b → b < w.heap.size) ∧
    MF Tryd.prog 66 mk w mb n (wholeF nodeP noneP l) ∧ Okh l
theorem IsTree.keep {w w' : World} {t n : Nat} {O : Nat → Prop} {l : List H} (h : IsTree w t O n l) {K : Nat → Prop} (hk : Keep K w w') (hK : ∀ b, O b → K b) : IsTree w' t O n l := by
  obtain ⟨mb, h1, h2, h3, h4, h5, h6⟩ := h
  exact ⟨mb, h1.keep hk (hK t h2), h2, h3, fun b hb => Nat.lt_of_lt_of_le (h4 b hb) hk.size, h5.keep hk (hK mb h3), h6⟩
theorem IsTree.lt {w : World} {t n : Nat} {O : Nat → Prop} {l : List H} (h : IsTree w t O n l) : ∀ b, O b → b < w.heap.size := by
  obtain ⟨mb, h1, h2, h3, h4, -⟩ := h; exact h4
theorem IsTree.ok {w : World} {t n : Nat} {O : Nat → Prop} {l : List H} (h : IsTree w t O n l) : Okh l := by
  obtain ⟨mb, h1, h2, h3, h4, h5, h6⟩ := h; exact h6
theorem IsTree.own {w : World} {t n : Nat} {O : Nat → Prop} {l : List H} (h : IsTree w t O n l) : O t := by
  obtain ⟨mb, h1, h2, -⟩ := h; exact h2
theorem IsTree.below {w w' : World} {t n : Nat} {O : Nat → Prop} {l : List H} (h : IsTree w t O n l) {B : Nat} (hk : Below B w w') (hB : w.heap.size ≤ B) : IsTree w' t O n l :=
  h.keep (Keep.of_below hk) (fun b hb => Nat.lt_of_lt_of_le (h.lt b hb) hB)
theorem IsTree.mono {w : World} {t n n' : Nat} {O : Nat → Prop} {l : List H} (h : IsTree w t O n l) (hn : n ≤ n') : IsTree w t O n' l := by
  obtain ⟨mb, h1, h2, h3, h4, h5, h6⟩ := h; exact ⟨mb, h1, h2, h3, h4, h5.mono hn, h6⟩

/-- The library's table, in its variable. -/
def Tab (w : World) : Prop := TabAt (Tryd.lays7n29_ren.g 1) Lib.deBruijn64tab w
theorem Tab.keep {w w' : World} (h : Tab w) {K : Nat → Prop} (hk : Keep K w w') (hK : K (Tryd.lays7n29_ren.g 1)) : Tab w' := fun j hj => by
  rw [hk.cell (p := ⟨_, j, none⟩) hK]; exact h j hj
theorem Tab.lt {w : World} (h : Tab w) : Tryd.lays7n29_ren.g 1 < w.heap.size := World.block_lt_of_cell? w _ (h 0 (by decide))
theorem Tab.below {w w' : World} (h : Tab w) {B : Nat} (hk : Below B w w') (hB : w.heap.size ≤ B) : Tab w' := h.keep (Keep.of_below hk) (Nat.lt_of_lt_of_le h.lt hB)

theorem zeroHash (w : World) : (zeroValue 27).run Tryd.prog w = .ok (.agg (Dig.Z32.map (Value.int .u8)).toArray) w := by kernel_rfl
theorem infoHash : (Tryd.prog.info? 27).map (·.size) = some 32 := by kernel_rfl

/-- What a look-up answers. -/
theorem look_whole {w : World} {mb n : Nat} {F : Int × Int → Option Value} (h : MF Tryd.prog 66 mk w mb n F) {a b : Int} (ok : okKey (a, b)) {v : Value} (hF : F (a, b) = some v) :
    (Instr.lookup 55 (.map (some mb)) (.agg #[.int .i64 a, .int .i64 b]) false).run Tryd.prog w = .ok v w := by
  obtain ⟨kl, hk⟩ := keyOf_mk (a, b) ok
  have := h.look keyed Tryd.underlying55 (zeroHash w) hk
  unfold mk at this
  rw [this, hF]
  rfl

set_option maxHeartbeats 800000 in
theorem new_any (w : World) : Calls Tryd.prog 26 #[] w fun e w' => ∃ O, e = .returned (.pointer (some ⟨w.heap.size + 1, 0, none⟩)) ∧ IsTree w' (w.heap.size + 1) O 0 [] ∧ Below w.heap.size w w' ∧ ∀ b, O b → w.heap.size ≤ b := by
  have hmm := @run_makeMap Tryd.prog
  go_enter Tryd.func26, Tryd.ntmps26
  go_wp2_with fail
  go_ret
  have hm : MF Tryd.prog 66 mk (w.alloc (.map #[] 0)) w.heap.size 0 (fun _ => none) := MF.made _ _ _ w
  have hs1 : (w.alloc (.map #[] 0)).heap.size = w.heap.size + 1 := by simp
  have hv := VBlk.mk (w.alloc (.map #[] 0)) [.int .i64 0, .map (some w.heap.size)] 57
  rw [hs1] at hv
  refine ⟨fun b => b = w.heap.size ∨ b = w.heap.size + 1, rfl, ⟨w.heap.size, hv, .inr rfl, .inl rfl, fun b hb => ?_, ?_, okh_nil⟩, ((Below.refl _ _).alloc (Nat.le_refl _) _).alloc (by simp) _, fun b hb => by omega⟩
  · simp; omega
  · exact (hm.alloc _).congr fun x => wholeF_nil x

set_option maxHeartbeats 400000 in
theorem size_any {w : World} {t n : Nat} {O : Nat → Prop} {l : List H} (h : IsTree w t O n l) : Calls Tryd.prog 21 #[.pointer (some ⟨t, 0, none⟩)] w fun e w' => e = .returned (.int .i64 (l.length : Nat)) ∧ w = w' := by
  obtain ⟨mb, hc, -⟩ := h
  have c0 := hc.cell 0 (by simp)
  simp only [List.getD_cons_zero] at c0
  clear hc
  go_enter Tryd.func21, Tryd.ntmps21
  go_wp2_with fail
  go_ret
  exact ⟨rfl, rfl⟩
set_option maxHeartbeats 400000 in
theorem size_nil (w : World) : Calls Tryd.prog 21 #[.pointer none] w fun e w' => e = .returned (.int .i64 0) ∧ w = w' := by
  go_enter Tryd.func21, Tryd.ntmps21
  go_wp2_with fail
  go_ret
  exact ⟨rfl, rfl⟩

end Mk
end Go.Proofs.YtfdgclnjpbkggaaDoor
