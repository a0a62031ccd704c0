/- Maps that a program has made, seen as functions from keys to elements. -/
import Derived.Test.YtdaljjicekheiaaBaseB
import Derived.Maps.OwnSet
import Derived.DeepKeys5
namespace Go.Proofs.Ytdaljjicekheiaa
open Go.RowKit Go.Maps

/-- An element reads as itself. -/
def heldR (v : Value) : Option (DataW Value × List MemPlace) := some (.held v, [])
/-- What an element reads as where there may be none. -/
def orD (x : Option Value) (z : DataW Value) : DataW Value := match x with | some v => .held v | none => z

/-- Block b of w is a map of at most n entries: at the key mk x it holds what F x says. -/
def MF {κ : Type} (P : Program) (k : TypeId) (mk : κ → Value) (w : World) (b n : Nat) (F : κ → Option Value) : Prop :=
  ∃ D, w.ownsMap P k heldR b n D ∧ ∀ x kl, keyOf P k (mk x) = some kl → ∀ z, D.atKey kl z = orD (F x) z

/-- F, but d at one key. -/
def mfPut {κ : Type} [DecidableEq κ] (F : κ → Option Value) (key : κ) (d : Value) : κ → Option Value := fun x => if x = key then some d else F x
/-- F without one key. -/
def mfDel {κ : Type} [DecidableEq κ] (F : κ → Option Value) (key : κ) : κ → Option Value := fun x => if x = key then none else F x
theorem mfPut_same {κ : Type} [DecidableEq κ] (F : κ → Option Value) (key : κ) (d : Value) : mfPut F key d key = some d := by simp [mfPut]
theorem mfPut_other {κ : Type} [DecidableEq κ] (F : κ → Option Value) {key x : κ} (d : Value) (h : x ≠ key) : mfPut F key d x = F x := by simp [mfPut, h]
theorem mfDel_same {κ : Type} [DecidableEq κ] (F : κ → Option Value) (key : κ) : mfDel F key key = none := by simp [mfDel]
theorem mfDel_other {κ : Type} [DecidableEq κ] (F : κ → Option Value) {key x : κ} (h : x ≠ key) : mfDel F key x = F x := by simp [mfDel, h]

section
variable {κ : Type} {P : Program} {k : TypeId} {mk : κ → Value} {w : World} {b n : Nat} {F : κ → Option Value}

theorem MF.lt (h : MF P k mk w b n F) : b < w.heap.size := by obtain ⟨D, h, _⟩ := h; exact h.lt
theorem MF.made (P : Program) (k : TypeId) (mk : κ → Value) (w : World) : MF P k mk (w.alloc (.map #[] 0)) w.heap.size 0 (fun _ => none) :=
  ⟨_, World.ownsMap_made w P k heldR, fun _ _ _ _ => rfl⟩
theorem MF.mono (h : MF P k mk w b n F) {n' : Nat} (hn : n ≤ n') : MF P k mk w b n' F := by obtain ⟨D, h, hF⟩ := h; exact ⟨D, h.mono hn, hF⟩
theorem MF.of_block {w' : World} (h : MF P k mk w b n F) (hb : w'.heap[b]? = w.heap[b]?) : MF P k mk w' b n F := by
  obtain ⟨D, ⟨es, clock, h1, h2⟩, hF⟩ := h
  exact ⟨D, ⟨es, clock, hb.trans h1, h2⟩, hF⟩
theorem MF.keep {K : Nat → Prop} {w' : World} (h : MF P k mk w b n F) (hk : Keep K w w') (hb : K b) : MF P k mk w' b n F := h.of_block (hk.block b hb)
theorem MF.below {B : Nat} {w' : World} (h : MF P k mk w b n F) (hk : Below B w w') (hb : b < B) : MF P k mk w' b n F := h.of_block (hk.block b hb)
theorem MF.alloc (h : MF P k mk w b n F) (o : Obj) : MF P k mk (w.alloc o) b n F := h.of_block (Below.heap_alloc w o b h.lt)
theorem MF.other (h : MF P k mk w b n F) (a : Addr) (v : Value) (hb : b ≠ a.block) : MF P k mk (w.setCell a v) b n F := h.of_block (Below.heap_setCell w a v b hb)
theorem MF.setRow_other (h : MF P k mk w b n F) {g : Nat} (cs : Array Value) (hb : b ≠ g) : MF P k mk (w.setRow g cs) b n F := h.of_block (Go.setRow_other w g b cs hb)
theorem MF.drewN (h : MF P k mk w b n F) (m : Nat) : MF P k mk (w.drewN m) b n F := h
theorem MF.congr (h : MF P k mk w b n F) {F' : κ → Option Value} (hF : ∀ x, F' x = F x) : MF P k mk w b n F' := by
  obtain ⟨D, h, h'⟩ := h
  exact ⟨D, h, fun key kl hk z => by rw [hF key]; exact h' key kl hk z⟩

/-- What a read of the map gives. -/
theorem MF.look {t e : TypeId} (h : MF P k mk w b n F) (K : Keyed P k) (ht : P.underlying t = some (.map k e)) {z : Value} (hz : (zeroValue e).run P w = .ok z w)
    {key : κ} {kl : Lit} (hkey : keyOf P k (mk key) = some kl) : (Instr.lookup t (.map (some b)) (mk key) false).run P w = .ok ((F key).getD z) w := by
  obtain ⟨D, h, hF⟩ := h
  obtain ⟨v, ps, h1, h2⟩ := h.lookup K ht hz (zd := .held z) (zp := []) rfl hkey
  rw [hF key kl hkey] at h2
  rw [h1]
  cases hx : F key with
  | none => rw [hx] at h2; simp [orD, heldR] at h2; simp [h2.1]
  | some y => rw [hx] at h2; simp [orD, heldR] at h2; simp [h2.1]

/-- What a read with 'ok' gives. -/
theorem MF.look2 {t e : TypeId} (h : MF P k mk w b n F) (K : Keyed P k) (ht : P.underlying t = some (.map k e)) {z : Value} (hz : (zeroValue e).run P w = .ok z w)
    {key : κ} {kl : Lit} (hkey : keyOf P k (mk key) = some kl) : (Instr.lookup t (.map (some b)) (mk key) true).run P w = .ok (.tuple #[(F key).getD z, .bool (F key).isSome]) w := by
  obtain ⟨D, h, hF⟩ := h
  obtain ⟨v, ps, h1, h2⟩ := h.look_ok K ht hz (zd := .held z) (zp := []) rfl hkey
  have h3 := hF key kl hkey
  rw [h3] at h2
  rw [h1]
  cases hx : F key with
  | none =>
    rw [hx] at h2 h3; simp [orD, heldR] at h2
    rw [Maps.has_false_of_atKey (fun z => h3 z)]; simp [h2.1]
  | some y =>
    rw [hx] at h2 h3; simp [orD, heldR] at h2
    rw [Maps.has_true_of_atKey (fun z => h3 z)]; simp [h2.1]

theorem turned_keep {w w' : World} {b : Nat} (h : w.mapTurned w' b) : Keep (fun x => x ≠ b) w w' := by
  have g := h.grown
  refine ⟨g.os, g.tape, g.output, g.size, fun i hi => ?_⟩
  obtain ⟨es, clock, es', clock', hb, rfl⟩ := h
  exact ChangeMaps.heap_setBlock_other hb _ hi

/-- The map behind a store. -/
theorem MF.put [DecidableEq κ] {t e : TypeId} (hmk : ∀ x y, mk x = mk y → x = y) (h : MF P k mk w b n F) (K : Keyed P k) (ht : P.underlying t = some (.map k e)) (hn : n < maxLen) {key : κ} (val : Value) {kl : Lit}
    (hkey : keyOf P k (mk key) = some kl) : ∃ w', (Instr.mapUpdate t (.map (some b)) (mk key) val).run P w = .ok () w' ∧ MF P k mk w' b (n + 1) (mfPut F key val) ∧ Keep (fun x => x ≠ b) w w' := by
  obtain ⟨D, h, hF⟩ := h
  obtain ⟨w', h1, h2, h3⟩ := h.store K ht hn hkey (val := val) (d := .held val) (ps := []) rfl
  refine ⟨w', h1, ⟨_, h2, fun key' kl' hk' z => ?_⟩, turned_keep h3⟩
  by_cases e : key' = key
  · subst e
    rw [hkey] at hk'; cases hk'
    rw [mfPut_same, atKey_put_same h.isMap (K.key hkey)]; rfl
  · rw [mfPut_other _ _ e, atKey_put_other (fun e' => e (hmk _ _ (K.inj hk' (by rw [hkey, e']))))]
    exact hF key' kl' hk' z

/-- The map behind a delete. -/
theorem MF.del [DecidableEq κ] {t e : TypeId} (hmk : ∀ x y, mk x = mk y → x = y) (h : MF P k mk w b n F) (K : Keyed P k) (ht : P.underlying t = some (.map k e)) {key : κ} {kl : Lit} (hkey : keyOf P k (mk key) = some kl) (ty : TypeId) :
    ∃ w', (Builtin.delete_ #[t, k] ty #[.map (some b), mk key]).run P w = .ok (.tuple #[]) w' ∧ MF P k mk w' b n (mfDel F key) ∧ Keep (fun x => x ≠ b) w w' := by
  obtain ⟨D, h, hF⟩ := h
  obtain ⟨w', h1, h2, h3⟩ := h.drop K ht hkey ty
  refine ⟨w', h1, ⟨_, h2, fun key' kl' hk' z => ?_⟩, turned_keep h3⟩
  by_cases e : key' = key
  · subst e
    rw [hkey] at hk'; cases hk'
    rw [mfDel_same, atKey_del_same]; rfl
  · rw [mfDel_other _ e, atKey_del_other (fun e' => e (hmk _ _ (K.inj hk' (by rw [hkey, e']))))]
    exact hF key' kl' hk' z

end
/-- A delete, as one step of a region that draws its order. -/
theorem step_del {P : Program} {ops : Array Oper} {o : Oper} {a : Act} {w w' : World} {K : Act → World → Prop} {Q : Exit → Act → World → Prop} {F : Prop} (hg : o.guard = none) (m x : Operand) (t k : TypeId)
    (hop : o.op = Op.call { callee := Callee.builtin Builtin.delete, args := #[m, x], argTypes := #[t, k] }) (mv xv : Value) (hm : a.eval m = mv) (hx : a.eval x = xv)
    (hrun : (Builtin.delete_ #[t, k] o.type #[mv, xv]).run P w = .ok (.tuple #[]) w') (h : K (a.put o.dst (.tuple #[])) w') : if Region.wanted o (yielded ops a.tmps) = true then Oper.wp P o a w K Q else F := by
  rw [if_pos (by simp [Region.wanted, hg])]
  unfold Oper.wp
  simp [execOp, hop, resolve, invoke, builtin, hm, hx, hrun, Result.andThen]
  exact h
/-- A store into a map, as one step. -/
theorem step_upd {P : Program} {ops : Array Oper} {o : Oper} {a : Act} {w w' : World} {K : Act → World → Prop} {Q : Exit → Act → World → Prop} {F : Prop} (hg : o.guard = none) (m x v : Operand) (t : TypeId)
    (hop : o.op = Op.mapUpdate t m x v) (mv xv vv : Value) (hm : a.eval m = mv) (hx : a.eval x = xv) (hv : a.eval v = vv)
    (hrun : (Instr.mapUpdate t mv xv vv).run P w = .ok () w') (h : K (a.put o.dst undef) w') : if Region.wanted o (yielded ops a.tmps) = true then Oper.wp P o a w K Q else F := by
  rw [if_pos (by simp [Region.wanted, hg])]
  unfold Oper.wp
  simp [execOp, hop, hm, hx, hv, hrun, Result.andThen]
  exact h

end Go.Proofs.Ytdaljjicekheiaa
