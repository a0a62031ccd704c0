/- Values as bytes (chapter 7): what is laid and what is read; no program in sight. -/
import Derived.Test.YtfkjiehkfimmhaaVal
namespace Go.Proofs.Ytfkjiehkfimmhaa
namespace K

/-- A Uvarint's bytes. -/
def uvF : Nat → Nat → List Int
  | 0, _ => []
  | f + 1, u => if u < 128 then [(u : Int)] else ((u % 128 + 128 : Nat) : Int) :: uvF f (u / 128)
def uvB (u : Nat) : List Int := uvF 10 u
/-- A number of both signs as one of none, and back. -/
def zig (v : Int) : Nat := if 0 ≤ v then (2 * v).toNat else (-2 * v - 1).toNat
def zag (u : Nat) : Int := if u % 2 = 0 then ((u / 2 : Nat) : Int) else -((u / 2 : Nat) : Int) - 1
def byI (s : ByteArray) : List Int := s.toList.map fun c => (c.toNat : Int)
def pieceE (ky : V → List Int) (st : Bool) (names : List ByteArray) (kids : List V) (j : Nat) : List Int :=
  (if st then uvB (names.getD j noT).size ++ byI (names.getD j noT) else []) ++ ky (kids.getD j noV)
/-- A value's bytes. -/
def encV : Nat → V → List Int
  | 0, _ => []
  | m + 1, v => v.k ::
    (if v.k = 2 then [v.n] else if v.k = 3 then uvB (zig v.n) else if v.k = 4 then uvB (zig v.n) ++ [v.s] else if v.k = 5 then uvB v.n.toNat
     else if v.k = 6 ∨ v.k = 7 then uvB v.t.size ++ byI v.t
     else if v.k = 8 ∨ v.k = 9 then uvB v.kids.length ++ (List.range v.kids.length).flatMap (pieceE (encV m) (decide (v.k = 9)) v.names v.kids) else [])

/-- What is read: a thing and what is left, or the first error. -/
inductive Rd (α : Type) where
  | ok (a : α) (r : List Int)
  | bad (e : Int)
def Rd.bind {α β : Type} : Rd α → (α → List Int → Rd β) → Rd β
  | .ok a r, f => f a r
  | .bad e, _ => .bad e
/-- A byte. -/
def rdB : List Int → Rd Int
  | [] => .bad 2
  | c :: r => .ok c r
/-- A Uvarint. -/
def rdUF : Nat → Bool → List Int → Rd Nat
  | 0, _, _ => .bad 3
  | _ + 1, _, [] => .bad 2
  | f + 1, st, c :: r => if (f = 0 ∧ 1 < c) ∨ (st = true ∧ c = 0) then .bad 3 else if c < 128 then .ok c.toNat r else (rdUF f true r).bind fun v r' => .ok (c.toNat - 128 + 128 * v) r'
def rdU (l : List Int) : Rd Nat := rdUF 10 false l
def rdC (l : List Int) : Rd Nat := (rdU l).bind fun n r => if 65536 < n then .bad 3 else .ok n r
def rdT (l : List Int) : Rd ByteArray := (rdC l).bind fun n r => if r.length < n then .bad 2 else .ok ⟨((r.take n).map fun c => UInt8.ofNat c.toNat).toArray⟩ (r.drop n)
def rdK (rd : List Int → Rd V) (st : Bool) : Nat → List ByteArray → List V → List Int → Rd (List ByteArray × List V)
  | 0, ns, ks, l => .ok (ns, ks) l
  | n + 1, ns, ks, l =>
    if st = true then (rdT l).bind fun s r => (rd r).bind fun v r' => rdK rd st n (ns ++ [s]) (ks ++ [v]) r'
    else (rd l).bind fun v r' => rdK rd st n ns (ks ++ [v]) r'
/-- A value, so many levels deep. -/
def rdV : Nat → List Int → Rd V
  | 0, _ => .bad 9
  | m + 1, l => (rdB l).bind fun k r =>
    if k = 1 then .ok (.mk 1 0 0 noT [] []) r
    else if k = 2 then (rdB r).bind fun c r => if 1 < c then .bad 3 else .ok (.mk 2 c 0 noT [] []) r
    else if k = 3 then (rdU r).bind fun u r => .ok (.mk 3 (zag u) 0 noT [] []) r
    else if k = 4 then (rdU r).bind fun u r => (rdB r).bind fun s r => .ok (.mk 4 (zag u) s noT [] []) r
    else if k = 5 then (rdU r).bind fun u r => .ok (.mk 5 (IntKind.i64.wrap (u : Int)) 0 noT [] []) r
    else if k = 6 ∨ k = 7 then (rdT r).bind fun t r => .ok (.mk k 0 0 t [] []) r
    else if k = 8 ∨ k = 9 then (rdC r).bind fun n r => (rdK (rdV m) (decide (k = 9)) n [] [] r).bind fun p r => .ok (.mk k 0 0 noT p.1 p.2) r
    else .bad 3

/-- What stands behind changes nothing, but for an error that more bytes could mend. -/
def Ext {α : Type} (f : List Int → Rd α) : Prop := ∀ l s, match f l with
  | .ok a r => f (l ++ s) = .ok a (r ++ s)
  | .bad e => e = 2 ∨ f (l ++ s) = .bad e
theorem Ext.bind {α β : Type} {f : List Int → Rd α} {g : α → List Int → Rd β} (hf : Ext f) (hg : ∀ a, Ext (g a)) : Ext fun l => (f l).bind g := by
  intro l s
  have h1 := hf l s
  cases h : f l with
  | ok a r =>
    rw [h] at h1
    simp only at h1
    have h2 := hg a r s
    simp only [Rd.bind, h, h1]
    exact h2
  | bad e =>
    rw [h] at h1
    simp only at h1
    simp only [Rd.bind, h]
    rcases h1 with h1 | h1
    · exact .inl h1
    · right; rw [h1]
theorem Ext.ok {α : Type} (a : α) : Ext fun l => Rd.ok a l := fun _ _ => rfl
theorem Ext.bad {α : Type} (e : Int) : Ext fun _ => (Rd.bad e : Rd α) := fun _ _ => .inr rfl
theorem Ext.ite {α : Type} {p : Prop} [Decidable p] {f g : List Int → Rd α} (hf : Ext f) (hg : Ext g) : Ext fun l => if p then f l else g l := by
  by_cases h : p
  · simp only [if_pos h]; exact hf
  · simp only [if_neg h]; exact hg
theorem ext_rdB : Ext rdB := by
  intro l s
  cases l with
  | nil => exact .inl rfl
  | cons c r => rfl
theorem ext_rdUF : ∀ (f : Nat) (st : Bool), Ext (rdUF f st)
  | 0, _ => Ext.bad 3
  | f + 1, st => by
    intro l s
    cases l with
    | nil => exact .inl rfl
    | cons c r =>
      have h := (Ext.ite (p := (f = 0 ∧ 1 < c) ∨ (st = true ∧ c = 0)) (Ext.bad 3) (Ext.ite (p := c < 128) (Ext.ok c.toNat) (Ext.bind (ext_rdUF f true) fun v => Ext.ok (c.toNat - 128 + 128 * v)))) r s
      exact h
theorem ext_rdU : Ext rdU := ext_rdUF 10 false
theorem ext_rdC : Ext rdC := Ext.bind ext_rdU fun n => Ext.ite (Ext.bad 3) (Ext.ok n)
theorem ext_rdT : Ext rdT := Ext.bind ext_rdC fun n => by
  intro r s
  by_cases h : r.length < n
  · simp only [if_pos h]; exact .inl trivial
  · simp only [if_neg h]
    rw [if_neg (by rw [List.length_append]; omega), List.take_append_of_le_length (by omega), List.drop_append_of_le_length (by omega)]
theorem ext_rdK {rd : List Int → Rd V} (h : Ext rd) (st : Bool) : ∀ (n : Nat) (ns : List ByteArray) (ks : List V), Ext (rdK rd st n ns ks)
  | 0, ns, ks => Ext.ok (ns, ks)
  | n + 1, ns, ks => Ext.ite (Ext.bind ext_rdT fun s => Ext.bind h fun v => ext_rdK h st n (ns ++ [s]) (ks ++ [v])) (Ext.bind h fun v => ext_rdK h st n ns (ks ++ [v]))
theorem ext_rdV : ∀ (m : Nat), Ext (rdV m)
  | 0 => Ext.bad 9
  | m + 1 => Ext.bind ext_rdB fun _ => Ext.ite (Ext.ok _) (Ext.ite (Ext.bind ext_rdB fun _ => Ext.ite (Ext.bad 3) (Ext.ok _)) (Ext.ite (Ext.bind ext_rdU fun _ => Ext.ok _) (Ext.ite (Ext.bind ext_rdU fun _ => Ext.bind ext_rdB fun _ => Ext.ok _)
      (Ext.ite (Ext.bind ext_rdU fun _ => Ext.ok _) (Ext.ite (Ext.bind ext_rdT fun _ => Ext.ok _) (Ext.ite (Ext.bind ext_rdC fun n => Ext.bind (ext_rdK (ext_rdV m) _ n [] []) fun _ => Ext.ok _) (Ext.bad 3)))))))
end K
end Go.Proofs.Ytfkjiehkfimmhaa
