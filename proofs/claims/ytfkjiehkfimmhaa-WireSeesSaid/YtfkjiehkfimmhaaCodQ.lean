/- Values as bytes (chapter 7): what was laid is read as it was, and what is read is laid so; no program in sight. -/
import Derived.Test.YtfkjiehkfimmhaaCodP
namespace Go.Proofs.Ytfkjiehkfimmhaa
namespace K

/-- Bytes. -/
def Byt (l : List Int) : Prop := ∀ c ∈ l, 0 ≤ c ∧ c ≤ 255
theorem Byt.tail {c : Int} {l : List Int} (h : Byt (c :: l)) : Byt l := fun x hx => h x (List.mem_cons_of_mem _ hx)
theorem Byt.right {k l : List Int} (h : Byt (k ++ l)) : Byt l := fun x hx => h x (List.mem_append_right _ hx)
theorem Byt.left {k l : List Int} (h : Byt (k ++ l)) : Byt k := fun x hx => h x (List.mem_append_left _ hx)
theorem Byt.app {k l : List Int} (h : Byt k) (h' : Byt l) : Byt (k ++ l) := fun x hx => (List.mem_append.1 hx).elim (h x) (h' x)

/-- What is left is an end of what was there. -/
def Suf {α : Type} (f : List Int → Rd α) : Prop := ∀ l a r, f l = .ok a r → ∃ p, l = p ++ r
theorem Suf.bind {α β : Type} {f : List Int → Rd α} {g : α → List Int → Rd β} (hf : Suf f) (hg : ∀ a, Suf (g a)) : Suf fun l => (f l).bind g := by
  intro l b r h
  cases h1 : f l with
  | ok a r1 =>
    simp only [Rd.bind, h1] at h
    obtain ⟨p, rfl⟩ := hf l a r1 h1
    obtain ⟨q, rfl⟩ := hg a r1 b r h
    exact ⟨p ++ q, by rw [List.append_assoc]⟩
  | bad e => simp only [Rd.bind, h1] at h; cases h
theorem Suf.ok {α : Type} (a : α) : Suf fun l => Rd.ok a l := fun l b r h => by cases h; exact ⟨[], rfl⟩
theorem Suf.bad {α : Type} (e : Int) : Suf fun _ => (Rd.bad e : Rd α) := fun _ _ _ h => by cases h
theorem Suf.ite {α : Type} {p : Prop} [Decidable p] {f g : List Int → Rd α} (hf : Suf f) (hg : Suf g) : Suf fun l => if p then f l else g l := by
  by_cases h : p
  · simp only [if_pos h]; exact hf
  · simp only [if_neg h]; exact hg

theorem rdUF_enc : ∀ (f u : Nat) (st : Bool) (r : List Int), u < 2 * 128 ^ f → (st = true → u ≠ 0) → rdUF (f + 1) st (uvF (f + 1) u ++ r) = .ok u r
  | 0, u, st, r, h, hs => by
    simp at h
    unfold uvF
    rw [if_pos (by omega), List.singleton_append]
    unfold rdUF
    rw [if_neg (fun h1 => h1.elim (fun h => by omega) (fun h => by have := hs h.1; omega)), if_pos (by omega)]
    simp
  | f + 1, u, st, r, h, hs => by
    unfold uvF
    by_cases hu : u < 128
    · rw [if_pos hu, List.singleton_append]
      unfold rdUF
      rw [if_neg (fun h1 => h1.elim (fun h => by omega) (fun h => by have := hs h.1; omega)), if_pos (by omega)]
      simp
    · rw [if_neg hu, List.cons_append]
      unfold rdUF
      rw [Nat.pow_succ] at h
      rw [if_neg (by rintro (h1 | h1) <;> omega), if_neg (by omega), rdUF_enc f (u / 128) true r (by omega) (fun _ => by omega)]
      simp only [Rd.bind]
      rw [show (((u % 128 + 128 : Nat) : Int)).toNat - 128 + 128 * (u / 128) = u by omega]
theorem uvF_big {f u : Nat} (h : 128 ≤ u) : uvF (f + 1) u = ((u % 128 + 128 : Nat) : Int) :: uvF f (u / 128) := by rw [uvF, if_neg (by omega)]
theorem rdUF_can : ∀ (f u : Nat) (st : Bool) (l r : List Int), Byt l → rdUF (f + 1) st l = .ok u r → l = uvF (f + 1) u ++ r ∧ u < 2 * 128 ^ f ∧ (st = true → u ≠ 0)
  | f, u, st, [], r, _, h => by simp [rdUF] at h
  | f, u, st, c :: t, r, hb, h => by
    unfold rdUF at h
    have hc := hb c (by simp)
    by_cases h1 : (f = 0 ∧ 1 < c) ∨ (st = true ∧ c = 0)
    · rw [if_pos h1] at h; cases h
    rw [if_neg h1] at h
    by_cases h2 : c < 128
    · rw [if_pos h2] at h
      cases h
      unfold uvF
      rw [if_pos (by omega), List.singleton_append]
      refine ⟨by rw [Int.toNat_of_nonneg hc.1], ?_, fun hs e => h1 (.inr ⟨hs, by omega⟩)⟩
      cases f with
      | zero => simp; have : ¬ 1 < c := fun e => h1 (.inl ⟨rfl, e⟩); omega
      | succ f => have := Nat.pos_of_ne_zero (show 128 ^ f ≠ 0 by simp); rw [Nat.pow_succ]; omega
    · rw [if_neg h2] at h
      cases hr : rdUF f true t with
      | bad e => rw [hr] at h; cases h
      | ok v r' =>
        rw [hr] at h
        simp only [Rd.bind] at h
        cases h
        cases f with
        | zero => cases hr
        | succ f =>
          obtain ⟨rfl, h3, h4⟩ := rdUF_can f v true t r hb.tail hr
          have h5 := h4 rfl
          rw [uvF_big (show 128 ≤ c.toNat - 128 + 128 * v by omega), List.cons_append, show (c.toNat - 128 + 128 * v) / 128 = v by omega, show (c.toNat - 128 + 128 * v) % 128 + 128 = c.toNat by omega]
          refine ⟨by rw [Int.toNat_of_nonneg hc.1], by rw [Nat.pow_succ]; omega, fun _ => by omega⟩
theorem rdU_enc {u : Nat} (h : u < 18446744073709551616) (r : List Int) : rdU (uvB u ++ r) = .ok u r := rdUF_enc 9 u false r (by omega) (fun h => by cases h)
theorem rdU_can {u : Nat} {l r : List Int} (hb : Byt l) (h : rdU l = .ok u r) : l = uvB u ++ r ∧ u < 18446744073709551616 := by
  obtain ⟨h1, h2, -⟩ := rdUF_can 9 u false l r hb h
  exact ⟨h1, by omega⟩
theorem zag_zig (v : Int) : zag (zig v) = v := by unfold zag zig; split <;> split <;> omega
theorem zig_zag (u : Nat) : zig (zag u) = u := by unfold zag zig; split <;> split <;> omega
theorem zig_lt {v : Int} (h : -9223372036854775808 ≤ v ∧ v ≤ 9223372036854775807) : zig v < 18446744073709551616 := by unfold zig; split <;> omega
theorem rdC_enc {n : Nat} (h : n ≤ 65536) (r : List Int) : rdC (uvB n ++ r) = .ok n r := by
  unfold rdC
  rw [rdU_enc (by omega)]
  simp only [Rd.bind]
  rw [if_neg (by omega)]
theorem rdC_can {n : Nat} {l r : List Int} (hb : Byt l) (h : rdC l = .ok n r) : l = uvB n ++ r ∧ n ≤ 65536 := by
  unfold rdC at h
  cases h1 : rdU l with
  | bad e => rw [h1] at h; cases h
  | ok u r' =>
    rw [h1] at h
    simp only [Rd.bind] at h
    split at h
    · cases h
    · cases h
      exact ⟨(rdU_can hb h1).1, by omega⟩
theorem byI_len (s : ByteArray) : (byI s).length = s.size := by
  unfold byI
  rw [List.length_map, ByteArray.toList_eq]; rfl
theorem byI_mk {l : List Int} (h : Byt l) : byI ⟨(l.map fun c => UInt8.ofNat c.toNat).toArray⟩ = l := by
  unfold byI
  rw [ByteArray.toList_eq]
  simp only [List.map_map]
  refine (List.map_congr_left fun c hc => ?_).trans (List.map_id l)
  have := h c hc
  simp only [Function.comp_apply, UInt8.toNat_ofNat', id]
  omega
theorem mk_byI (s : ByteArray) : (⟨((byI s).map fun c => UInt8.ofNat c.toNat).toArray⟩ : ByteArray) = s := by
  unfold byI
  rw [ByteArray.toList_eq]
  apply ByteArray.ext
  apply Array.ext'
  simp only [List.map_map]
  refine (List.map_congr_left fun c _ => ?_).trans (List.map_id _)
  simp
theorem rdT_enc {s : ByteArray} (h : s.size ≤ 65536) (r : List Int) : rdT (uvB s.size ++ (byI s ++ r)) = .ok s r := by
  unfold rdT
  rw [rdC_enc h]
  simp only [Rd.bind]
  have hl := byI_len s
  rw [if_neg (by rw [List.length_append]; omega), ← hl, List.take_left', List.drop_left', mk_byI]
  · rfl
  · rfl
theorem rdT_can {s : ByteArray} {l r : List Int} (hb : Byt l) (h : rdT l = .ok s r) : l = uvB s.size ++ (byI s ++ r) ∧ s.size ≤ 65536 := by
  unfold rdT at h
  cases h1 : rdC l with
  | bad e => rw [h1] at h; cases h
  | ok n t =>
    rw [h1] at h
    simp only [Rd.bind] at h
    obtain ⟨rfl, h2⟩ := rdC_can hb h1
    split at h
    · cases h
    · rename_i h3
      cases h
      have hby : byI ⟨((t.take n).map fun c => UInt8.ofNat c.toNat).toArray⟩ = t.take n := byI_mk fun c hc => hb.right c (List.mem_of_mem_take hc)
      have hsz := byI_len ⟨((t.take n).map fun c => UInt8.ofNat c.toNat).toArray⟩
      rw [hby, List.length_take] at hsz
      rw [hby, ← hsz, show min n t.length = n by omega, List.take_append_drop]
      exact ⟨rfl, h2⟩

theorem suf_rdB : Suf rdB := fun l a r h => by
  cases l with
  | nil => cases h
  | cons c t => cases h; exact ⟨[a], rfl⟩
theorem suf_rdUF : ∀ (f : Nat) (st : Bool), Suf (rdUF f st)
  | 0, _ => Suf.bad 3
  | f + 1, st => by
    intro l a r h
    cases l with
    | nil => cases h
    | cons c t =>
      obtain ⟨p, rfl⟩ := (Suf.ite (p := (f = 0 ∧ 1 < c) ∨ (st = true ∧ c = 0)) (Suf.bad 3) (Suf.ite (p := c < 128) (Suf.ok c.toNat) (Suf.bind (suf_rdUF f true) fun v => Suf.ok (c.toNat - 128 + 128 * v)))) t a r h
      exact ⟨c :: p, rfl⟩
theorem suf_rdU : Suf rdU := suf_rdUF 10 false
theorem suf_rdC : Suf rdC := Suf.bind suf_rdU fun n => Suf.ite (Suf.bad 3) (Suf.ok n)
theorem suf_rdT : Suf rdT := Suf.bind suf_rdC fun n => by
  intro l a r h
  by_cases h1 : l.length < n
  · simp only [if_pos h1] at h; cases h
  · simp only [if_neg h1] at h; cases h; exact ⟨l.take n, (List.take_append_drop _ _).symm⟩
theorem suf_rdK {rd : List Int → Rd V} (h : Suf rd) (st : Bool) : ∀ (n : Nat) (ns : List ByteArray) (ks : List V), Suf (rdK rd st n ns ks)
  | 0, ns, ks => Suf.ok (ns, ks)
  | n + 1, ns, ks => Suf.ite (Suf.bind suf_rdT fun s => Suf.bind h fun v => suf_rdK h st n (ns ++ [s]) (ks ++ [v])) (Suf.bind h fun v => suf_rdK h st n ns (ks ++ [v]))
theorem suf_rdV : ∀ (m : Nat), Suf (rdV m)
  | 0 => Suf.bad 9
  | m + 1 => Suf.bind suf_rdB fun _ => Suf.ite (Suf.ok _) (Suf.ite (Suf.bind suf_rdB fun _ => Suf.ite (Suf.bad 3) (Suf.ok _)) (Suf.ite (Suf.bind suf_rdU fun _ => Suf.ok _) (Suf.ite (Suf.bind suf_rdU fun _ => Suf.bind suf_rdB fun _ => Suf.ok _)
      (Suf.ite (Suf.bind suf_rdU fun _ => Suf.ok _) (Suf.ite (Suf.bind suf_rdT fun _ => Suf.ok _) (Suf.ite (Suf.bind suf_rdC fun n => Suf.bind (suf_rdK (suf_rdV m) _ n [] []) fun _ => Suf.ok _) (Suf.bad 3)))))))
end K
end Go.Proofs.Ytfkjiehkfimmhaa
