/- Values as bytes (chapter 7): a value that was laid is read as it was, and what is read is laid so; no program in sight. -/
import Derived.Test.YtfkjiehkfimmhaaCodQ
namespace Go.Proofs.Ytfkjiehkfimmhaa
namespace K

/-- Pieces, by the lists themselves. -/
def encK (ky : V → List Int) (st : Bool) : List ByteArray → List V → List Int
  | _, [] => []
  | ns, k :: ks => (if st then uvB (ns.headD noT).size ++ byI (ns.headD noT) else []) ++ (ky k ++ encK ky st ns.tail ks)
theorem encK_range (ky : V → List Int) (st : Bool) : ∀ (ks : List V) (ns : List ByteArray), (List.range ks.length).flatMap (pieceE ky st ns ks) = encK ky st ns ks
  | [], ns => rfl
  | k :: ks, ns => by
    rw [List.length_cons, List.range_succ_eq_map, List.flatMap_cons, List.flatMap_map]
    have : (fun j => pieceE ky st ns (k :: ks) (Nat.succ j)) = pieceE ky st ns.tail ks := by
      funext j
      unfold pieceE
      cases ns <;> simp
    rw [this, encK_range ky st ks ns.tail]
    show _ = (if st then uvB (ns.headD noT).size ++ byI (ns.headD noT) else []) ++ (ky k ++ encK ky st ns.tail ks)
    unfold pieceE
    cases ns <;> simp
theorem rdK_enc {rd : List Int → Rd V} {ky : V → List Int} (st : Bool) : ∀ (ks : List V) (ns : List ByteArray) (ns0 : List ByteArray) (ks0 : List V) (r : List Int), (∀ k ∈ ks, ∀ r, rd (ky k ++ r) = .ok k r) → (st = true → ns.length = ks.length ∧ ∀ s ∈ ns, s.size ≤ 65536) →
    rdK rd st ks.length ns0 ks0 (encK ky st ns ks ++ r) = .ok (if st = true then ns0 ++ ns else ns0, ks0 ++ ks) r
  | [], ns, ns0, ks0, r, _, hn => by
    cases st with
    | true => have := (hn rfl).1; obtain rfl := List.eq_nil_of_length_eq_zero this; simp [rdK, encK]
    | false => simp [rdK, encK]
  | k :: ks, ns, ns0, ks0, r, hk, hn => by
    unfold encK
    rw [List.length_cons, rdK]
    cases st with
    | true =>
      obtain ⟨h1, h2⟩ := hn rfl
      cases ns with
      | nil => cases h1
      | cons s ns =>
        simp only [if_true, List.headD_cons, List.tail_cons, List.append_assoc]
        rw [rdT_enc (h2 s (by simp))]
        simp only [Rd.bind]
        rw [hk k (by simp)]
        simp only
        rw [rdK_enc true ks ns (ns0 ++ [s]) (ks0 ++ [k]) r (fun k hk' => hk k (List.mem_cons_of_mem _ hk')) (fun _ => ⟨by simpa using h1, fun s hs => h2 s (List.mem_cons_of_mem _ hs)⟩)]
        simp
    | false =>
      simp only [Bool.false_eq_true, if_false, List.nil_append, List.append_assoc]
      rw [hk k (by simp)]
      simp only [Rd.bind]
      rw [rdK_enc false ks ns.tail ns0 (ks0 ++ [k]) r (fun k hk' => hk k (List.mem_cons_of_mem _ hk')) (fun h => by cases h)]
      simp
theorem rdK_can {rd : List Int → Rd V} {ky : V → List Int} {good : V → Prop} (st : Bool) (hrd : ∀ v l r, rd l = .ok v r → good v → Byt l → l = ky v ++ r) (hsuf : Suf rd) : ∀ (n : Nat) (ns0 : List ByteArray) (ks0 : List V) (l r : List Int) (p : List ByteArray × List V), Byt l → rdK rd st n ns0 ks0 l = .ok p r →
    ∃ ns ks, p = (ns0 ++ ns, ks0 ++ ks) ∧ ks.length = n ∧ (st = true → ns.length = n) ∧ (st = false → ns = []) ∧ ((∀ k ∈ ks, good k) → l = encK ky st ns ks ++ r)
  | 0, ns0, ks0, l, r, p, _, h => by cases h; exact ⟨[], [], by simp, rfl, fun _ => rfl, fun _ => rfl, fun _ => rfl⟩
  | n + 1, ns0, ks0, l, r, p, hb, h => by
    rw [rdK] at h
    cases st with
    | true =>
      rw [if_pos rfl] at h
      cases h1 : rdT l with
      | bad e => rw [h1] at h; cases h
      | ok s r1 =>
        rw [h1] at h
        simp only [Rd.bind] at h
        obtain ⟨hl, -⟩ := rdT_can hb h1
        subst hl
        have hb1 : Byt r1 := hb.right.right
        cases h2 : rd r1 with
        | bad e => rw [h2] at h; cases h
        | ok v r2 =>
          rw [h2] at h
          simp only at h
          obtain ⟨q, hq⟩ := hsuf r1 v r2 h2
          have hb2 : Byt r2 := by rw [hq] at hb1; exact hb1.right
          obtain ⟨ns, ks, rfl, e1, e2, e3, e4⟩ := rdK_can true hrd hsuf n (ns0 ++ [s]) (ks0 ++ [v]) r2 r p hb2 h
          refine ⟨s :: ns, v :: ks, by simp, by simp [e1], fun _ => by simp [e2 rfl], fun h => (by cases h), fun hg => ?_⟩
          rw [hrd v r1 r2 h2 (hg v (by simp)) hb1, e4 fun k hk => hg k (List.mem_cons_of_mem _ hk)]
          simp [encK]
    | false =>
      rw [if_neg Bool.false_ne_true] at h
      cases h2 : rd l with
      | bad e => rw [h2] at h; cases h
      | ok v r2 =>
        rw [h2] at h
        simp only [Rd.bind] at h
        obtain ⟨q, hq⟩ := hsuf l v r2 h2
        have hb2 : Byt r2 := by rw [hq] at hb; exact hb.right
        obtain ⟨ns, ks, rfl, e1, e2, e3, e4⟩ := rdK_can false hrd hsuf n ns0 (ks0 ++ [v]) r2 r p hb2 h
        refine ⟨ns, v :: ks, by simp, by simp [e1], fun h => (by cases h), e3, fun hg => ?_⟩
        rw [hrd v l r2 h2 (hg v (by simp)) hb, e4 fun k hk => hg k (List.mem_cons_of_mem _ hk)]
        obtain rfl := e3 rfl
        simp [encK]
end K
end Go.Proofs.Ytfkjiehkfimmhaa
