/- Values as bytes (chapter 7): the laws of values; no program in sight. -/
import Derived.Test.YtfkjiehkfimmhaaCodR
namespace Go.Proofs.Ytfkjiehkfimmhaa
namespace K

theorem noT_of {t : ByteArray} (h : t.size = 0) : t = noT := by
  apply ByteArray.ext
  apply Array.eq_empty_of_size_eq_zero h
/-- A value's form, by its kind. -/
theorem shp_full {v : V} (h : shp v = 0) :
    (v.k = 1 ∧ v = .mk 1 0 0 noT [] []) ∨ (v.k = 2 ∧ v = .mk 2 v.n 0 noT [] [] ∧ 0 ≤ v.n ∧ v.n ≤ 1) ∨ (v.k = 3 ∧ v = .mk 3 v.n 0 noT [] []) ∨ (v.k = 4 ∧ v = .mk 4 v.n v.s noT [] [] ∧ 1 ≤ v.s ∧ v.s ≤ 18) ∨
    (v.k = 5 ∧ v = .mk 5 v.n 0 noT [] [] ∧ 0 ≤ v.n ∧ v.n ≤ 9007199254740992) ∨ ((v.k = 6 ∨ v.k = 7) ∧ v = .mk v.k 0 0 v.t [] [] ∧ v.t.size ≤ 16384) ∨
    (v.k = 8 ∧ v = .mk 8 0 0 noT [] v.kids ∧ v.kids.length ≤ 200) ∨ (v.k = 9 ∧ v = .mk 9 0 0 noT v.names v.kids ∧ v.kids.length ≤ 200 ∧ v.names.length = v.kids.length ∧ ∀ s ∈ v.names, s.size ≤ 40) := by
  obtain ⟨k, n, s, t, names, kids⟩ := v
  unfold shp at h
  by_cases h1 : formB (.mk k n s t names kids) = false
  · rw [if_pos h1] at h; cases h
  rw [if_neg h1] at h
  by_cases h2 : 16384 < (V.mk k n s t names kids).t.size ∨ 200 < (V.mk k n s t names kids).kids.length
  · rw [if_pos h2] at h; cases h
  rw [if_neg h2] at h
  by_cases h3 : (V.mk k n s t names kids).k = 9 ∧ fieldsB (.mk k n s t names kids) = false
  · rw [if_pos h3] at h; cases h
  have hf : formB (.mk k n s t names kids) = true := by simpa using h1
  clear h h1
  simp only [V.k, V.t, V.kids] at h2 h3
  unfold formB at hf
  simp only [V.k, V.n, V.s, V.t, V.names, V.kids]
  by_cases a1 : k = 1
  · subst a1; left
    rw [if_pos (show (V.mk 1 n s t names kids).k = 1 from rfl)] at hf
    simp only [bareB, plainB, noTextB, Bool.and_eq_true, decide_eq_true_eq, List.length_eq_zero_iff] at hf
    simp only [V.n, V.s, V.t, V.names, V.kids] at hf
    obtain ⟨⟨⟨rfl, rfl⟩, rfl, rfl⟩, ht⟩ := hf
    exact ⟨rfl, by rw [noT_of ht]⟩
  rw [if_neg (show ¬ (V.mk k n s t names kids).k = 1 from a1)] at hf; right
  by_cases a2 : k = 2
  · subst a2; left
    rw [if_pos (show (V.mk 2 n s t names kids).k = 2 from rfl)] at hf
    simp only [plainB, noTextB, Bool.and_eq_true, decide_eq_true_eq, List.length_eq_zero_iff] at hf
    simp only [V.n, V.s, V.t, V.names, V.kids] at hf
    obtain ⟨⟨⟨⟨b1, b2⟩, rfl⟩, rfl, rfl⟩, ht⟩ := hf
    exact ⟨rfl, by rw [noT_of ht], b1, b2⟩
  rw [if_neg (show ¬ (V.mk k n s t names kids).k = 2 from a2)] at hf; right
  by_cases a3 : k = 3
  · subst a3; left
    rw [if_pos (show (V.mk 3 n s t names kids).k = 3 from rfl)] at hf
    simp only [plainB, noTextB, Bool.and_eq_true, decide_eq_true_eq, List.length_eq_zero_iff] at hf
    simp only [V.s, V.t, V.names, V.kids] at hf
    obtain ⟨⟨rfl, rfl, rfl⟩, ht⟩ := hf
    exact ⟨rfl, by rw [noT_of ht]⟩
  rw [if_neg (show ¬ (V.mk k n s t names kids).k = 3 from a3)] at hf; right
  by_cases a4 : k = 4
  · subst a4; left
    rw [if_pos (show (V.mk 4 n s t names kids).k = 4 from rfl)] at hf
    simp only [plainB, noTextB, Bool.and_eq_true, decide_eq_true_eq, List.length_eq_zero_iff] at hf
    simp only [V.n, V.s, V.t, V.names, V.kids] at hf
    obtain ⟨⟨⟨⟨b1, b2⟩, -⟩, rfl, rfl⟩, ht⟩ := hf
    exact ⟨rfl, by rw [noT_of ht], b1, b2⟩
  rw [if_neg (show ¬ (V.mk k n s t names kids).k = 4 from a4)] at hf; right
  by_cases a5 : k = 5
  · subst a5; left
    rw [if_pos (show (V.mk 5 n s t names kids).k = 5 from rfl)] at hf
    simp only [plainB, noTextB, Bool.and_eq_true, decide_eq_true_eq, List.length_eq_zero_iff] at hf
    simp only [V.n, V.s, V.t, V.names, V.kids] at hf
    obtain ⟨⟨⟨⟨b1, b2⟩, rfl⟩, rfl, rfl⟩, ht⟩ := hf
    exact ⟨rfl, by rw [noT_of ht], b1, b2⟩
  rw [if_neg (show ¬ (V.mk k n s t names kids).k = 5 from a5)] at hf; right
  by_cases a6 : k = 6 ∨ k = 7
  · left
    rw [if_pos (show (V.mk k n s t names kids).k = 6 ∨ (V.mk k n s t names kids).k = 7 from a6)] at hf
    simp only [bareB, plainB, Bool.and_eq_true, decide_eq_true_eq, List.length_eq_zero_iff] at hf
    simp only [V.n, V.s, V.names, V.kids] at hf
    obtain ⟨⟨rfl, rfl⟩, rfl, rfl⟩ := hf
    exact ⟨a6, rfl, by omega⟩
  rw [if_neg (show ¬ ((V.mk k n s t names kids).k = 6 ∨ (V.mk k n s t names kids).k = 7) from a6)] at hf; right
  by_cases a8 : k = 8
  · subst a8; left
    rw [if_pos (show (V.mk 8 n s t names kids).k = 8 from rfl)] at hf
    simp only [bareB, noTextB, Bool.and_eq_true, decide_eq_true_eq, List.length_eq_zero_iff] at hf
    simp only [V.n, V.s, V.t, V.names] at hf
    obtain ⟨⟨⟨rfl, rfl⟩, rfl⟩, ht⟩ := hf
    exact ⟨rfl, by rw [noT_of ht], by omega⟩
  rw [if_neg (show ¬ (V.mk k n s t names kids).k = 8 from a8)] at hf; right
  by_cases a9 : k = 9
  · subst a9
    rw [if_pos (show (V.mk 9 n s t names kids).k = 9 from rfl)] at hf
    simp only [bareB, noTextB, Bool.and_eq_true, decide_eq_true_eq] at hf
    simp only [V.n, V.s, V.t] at hf
    obtain ⟨⟨rfl, rfl⟩, ht⟩ := hf
    have h4 : fieldsB (.mk 9 0 0 t names kids) = true := by
      cases hb : fieldsB (.mk 9 0 0 t names kids) with
      | true => rfl
      | false => exact (h3 ⟨rfl, hb⟩).elim
    unfold fieldsB at h4
    simp only [Bool.and_eq_true, List.all_eq_true, decide_eq_true_eq] at h4
    refine ⟨rfl, by rw [noT_of ht], by omega, h4.2, fun s hs => ?_⟩
    have := h4.1.1 s hs
    unfold isNameB at this
    simp at this
    omega
  · rw [if_neg (show ¬ (V.mk k n s t names kids).k = 9 from a9)] at hf; cases hf

/-- Its numbers are as great as a number can be. -/
def Rng : Nat → V → Prop
  | 0, _ => False
  | f + 1, v => (-9223372036854775808 ≤ v.n ∧ v.n ≤ 9223372036854775807) ∧ ∀ x ∈ v.kids, Rng f x
theorem chk_mem {m : Nat} {v x : V} (h : chk (m + 1) v = 0) (hx : x ∈ v.kids) : chk m x = 0 := by
  obtain ⟨j, hj, rfl⟩ := List.getElem_of_mem hx
  have := chk_kid h hj
  rwa [List.getD_eq_getElem?_getD, List.getElem?_eq_getElem hj] at this

theorem rdV_enc : ∀ (m : Nat) {f : Nat} {v : V} (r : List Int), chk m v = 0 → Rng f v → rdV m (encV m v ++ r) = .ok v r
  | 0, _, _, _, h, _ => by cases h
  | _ + 1, 0, _, _, _, h => h.elim
  | m + 1, f + 1, v, r, hc, hr => by
    have hk : ∀ x ∈ v.kids, ∀ r, rdV m (encV m x ++ r) = .ok x r := fun x hx r => rdV_enc m r (chk_mem hc hx) (hr.2 x hx)
    have hn := zig_lt hr.1
    have hn0 := hr.1
    clear hr
    rcases shp_full (chk_shp hc) with ⟨h1, e⟩ | ⟨h1, e, h2, h3⟩ | ⟨h1, e⟩ | ⟨h1, e, h2, h3⟩ | ⟨h1, e, h2, h3⟩ | ⟨h1, e, h2⟩ | ⟨h1, e, h2⟩ | ⟨h1, e, h2, h3, h4⟩ <;> clear hc
    · rw [e]; rfl
    · obtain ⟨n, hn⟩ : ∃ n, v.n = n := ⟨_, rfl⟩
      rw [hn] at e h3
      rw [e]
      show (if 1 < n then Rd.bad 3 else Rd.ok (V.mk 2 n 0 noT [] []) r) = _
      rw [if_neg (by omega)]
    · obtain ⟨n, hv⟩ : ∃ n, v.n = n := ⟨_, rfl⟩
      rw [hv] at e hn
      rw [e]
      show (rdU (uvB (zig n) ++ r)).bind (fun u r => .ok (V.mk 3 (zag u) 0 noT [] []) r) = _
      rw [rdU_enc hn]
      show Rd.ok (V.mk 3 (zag (zig n)) 0 noT [] []) r = _
      rw [zag_zig]
    · obtain ⟨n, hv⟩ : ∃ n, v.n = n := ⟨_, rfl⟩
      obtain ⟨s, hs⟩ : ∃ s, v.s = s := ⟨_, rfl⟩
      rw [hv, hs] at e
      rw [hv] at hn
      rw [e]
      show (rdU ((uvB (zig n) ++ [s]) ++ r)).bind (fun u r => (rdB r).bind fun s r => .ok (V.mk 4 (zag u) s noT [] []) r) = _
      rw [List.append_assoc, rdU_enc hn]
      show Rd.ok (V.mk 4 (zag (zig n)) s noT [] []) r = _
      rw [zag_zig]
    · obtain ⟨n, hv⟩ : ∃ n, v.n = n := ⟨_, rfl⟩
      rw [hv] at e h2 h3
      rw [e]
      show (rdU (uvB n.toNat ++ r)).bind (fun u r => .ok (V.mk 5 (IntKind.i64.wrap (u : Int)) 0 noT [] []) r) = _
      rw [rdU_enc (by omega)]
      show Rd.ok (V.mk 5 (IntKind.i64.wrap (n.toNat : Int)) 0 noT [] []) r = _
      rw [Int.toNat_of_nonneg h2, IntKind.wrap_i64, show (n + 9223372036854775808) % 18446744073709551616 - 9223372036854775808 = n by omega]
    · obtain ⟨k, hk⟩ : ∃ k, v.k = k := ⟨_, rfl⟩
      obtain ⟨t, ht⟩ : ∃ t, v.t = t := ⟨_, rfl⟩
      rw [hk, ht] at e
      rw [ht] at h2
      rw [hk] at h1
      rw [e]
      have he : encV (m + 1) (.mk k 0 0 t [] []) = k :: (uvB t.size ++ byI t) := by
        rcases h1 with rfl | rfl <;> rfl
      rw [he]
      have hd : rdV (m + 1) (k :: (uvB t.size ++ byI t) ++ r) = (rdT ((uvB t.size ++ byI t) ++ r)).bind fun t r => .ok (.mk k 0 0 t [] []) r := by
        rcases h1 with rfl | rfl <;> rfl
      rw [hd, List.append_assoc, rdT_enc (by omega)]
      rfl
    · obtain ⟨ks, hks⟩ : ∃ ks, v.kids = ks := ⟨_, rfl⟩
      rw [hks] at e h2 hk
      rw [e]
      show (rdC ((uvB ks.length ++ (List.range ks.length).flatMap (pieceE (encV m) false [] ks)) ++ r)).bind (fun n r => (rdK (rdV m) false n [] [] r).bind fun p r => .ok (V.mk 8 0 0 noT p.1 p.2) r) = _
      rw [List.append_assoc, rdC_enc (by omega), encK_range]
      simp only [Rd.bind]
      rw [rdK_enc false ks [] [] [] r hk (fun h => by cases h)]
      simp
    · obtain ⟨ks, hks⟩ : ∃ ks, v.kids = ks := ⟨_, rfl⟩
      obtain ⟨ns, hns⟩ : ∃ ns, v.names = ns := ⟨_, rfl⟩
      rw [hks, hns] at e h3
      rw [hks] at h2 hk
      rw [hns] at h4
      rw [e]
      show (rdC ((uvB ks.length ++ (List.range ks.length).flatMap (pieceE (encV m) true ns ks)) ++ r)).bind (fun n r => (rdK (rdV m) true n [] [] r).bind fun p r => .ok (V.mk 9 0 0 noT p.1 p.2) r) = _
      rw [List.append_assoc, rdC_enc (by omega), encK_range]
      simp only [Rd.bind]
      rw [rdK_enc true ks ns [] [] r hk (fun _ => ⟨h3, fun s hs => Nat.le_trans (h4 s hs) (by decide)⟩)]
      simp

theorem rdV_can : ∀ (m : Nat) {v : V} {l r : List Int}, rdV m l = .ok v r → chk m v = 0 → Byt l → l = encV m v ++ r
  | 0, _, _, _, h, _, _ => by cases h
  | m + 1, v, l, r, h, hc, hb => by
    have ih : ∀ v l r, rdV m l = .ok v r → chk m v = 0 → Byt l → l = encV m v ++ r := fun v l r h1 h2 h3 => rdV_can m h1 h2 h3
    cases l with
    | nil => cases h
    | cons k l =>
      have hb1 := hb.tail
      have hsh := shp_form_k (chk_shp hc)
      have hkid : ∀ x ∈ v.kids, chk m x = 0 := fun x hx => chk_mem hc hx
      clear hc hb
      unfold rdV at h
      simp only [rdB, Rd.bind] at h
      by_cases k1 : k = 1
      · rw [if_pos k1] at h; cases h; subst k1; rfl
      rw [if_neg k1] at h
      by_cases k2 : k = 2
      · rw [if_pos k2] at h
        cases l with
        | nil => cases h
        | cons c l =>
          simp only at h
          split at h
          · cases h
          · cases h; subst k2; rfl
      rw [if_neg k2] at h
      by_cases k3 : k = 3
      · rw [if_pos k3] at h
        cases hu : rdU l with
        | bad e => rw [hu] at h; cases h
        | ok u r' =>
          rw [hu] at h; cases h; subst k3
          obtain ⟨rfl, -⟩ := rdU_can hb1 hu
          show _ = 3 :: uvB (zig (zag u)) ++ r
          rw [zig_zag]; rfl
      rw [if_neg k3] at h
      by_cases k4 : k = 4
      · rw [if_pos k4] at h
        cases hu : rdU l with
        | bad e => rw [hu] at h; cases h
        | ok u r' =>
          rw [hu] at h
          simp only at h
          cases r' with
          | nil => cases h
          | cons s r' =>
            cases h; subst k4
            obtain ⟨rfl, -⟩ := rdU_can hb1 hu
            show _ = 4 :: (uvB (zig (zag u)) ++ [s]) ++ r
            rw [zig_zag]; simp
      rw [if_neg k4] at h
      by_cases k5 : k = 5
      · rw [if_pos k5] at h
        cases hu : rdU l with
        | bad e => rw [hu] at h; cases h
        | ok u r' =>
          rw [hu] at h; cases h; subst k5
          obtain ⟨rfl, hlt⟩ := rdU_can hb1 hu
          have h5 := hsh.1 rfl
          have : (IntKind.i64.wrap (u : Int)).toNat = u := by
            simp only [V.n] at h5
            rw [IntKind.wrap_i64] at h5 ⊢; omega
          show _ = 5 :: uvB (IntKind.i64.wrap (u : Int)).toNat ++ r
          rw [this]; rfl
      rw [if_neg k5] at h
      by_cases k6 : k = 6 ∨ k = 7
      · rw [if_pos k6] at h
        cases hu : rdT l with
        | bad e => rw [hu] at h; cases h
        | ok t r' =>
          rw [hu] at h; cases h
          obtain ⟨rfl, -⟩ := rdT_can hb1 hu
          rcases k6 with rfl | rfl
          · show _ = 6 :: (uvB t.size ++ byI t) ++ r
            simp
          · show _ = 7 :: (uvB t.size ++ byI t) ++ r
            simp
      rw [if_neg k6] at h
      by_cases k8 : k = 8 ∨ k = 9
      · rw [if_pos k8] at h
        cases hu : rdC l with
        | bad e => rw [hu] at h; cases h
        | ok n r' =>
          rw [hu] at h
          simp only at h
          obtain ⟨rfl, -⟩ := rdC_can hb1 hu
          cases hk : rdK (rdV m) (decide (k = 9)) n [] [] r' with
          | bad e => rw [hk] at h; cases h
          | ok p r2 =>
            rw [hk] at h
            cases h
            obtain ⟨ns, ks, rfl, e1, e2, e3, e4⟩ := rdK_can (decide (k = 9)) ih (suf_rdV m) n [] [] r' r p hb1.right hk
            simp only [List.nil_append, V.kids] at hkid ⊢
            rw [e4 hkid]
            subst e1
            have he : encV (m + 1) (.mk k 0 0 noT ns ks) = k :: (uvB ks.length ++ (List.range ks.length).flatMap (pieceE (encV m) (decide (k = 9)) ns ks)) := by
              rcases k8 with rfl | rfl <;> rfl
            rw [he, encK_range]
            simp
      · rw [if_neg k8] at h; cases h
where
  shp_form_k {v : V} (h : shp v = 0) : (v.k = 5 → 0 ≤ v.n ∧ v.n ≤ 9007199254740992) ∧ True := by
    refine ⟨fun e => ?_, trivial⟩
    rcases shp_full h with ⟨h1, _⟩ | ⟨h1, _, _⟩ | ⟨h1, _⟩ | ⟨h1, _, _⟩ | ⟨h1, _, h2, h3⟩ | ⟨h1, _⟩ | ⟨h1, _⟩ | ⟨h1, _⟩
    all_goals first | exact ⟨h2, h3⟩ | omega
end K
end Go.Proofs.Ytfkjiehkfimmhaa
