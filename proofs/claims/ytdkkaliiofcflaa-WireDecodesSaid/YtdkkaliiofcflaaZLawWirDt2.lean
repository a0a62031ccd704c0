/- Texts for LawWirDt, part 2 of 6. -/
import Derived.Test.YtdkkaliiofcflaaZLawWirDt1
import Derived.Laws.Bits64b
import Derived.Laws.BitsLemmas
import Derived.Laws.BitsAllLaws
namespace Go.Proofs.Ytdkkaliiofcflaa
namespace K

theorem noT_of {t : ByteArray} (h : t.size = 0) : t = noT := by
  apply ByteArray.ext
  apply Array.eq_empty_of_size_eq_zero h
theorem shp_full {v : V} (h : shp v = 0) :
    (v.k = 1 ∧ v = .mk 1 0 0 noT [] []) ∨ (v.k = 2 ∧ v = .mk 2 v.n 0 noT [] [] ∧ 0 ≤ v.n ∧ v.n ≤ 1) ∨ (v.k = 3 ∧ v = .mk 3 v.n 0 noT [] []) ∨ (v.k = 4 ∧ v = .mk 4 v.n v.s noT [] [] ∧ 1 ≤ v.s ∧ v.s ≤ 18) ∨
    (v.k = 5 ∧ v = .mk 5 v.n 0 noT [] [] ∧ 0 ≤ v.n ∧ v.n ≤ 9007199254740992) ∨ ((v.k = 6 ∨ v.k = 7) ∧ v = .mk v.k 0 0 v.t [] [] ∧ v.t.size ≤ 16384) ∨
    (v.k = 8 ∧ v = .mk 8 0 0 noT [] v.kids ∧ v.kids.length ≤ 200) ∨ (v.k = 9 ∧ v = .mk 9 0 0 noT v.names v.kids ∧ v.kids.length ≤ 200 ∧ v.names.length = v.kids.length ∧ ∀ s ∈ v.names, s.size ≤ 40) := by
  obtain ⟨k, n, s, t, names, kids⟩ := v; unfold shp at h
  by_cases h1 : formB (.mk k n s t names kids) = false
  · rw [if_pos h1] at h; cases h
  rw [if_neg h1] at h
  by_cases h2 : 16384 < (V.mk k n s t names kids).t.size ∨ 200 < (V.mk k n s t names kids).kids.length
  · rw [if_pos h2] at h; cases h
  rw [if_neg h2] at h
  by_cases h3 : (V.mk k n s t names kids).k = 9 ∧ fieldsB (.mk k n s t names kids) = false
  · rw [if_pos h3] at h; cases h
  have hf : formB (.mk k n s t names kids) = true := by simpa using h1
  clear h h1; simp only [V.k, V.t, V.kids] at h2 h3; unfold formB at hf; simp only [V.k, V.n, V.s, V.t, V.names, V.kids]
  by_cases a1 : k = 1
  · subst a1; left
    rw [if_pos (show (V.mk 1 n s t names kids).k = 1 from rfl)] at hf; simp only [bareB, plainB, noTextB, Bool.and_eq_true, decide_eq_true_eq, List.length_eq_zero_iff] at hf; simp only [V.n, V.s, V.t, V.names, V.kids] at hf; obtain ⟨⟨⟨rfl, rfl⟩, rfl, rfl⟩, ht⟩ := hf; exact ⟨rfl, by rw [noT_of ht]⟩
  rw [if_neg (show ¬ (V.mk k n s t names kids).k = 1 from a1)] at hf; right
  by_cases a2 : k = 2
  · subst a2; left
    rw [if_pos (show (V.mk 2 n s t names kids).k = 2 from rfl)] at hf; simp only [plainB, noTextB, Bool.and_eq_true, decide_eq_true_eq, List.length_eq_zero_iff] at hf; simp only [V.n, V.s, V.t, V.names, V.kids] at hf; obtain ⟨⟨⟨⟨b1, b2⟩, rfl⟩, rfl, rfl⟩, ht⟩ := hf; exact ⟨rfl, by rw [noT_of ht], b1, b2⟩
  rw [if_neg (show ¬ (V.mk k n s t names kids).k = 2 from a2)] at hf; right
  by_cases a3 : k = 3
  · subst a3; left
    rw [if_pos (show (V.mk 3 n s t names kids).k = 3 from rfl)] at hf; simp only [plainB, noTextB, Bool.and_eq_true, decide_eq_true_eq, List.length_eq_zero_iff] at hf; simp only [V.s, V.t, V.names, V.kids] at hf; obtain ⟨⟨rfl, rfl, rfl⟩, ht⟩ := hf; exact ⟨rfl, by rw [noT_of ht]⟩
  rw [if_neg (show ¬ (V.mk k n s t names kids).k = 3 from a3)] at hf; right
  by_cases a4 : k = 4
  · subst a4; left
    rw [if_pos (show (V.mk 4 n s t names kids).k = 4 from rfl)] at hf; simp only [plainB, noTextB, Bool.and_eq_true, decide_eq_true_eq, List.length_eq_zero_iff] at hf; simp only [V.n, V.s, V.t, V.names, V.kids] at hf; obtain ⟨⟨⟨⟨b1, b2⟩, -⟩, rfl, rfl⟩, ht⟩ := hf; exact ⟨rfl, by rw [noT_of ht], b1, b2⟩
  rw [if_neg (show ¬ (V.mk k n s t names kids).k = 4 from a4)] at hf; right
  by_cases a5 : k = 5
  · subst a5; left
    rw [if_pos (show (V.mk 5 n s t names kids).k = 5 from rfl)] at hf; simp only [plainB, noTextB, Bool.and_eq_true, decide_eq_true_eq, List.length_eq_zero_iff] at hf; simp only [V.n, V.s, V.t, V.names, V.kids] at hf; obtain ⟨⟨⟨⟨b1, b2⟩, rfl⟩, rfl, rfl⟩, ht⟩ := hf; exact ⟨rfl, by rw [noT_of ht], b1, b2⟩
  rw [if_neg (show ¬ (V.mk k n s t names kids).k = 5 from a5)] at hf; right
  by_cases a6 : k = 6 ∨ k = 7
  · left
    rw [if_pos (show (V.mk k n s t names kids).k = 6 ∨ (V.mk k n s t names kids).k = 7 from a6)] at hf; simp only [bareB, plainB, Bool.and_eq_true, decide_eq_true_eq, List.length_eq_zero_iff] at hf; simp only [V.n, V.s, V.names, V.kids] at hf; obtain ⟨⟨rfl, rfl⟩, rfl, rfl⟩ := hf; exact ⟨a6, rfl, by omega⟩
  rw [if_neg (show ¬ ((V.mk k n s t names kids).k = 6 ∨ (V.mk k n s t names kids).k = 7) from a6)] at hf; right
  by_cases a8 : k = 8
  · subst a8; left
    rw [if_pos (show (V.mk 8 n s t names kids).k = 8 from rfl)] at hf; simp only [bareB, noTextB, Bool.and_eq_true, decide_eq_true_eq, List.length_eq_zero_iff] at hf; simp only [V.n, V.s, V.t, V.names] at hf; obtain ⟨⟨⟨rfl, rfl⟩, rfl⟩, ht⟩ := hf; exact ⟨rfl, by rw [noT_of ht], by omega⟩
  rw [if_neg (show ¬ (V.mk k n s t names kids).k = 8 from a8)] at hf; right
  by_cases a9 : k = 9
  · subst a9
    rw [if_pos (show (V.mk 9 n s t names kids).k = 9 from rfl)] at hf; simp only [bareB, noTextB, Bool.and_eq_true, decide_eq_true_eq] at hf; simp only [V.n, V.s, V.t] at hf; obtain ⟨⟨rfl, rfl⟩, ht⟩ := hf; have h4 : fieldsB (.mk 9 0 0 t names kids) = true := by
      cases hb : fieldsB (.mk 9 0 0 t names kids) with
      | true => rfl
      | false => exact (h3 ⟨rfl, hb⟩).elim
    unfold fieldsB at h4; simp only [Bool.and_eq_true, List.all_eq_true, decide_eq_true_eq] at h4; refine ⟨rfl, by rw [noT_of ht], by omega, h4.2, fun s hs => ?_⟩; have := h4.1.1 s hs; unfold isNameB at this; simp at this
    omega
  · rw [if_neg (show ¬ (V.mk k n s t names kids).k = 9 from a9)] at hf; cases hf

theorem chk_mem {m : Nat} {v x : V} (h : chk (m + 1) v = 0) (hx : x ∈ v.kids) : chk m x = 0 := by
  obtain ⟨j, hj, rfl⟩ := List.getElem_of_mem hx; have := chk_kid h hj
  rwa [List.getD_eq_getElem?_getD, List.getElem?_eq_getElem hj] at this

theorem rdV_can : ∀ (m : Nat) {v : V} {l r : List Int}, rdV m l = .ok v r → chk m v = 0 → Byt l → l = encV m v ++ r
  | 0, _, _, _, h, _, _ => by cases h
  | m + 1, v, l, r, h, hc, hb => by
    have ih : ∀ v l r, rdV m l = .ok v r → chk m v = 0 → Byt l → l = encV m v ++ r := fun v l r h1 h2 h3 => rdV_can m h1 h2 h3; cases l with
    | nil => cases h
    | cons k l =>
      have hb1 := hb.tail; have hsh := shp_form_k (chk_shp hc); have hkid : ∀ x ∈ v.kids, chk m x = 0 := fun x hx => chk_mem hc hx; clear hc hb; unfold rdV at h; simp only [rdB, Rd.bind] at h
      by_cases k1 : k = 1
      · rw [if_pos k1] at h; cases h; subst k1; rfl
      rw [if_neg k1] at h
      by_cases k2 : k = 2
      · rw [if_pos k2] at h
        cases l with
        | nil => cases h
        | cons c l =>
          simp only at h
          split at h
          · cases h
          · cases h; subst k2; rfl
      rw [if_neg k2] at h
      by_cases k3 : k = 3
      · rw [if_pos k3] at h
        cases hu : rdU l with
        | bad e => rw [hu] at h; cases h
        | ok u r' =>
          rw [hu] at h; cases h; subst k3; obtain ⟨rfl, -⟩ := rdU_can hb1 hu
          show _ = 3 :: uvB (zig (zag u)) ++ r
          rw [zig_zag]; rfl
      rw [if_neg k3] at h
      by_cases k4 : k = 4
      · rw [if_pos k4] at h
        cases hu : rdU l with
        | bad e => rw [hu] at h; cases h
        | ok u r' =>
          rw [hu] at h; simp only at h; cases r' with
          | nil => cases h
          | cons s r' =>
            cases h; subst k4
            obtain ⟨rfl, -⟩ := rdU_can hb1 hu
            show _ = 4 :: (uvB (zig (zag u)) ++ [s]) ++ r
            rw [zig_zag]; simp
      rw [if_neg k4] at h
      by_cases k5 : k = 5
      · rw [if_pos k5] at h
        cases hu : rdU l with
        | bad e => rw [hu] at h; cases h
        | ok u r' =>
          rw [hu] at h; cases h; subst k5; obtain ⟨rfl, hlt⟩ := rdU_can hb1 hu; have h5 := hsh.1 rfl; have : (IntKind.i64.wrap (u : Int)).toNat = u := by
            simp only [V.n] at h5; rw [IntKind.wrap_i64] at h5 ⊢; omega
          show _ = 5 :: uvB (IntKind.i64.wrap (u : Int)).toNat ++ r
          rw [this]; rfl
      rw [if_neg k5] at h
      by_cases k6 : k = 6 ∨ k = 7
      · rw [if_pos k6] at h
        cases hu : rdT l with
        | bad e => rw [hu] at h; cases h
        | ok t r' =>
          rw [hu] at h; cases h; obtain ⟨rfl, -⟩ := rdT_can hb1 hu; rcases k6 with rfl | rfl
          · show _ = 6 :: (uvB t.size ++ byI t) ++ r
            simp
          · show _ = 7 :: (uvB t.size ++ byI t) ++ r
            simp
      rw [if_neg k6] at h
      by_cases k8 : k = 8 ∨ k = 9
      · rw [if_pos k8] at h
        cases hu : rdC l with
        | bad e => rw [hu] at h; cases h
        | ok n r' =>
          rw [hu] at h; simp only at h; obtain ⟨rfl, -⟩ := rdC_can hb1 hu; cases hk : rdK (rdV m) (decide (k = 9)) n [] [] r' with
          | bad e => rw [hk] at h; cases h
          | ok p r2 =>
            rw [hk] at h; cases h
            obtain ⟨ns, ks, rfl, e1, e2, e3, e4⟩ := rdK_can (decide (k = 9)) ih (suf_rdV m) n [] [] r' r p hb1.right hk; simp only [List.nil_append, V.kids] at hkid ⊢; rw [e4 hkid]; subst e1; have he : encV (m + 1) (.mk k 0 0 noT ns ks) = k :: (uvB ks.length ++ (List.range ks.length).flatMap (pieceE (encV m) (decide (k = 9)) ns ks)) := by
              rcases k8 with rfl | rfl <;> rfl
            rw [he, encK_range]; simp
      · rw [if_neg k8] at h; cases h
where
  shp_form_k {v : V} (h : shp v = 0) : (v.k = 5 → 0 ≤ v.n ∧ v.n ≤ 9007199254740992) ∧ True := by
    refine ⟨fun e => ?_, trivial⟩; rcases shp_full h with ⟨h1, _⟩ | ⟨h1, _, _⟩ | ⟨h1, _⟩ | ⟨h1, _, _⟩ | ⟨h1, _, h2, h3⟩ | ⟨h1, _⟩ | ⟨h1, _⟩ | ⟨h1, _⟩
    all_goals first | exact ⟨h2, h3⟩ | omega
end K
end Go.Proofs.Ytdkkaliiofcflaa

namespace Go.Proofs.Ytdkkaliiofcflaa
open Go.RowKit
namespace K
variable {n : NN} {Q : Exit → Act → World → Prop} {l : Env} {w w' : World} {ops : Array Oper} {o : Oper} {rest : List Oper} {d : Nat}

def strP (s : ByteArray) (cs : List Value) : Prop := cs = [.string s] ∧ s.size ≤ 140737488355328
def IsVo (O : Nat → Prop) : Nat → World → V → List Value → Prop
  | 0, _, _, _ => False
  | f + 1, w, v, cs => ∃ sn sk, cs = [.int .i64 v.k, .int .i64 v.n, .int .i64 v.s, .string v.t, sn, sk] ∧
      (Lit.int .i64 v.k).wf = true ∧ (Lit.int .i64 v.n).wf = true ∧ (Lit.int .i64 v.s).wf = true ∧ v.t.size ≤ 140737488355328 ∧ Els 1 noT strP O w sn v.names ∧ Els 6 noV (IsVo O f w) O w sk v.kids
theorem IsVo.keep {O O' : Nat → Prop} {K : Nat → Prop} {w w' : World} (hk : Keep K w w') (hK : ∀ b, O b → b < w.heap.size → K b) (hO : ∀ b, O b → O' b) : ∀ {f : Nat} {v : V} {cs : List Value}, IsVo O f w v cs → IsVo O' f w' v cs
  | 0, _, _, h => h
  | _ + 1, _, _, ⟨sn, sk, h1, h2, h3, h4, h5, h6, h7⟩ => ⟨sn, sk, h1, h2, h3, h4, h5, h6.keep hk hK hO fun _ _ h => h, h7.keep hk hK hO fun _ _ h => IsVo.keep hk hK hO h⟩
theorem IsVo.mono {O O' : Nat → Prop} {w : World} (hO : ∀ b, O b → O' b) {f : Nat} {v : V} {cs : List Value} (h : IsVo O f w v cs) : IsVo O' f w v cs := h.keep (Keep.refl (fun _ => True) w) (fun _ _ _ => trivial) hO
theorem Els.there {α : Type} {m : Nat} {z : α} {P P' : α → List Value → Prop} {O : Nat → Prop} {w : World} {v : Value} {l : List α} (h : Els m z P O w v l) (hP : ∀ x cs, P x cs → P' x cs) : Els m z P' (fun b => O b ∧ b < w.heap.size) w v l := by
  obtain ⟨sp, cap, h1, h2, h3, h5, h4⟩ := h; refine ⟨sp, cap, h1, h2, h3, h5, fun h0 => ?_⟩; obtain ⟨b, o, e, hlt, hOb, hr⟩ := h4 h0; refine ⟨b, o, e, hlt, ⟨hOb, hlt⟩, fun j hj => ?_⟩; obtain ⟨cs, hc, hp, hat⟩ := hr j hj; exact ⟨cs, hc, hP _ _ hp, hat⟩
theorem IsVo.there {O : Nat → Prop} {w : World} : ∀ {f : Nat} {v : V} {cs : List Value}, IsVo O f w v cs → IsVo (fun b => O b ∧ b < w.heap.size) f w v cs
  | 0, _, _, h => h
  | _ + 1, _, _, ⟨sn, sk, h1, h2, h3, h4, h5, h6, h7⟩ => ⟨sn, sk, h1, h2, h3, h4, h5, h6.there fun _ _ h => h, h7.there fun _ _ h => IsVo.there h⟩
theorem Els.strs {O : Nat → Prop} {w : World} {v : Value} {l : List ByteArray} (h : Els 1 noT strP O w v l) : Strs w v l := by
  obtain ⟨sp, cap, h1, h2, h3, -, h4⟩ := h; refine ⟨sp, cap, h1, h2, h3, fun j hj => ?_, fun h0 => ?_⟩
  · obtain ⟨b, o, -, -, -, hr⟩ := h4 (by omega)
    obtain ⟨cs, -, ⟨-, hp⟩, -⟩ := hr j hj; exact hp
  · obtain ⟨b, o, e, hb, -, hr⟩ := h4 h0
    refine ⟨b, o, e, hb, fun j hj => ?_⟩; obtain ⟨cs, -, ⟨rfl, -⟩, hat⟩ := hr j hj; have := hat 0 _ rfl; rw [Nat.mul_one] at this; exact this
theorem IsVo.isV {O : Nat → Prop} {w : World} : ∀ {f : Nat} {v : V} {cs : List Value}, IsVo O f w v cs → IsV f w v cs
  | 0, _, _, h => h
  | _ + 1, _, _, ⟨sn, sk, h1, h2, h3, h4, h5, h6, h7⟩ => ⟨sn, sk, h1, h2, h3, h4, h5, h6.strs, by
      obtain ⟨sp, cap, k1, k2, k3, -, k4⟩ := h7; refine ⟨sp, cap, k1, k2, k3, fun h0 => ?_⟩; obtain ⟨b, o, e, hb, -, hr⟩ := k4 h0; refine ⟨b, o, e, hb, fun j hj => ?_⟩; obtain ⟨cs, hc, hp, hat⟩ := hr j hj; exact ⟨cs, hc, IsVo.isV hp, hat⟩⟩
theorem IsVo.len {O : Nat → Prop} {f : Nat} {w : World} {v : V} {cs : List Value} (h : IsVo O f w v cs) : cs.length = 6 := h.isV.len
theorem IsVo.one {O : Nat → Prop} {f : Nat} {w : World} {v : V} {cs : List Value} (h : IsVo O f w v cs) : Ones cs := IsV.one h.isV

structure SlB (O : Nat → Prop) (w : World) (v : Value) (l : List Int) : Prop where
  sl : Sl .u8 w v l
  lt : 0 < l.length → ∀ b o s n c, v = .slice (some ⟨b, o, s⟩) n c → O b
theorem SlB.keep {O : Nat → Prop} {w w' : World} {v : Value} {l : List Int} (h : SlB O w v l) {K : Nat → Prop} (hk : Keep K w w') (hK : ∀ b, O b → K b) : SlB O w' v l := by
  refine ⟨?_, h.lt⟩; rcases Nat.eq_zero_or_pos l.length with h0 | h0
  · obtain ⟨sp, cap, rfl, h2, h3, h4, h5⟩ := h.sl
    exact ⟨sp, cap, rfl, h2, h3, fun h1 => absurd h1 (by omega), h5⟩
  · exact h.sl.keep hk fun b o n c e _ => hK b (h.lt h0 b o none n c e)
theorem SlB.mono {O O' : Nat → Prop} {w : World} {v : Value} {l : List Int} (h : SlB O w v l) (hO : ∀ b, O b → O' b) : SlB O' w v l := ⟨h.sl, fun h0 b o s n c e => hO b (h.lt h0 b o s n c e)⟩
theorem SlB.of_sl {w : World} {v : Value} {l : List Int} (h : Sl .u8 w v l) : SlB (fun b => b < w.heap.size) w v l :=
  ⟨h, fun h0 b o s n c e => by
    obtain ⟨sp, cap, rfl, -, -, h3, -⟩ := h; obtain ⟨b', o', rfl, hb, -⟩ := h3 h0
    injection e with e1 _ _; cases e1; exact hb⟩
theorem WL.fromB {O : Nat → Prop} {t e : Nat} {x lo : Operand} {v : Value} {kk : IntKind} {z : Int} {zs : List Int} {w0 : World} (hg : o.guard = none) (hd : o.dst = some d) (hn : Nat.blt d n.n = true) (ho : o.op = .slice t x (some lo) none none) (ht : tyOf ty t = some (.slice e 1))
    (hx : evl l x = some v) (hlo : evl l lo = some (.int kk z)) (h0 : 0 ≤ z) (h1 : z ≤ zs.length) (hs : SlB O w0 v zs) (h : ∀ v', SlB O w0 v' (zs.drop z.toNat) → WL n ops Q rest ((d, v') :: l) w) : WL n ops Q (o :: rest) l w := by
  have hs0 := hs.sl; have hlt := hs.lt; obtain ⟨sp, cap, rfl, hc, hm, hr, hn0⟩ := hs.sl; refine WL.step hg hd hn (v := sliced sp z.toNat zs.length cap 1) (fun a ha => ?_) (h _ ⟨sl_from hs0 (by omega), fun hl0 b o s m c e => ?_⟩)
  · obtain ⟨hu, hsz⟩ := TyOk.of tyOk ht
    have he : Try.prog.elem t = e := by simp [Program.elem, hu]
    have hu' : Try.prog.underlying t = some (.slice (Try.prog.elem t)) := by rw [he]; exact hu
    have hs : (sizeOf e).run Try.prog w = .ok 1 w := by
      cases hq : Try.prog.info? e with
      | none => rw [hq] at hsz; cases hsz
      | some q => rw [hq] at hsz; simp at hsz; simp [sizeOf, typeInfo, hq, hsz]
    unfold execOp; rw [ho]; simp [ha.eval hx, ha.eval hlo, run_sliceAt_slice w t _ _ _ _ hu', run_slice_l w t sp zs.length cap hu' kk z h0 (by omega), he, hs]
  · unfold sliced at e
    injection e with e1 _ _
    cases sp with
    | none => split at e1 <;> cases e1
    | some p =>
      obtain ⟨pb, po, ps⟩ := p; have := hlt (by rw [List.length_drop] at hl0; omega) pb po ps _ _ rfl
      split at e1
      · cases e1; exact this
      · have e2 := congrArg (fun q => q.map Addr.block) e1
        have e3 : ((⟨pb, po, ps⟩ : Addr).add (z.toNat * 1)).block = pb := by unfold Addr.add; split <;> rfl
        simp only [Option.map_some, Option.some.injEq, e3] at e2; rw [← e2]; exact this

structure RS (B : Nat) (w : World) (rb : Nat) (l : List Int) (e : Int) : Prop where
  rlt : rb < B
  byt : Byt l
  ex : ∃ sp cap, VBlk 135 w rb [.slice sp l.length cap, .int .i64 e] ∧ SlB (fun b => b < B ∧ b ≠ rb) w (.slice sp l.length cap) l
theorem RS.keep {B : Nat} {w w' : World} {rb : Nat} {l : List Int} {e : Int} (h : RS B w rb l e) {K : Nat → Prop} (hk : Keep K w w') (hK : ∀ b, b < B → K b) : RS B w' rb l e := by
  obtain ⟨sp, cap, h1, h2⟩ := h.ex; exact ⟨h.rlt, h.byt, sp, cap, h1.keep hk (hK _ h.rlt), h2.keep hk fun b hb => hK b hb.1⟩
theorem RS.setE {B : Nat} {w : World} {rb : Nat} {l : List Int} {e : Int} (h : RS B w rb l e) (x : Int) : RS B (w.setCell ⟨rb, 1, none⟩ (.int .i64 x)) rb l x := by
  obtain ⟨sp, cap, h1, h2⟩ := h.ex; exact ⟨h.rlt, h.byt, sp, cap, h1.set 1 (.int .i64 x), h2.keep (K := fun b => b ≠ rb) ((Keep.refl _ w).setCell (fun hk => hk rfl) _) fun b hb => hb.2⟩
theorem RS.setL {B : Nat} {w : World} {rb : Nat} {l l' : List Int} {e : Int} {v' : Value} (h : RS B w rb l e) (hb : Byt l') (hv : SlB (fun b => b < B ∧ b ≠ rb) w v' l') : RS B (w.setCell ⟨rb, 0, none⟩ v') rb l' e := by
  obtain ⟨sp, cap, h1, h2⟩ := h.ex; obtain ⟨sp', cap', rfl, -⟩ := hv.sl; exact ⟨h.rlt, hb, sp', cap', h1.set 0 (.slice sp' l'.length cap'), hv.keep (K := fun b => b ≠ rb) ((Keep.refl _ w).setCell (fun hk => hk rfl) _) fun b hb => hb.2⟩
def KeepR (rb : Nat) (w w' : World) : Prop := Keep (fun b => b < w.heap.size ∧ b ≠ rb) w w'
theorem KeepR.refl (rb : Nat) (w : World) : KeepR rb w w := Keep.refl _ _
theorem KeepR.trans {rb : Nat} {w w1 w2 : World} (h : KeepR rb w w1) (k : KeepR rb w1 w2) : KeepR rb w w2 := Keep.trans h (Keep.mono k fun _ hb => ⟨Nat.lt_of_lt_of_le hb.1 h.size, hb.2⟩)
theorem KeepR.below {rb : Nat} {w w1 : World} (h : Below w.heap.size w w1) : KeepR rb w w1 := (Keep.of_below h).mono fun _ hb => hb.1
theorem KeepR.set (rb i : Nat) (w : World) (v : Value) : KeepR rb w (w.setCell ⟨rb, i, none⟩ v) := (Keep.refl _ w).setCell (fun h => h.2 rfl) _
structure Out {α : Type} (f : List Int → Rd α) (l : List Int) (e : Int) (a : α) (l' : List Int) (e' : Int) : Prop where
  len : l'.length ≤ l.length
  bad : e ≠ 0 → e' = e
  ok : e = 0 → match f l with | .ok x r => a = x ∧ l' = r ∧ e' = 0 | .bad x => e' = x ∧ x ≠ 0
end K
end Go.Proofs.Ytdkkaliiofcflaa

namespace Go.Proofs.Ytdkkaliiofcflaa
open Go.RowKit
namespace K

theorem uvF_len : ∀ (f u : Nat), (uvF f u).length ≤ f
  | 0, _ => by simp [uvF]
  | f + 1, u => by
    unfold uvF
    split
    · simp
    · simp [uvF_len f (u / 128)]
theorem or128 : ∀ x : Nat, x < 256 → bits .or .u8 (x : Int) 128 = ((x % 128 + 128 : Nat) : Int) := by decide +kernel
theorem shr7 (u : Nat) : (u : Int) / ((2 ^ min 7 IntKind.u64.bits : Nat) : Int) = ((u / 128 : Nat) : Int) := by
  rw [show ((2 ^ min 7 IntKind.u64.bits : Nat) : Int) = 128 from rfl]; omega

theorem uvarint_any (u : Nat) (hu : u < 18446744073709551616) (w : World) :
    Calls Try.prog 43 #[.int .u64 u] w fun e w' => ∃ b, e = .returned b ∧ Bu w' b (uvB u) ∧ Below w.heap.size w w' ∧ ∀ g, b.ownBlock = some g → w.heap.size ≤ g := by
  refine enter (args := [.int .u64 u]) Try.func43 rfl Try.ntmps43 rfl ?_; have h1 : u < 2 * 128 ^ 9 := by omega
  have h2 : uvB u = [] ++ uvF (9 + 1) u := by rw [List.nil_append]; rfl
  refine K.kgo ?_; refine WC.loop (fun i : Nat × Nat × List Int × Value => [(0, .int .u64 i.2.1), (3, i.2.2.2)])
    (fun i w' => i.2.1 < 2 * 128 ^ i.1 ∧ i.1 ≤ 9 ∧ uvB u = i.2.2.1 ++ uvF (i.1 + 1) i.2.1 ∧ i.2.2.1.length ≤ 9 ∧ Bu w' i.2.2.2 i.2.2.1 ∧ Grow w (.slice none 0 0) w' i.2.2.2) (fun i => i.1) (9, u, [], .slice none 0 0) ⟨rfl, rfl, trivial⟩ ⟨h1, Nat.le_refl 9, h2, Nat.zero_le 9, Bu.nil w, Grow.refl _ _⟩ ?_
  rintro ⟨f, c, A, v⟩ wr ⟨hc, hf, hA, hl, hb, hg⟩; simp only at hc hf hA hl hb hg ⊢; have hle : (128 : Nat) ^ f ≤ 128 ^ 9 := Nat.pow_le_pow_right (by decide) hf
  by_cases h : c < 128
  · have hw : IntKind.u8.wrap (c : Int) = (c : Int) := by rw [IntKind.wrap_u8]; omega
    have hfin : uvF (f + 1) c = [(c : Int)] := by rw [uvF, if_pos h]
    refine K.kgo ?_; refine WL.push rfl rfl rfl rfl rfl rfl rfl rfl rfl rfl rfl (fun _ => rfl) rfl hb (by simp only [List.length_cons, List.length_nil]; omega) fun b2 w2 hb2 hg2 => ?_; refine K.kgo ?_; have hg3 := hg.trans hg2; refine WQ.ret1 rfl rfl ⟨b2, rfl, ?_, hg3.old (Nat.le_refl _) (fun g h => by cases h), hg3.own (Nat.le_refl _) (fun g h => by cases h)⟩; rw [hw] at hb2; rw [hA, hfin]; exact hb2
  · obtain ⟨f, rfl⟩ : ∃ f', f = f' + 1 := ⟨f - 1, by
      cases f with
      | zero => simp at hc; omega
      | succ f => rfl⟩
    have hbig : uvF (f + 1 + 1) c = ((c % 128 + 128 : Nat) : Int) :: uvF (f + 1) (c / 128) := uvF_big (by omega); have hw : bits .or .u8 (IntKind.u8.wrap (c : Int)) 128 = ((c % 128 + 128 : Nat) : Int) := by
      have := or128 (c % 256) (by omega); rw [IntKind.wrap_u8, show (c : Int) % 256 = ((c % 256 : Nat) : Int) by omega, this]; omega
    refine K.kgo ?_; refine WL.push rfl rfl rfl rfl rfl rfl rfl rfl rfl rfl rfl (fun _ => rfl) rfl hb (by simp only [List.length_cons, List.length_nil]; omega) fun b2 w2 hb2 hg2 => ?_; rw [hw] at hb2; refine K.kgo ?_; refine WQ.again (f, c / 128, A ++ [((c % 128 + 128 : Nat) : Int)], b2) ⟨congrArg (fun z => some (Value.int .u64 z)) (shr7 c), rfl, trivial⟩
      ⟨by rw [Nat.pow_succ] at hc; show c / 128 < 2 * 128 ^ f; omega, by show f ≤ 9; omega, by show uvB u = A ++ [((c % 128 + 128 : Nat) : Int)] ++ uvF (f + 1) (c / 128); rw [hA, hbig]; simp, ?_, hb2, hg.trans hg2⟩ (by show f < f + 1; omega)
    show (A ++ [((c % 128 + 128 : Nat) : Int)]).length ≤ 9
    have := congrArg List.length hA; rw [List.length_append, hbig, List.length_cons] at this; have h10 : (uvB u).length ≤ 10 := uvF_len 10 u; have h1 : 1 ≤ (uvF (f + 1) (c / 128)).length := by unfold uvF; split <;> simp
    rw [List.length_append]; simp only [List.length_cons, List.length_nil]; omega
end K
end Go.Proofs.Ytdkkaliiofcflaa

namespace Go.Proofs.Ytdkkaliiofcflaa
namespace K
theorem range_piece (g : Nat → List Int) (i : Nat) : (List.range (i + 1)).flatMap g = (List.range i).flatMap g ++ g i := by
  rw [List.range_succ, List.flatMap_append]; simp
theorem range_len_le (g : Nat → List Int) {i n : Nat} (h : i ≤ n) : ((List.range i).flatMap g).length ≤ ((List.range n).flatMap g).length := by
  induction n with
  | zero => obtain rfl : i = 0 := by omega
            exact Nat.le_refl _
  | succ n ih =>
    rcases Nat.lt_or_ge n i with h' | h'
    · obtain rfl : i = n + 1 := by omega
      exact Nat.le_refl _
    · rw [range_piece, List.length_append]; have := ih h'; omega
theorem shp_form {v : V} (h : shp v = 0) : (1 ≤ v.k ∧ v.k ≤ 9) ∧ (v.k = 2 → 0 ≤ v.n ∧ v.n ≤ 1) ∧ (v.k = 3 → v.s = 0) ∧ (v.k = 4 → 1 ≤ v.s ∧ v.s ≤ 18 ∧ ¬ v.n.tmod 10 = 0) ∧ (v.k = 5 → 0 ≤ v.n ∧ v.n ≤ 9007199254740992) ∧
    v.kids.length ≤ 200 ∧ v.t.size ≤ 16384 ∧ (v.k = 9 → v.names.length = v.kids.length ∧ ∀ s ∈ v.names, s.size ≤ 40) := by
  unfold shp at h
  by_cases h1 : formB v = false
  · rw [if_pos h1] at h; cases h
  rw [if_neg h1] at h
  by_cases h2 : 16384 < v.t.size ∨ 200 < v.kids.length
  · rw [if_pos h2] at h; cases h
  rw [if_neg h2] at h
  by_cases h3 : v.k = 9 ∧ fieldsB v = false
  · rw [if_pos h3] at h; cases h
  have hf : formB v = true := by simpa using h1
  clear h h1; refine ⟨?_, ?_, ?_, ?_, ?_, by omega, by omega, ?_⟩
  · unfold formB at hf
    by_cases a1 : v.k = 1
    · omega
    by_cases a2 : v.k = 2
    · omega
    by_cases a3 : v.k = 3
    · omega
    by_cases a4 : v.k = 4
    · omega
    by_cases a5 : v.k = 5
    · omega
    by_cases a6 : v.k = 6 ∨ v.k = 7
    · omega
    by_cases a8 : v.k = 8
    · omega
    by_cases a9 : v.k = 9
    · omega
    rw [if_neg a1, if_neg a2, if_neg a3, if_neg a4, if_neg a5, if_neg a6, if_neg a8, if_neg a9] at hf; cases hf
  · intro e; unfold formB at hf; simp [e] at hf; omega
  · intro e; unfold formB at hf; simp [e] at hf; omega
  · intro e; unfold formB at hf; simp [e] at hf; exact ⟨hf.1.1.1.1, hf.1.1.1.2, hf.1.1.2⟩
  · intro e; unfold formB at hf; simp [e] at hf; omega
  · intro e
    have h4 : fieldsB v = true := by
      cases hb : fieldsB v with
      | true => rfl
      | false => exact (h3 ⟨e, hb⟩).elim
    unfold fieldsB at h4; simp only [Bool.and_eq_true, List.all_eq_true, decide_eq_true_eq] at h4; refine ⟨h4.2, fun s hs => ?_⟩; have := h4.1.1 s hs; unfold isNameB at this; simp at this
    omega
end K
end Go.Proofs.Ytdkkaliiofcflaa

namespace Go.Proofs.Ytdkkaliiofcflaa
open Go.RowKit
namespace K

theorem xor_ones (x : Nat) (h : x < 18446744073709551616) : x ^^^ 18446744073709551615 = 18446744073709551615 - x := by
  have e := congrArg BitVec.toNat (BitVec.xor_allOnes (x := BitVec.ofNat 64 x)); rw [BitVec.toNat_xor, BitVec.toNat_not, BitVec.toNat_ofNat, BitVec.toNat_allOnes, Nat.mod_eq_of_lt (by omega)] at e
  simpa using e
theorem zig_xor (v : Int) (h : -9223372036854775808 ≤ v ∧ v ≤ 9223372036854775807) :
    bits .xor .u64 (IntKind.u64.wrap (IntKind.i64.wrap (v * ((2 ^ min 1 IntKind.i64.bits : Nat) : Int)))) (IntKind.u64.wrap (v / ((2 ^ min 63 IntKind.i64.bits : Nat) : Int))) = zig v := by
  rw [show ((2 ^ min 1 IntKind.i64.bits : Nat) : Int) = 2 from rfl, show ((2 ^ min 63 IntKind.i64.bits : Nat) : Int) = 9223372036854775808 from rfl]; unfold zig
  by_cases hv : 0 ≤ v
  · rw [if_pos hv, show v / 9223372036854775808 = 0 by omega, show IntKind.u64.wrap 0 = ((0 : Nat) : Int) by rw [IntKind.wrap_u64]; omega,
      show IntKind.u64.wrap (IntKind.i64.wrap (v * 2)) = (((2 * v).toNat : Nat) : Int) by rw [IntKind.wrap_u64, IntKind.wrap_i64]; omega, bits_xor_u64_nat _ _ (by omega) (by omega), Nat.xor_zero]
  · rw [if_neg hv, show v / 9223372036854775808 = -1 by omega, show IntKind.u64.wrap (-1) = ((18446744073709551615 : Nat) : Int) by rw [IntKind.wrap_u64]; omega,
      show IntKind.u64.wrap (IntKind.i64.wrap (v * 2)) = (((2 * v + 18446744073709551616).toNat : Nat) : Int) by rw [IntKind.wrap_u64, IntKind.wrap_i64]; omega, bits_xor_u64_nat _ _ (by omega) (by omega), xor_ones _ (by omega)]
    omega
theorem zig_any (v : Int) (h : -9223372036854775808 ≤ v ∧ v ≤ 9223372036854775807) (w : World) : Calls Try.prog 44 #[.int .i64 v] w fun e w' => e = .returned (.int .u64 (zig v : Nat)) ∧ w' = w := by
  refine enter (args := [.int .i64 v]) Try.func44 rfl Try.ntmps44 rfl ?_; have hz := zig_xor v h; generalize (zig v : Nat) = z at hz ⊢; refine K.kgn ?_; refine WL.pure rfl rfl rfl rfl ?_; refine K.kgn ?_; refine WL.pure rfl rfl rfl rfl ?_; refine WL.pure rfl rfl rfl rfl ?_; refine WL.pure rfl rfl rfl rfl ?_; refine WL.pure rfl rfl rfl rfl ?_; refine WL.pure rfl rfl rfl rfl ?_; refine WL.pure rfl rfl rfl rfl ?_; refine WL.pure rfl rfl rfl rfl ?_; refine WL.pure rfl rfl rfl rfl ?_; refine K.kgn ?_; exact WQ.ret1 rfl rfl ⟨congrArg (fun z => Ending.returned (Value.int .u64 z)) hz, rfl⟩

theorem lay1_any {w : World} {bb u : Nat} {v : Value} {l : List Int} (hu : u < 18446744073709551616) (hb : Bx bb w v l) (hl : l.length ≤ 70368744177664) :
    Calls Try.prog 78 #[.int .u64 u, .pointer (some ⟨bb, 0, none⟩)] w fun e w' => e = .returned (.tuple #[]) ∧ ∃ v', Bx bb w' v' (l ++ uvB u) ∧ GrowB bb w v w' v' := by
  refine enter (args := [.int .u64 u, .pointer (some ⟨bb, 0, none⟩)]) Try.func78 rfl Try.ntmps78 rfl ?_; refine K.kgo ?_; refine WC.drawn 4 (fun wx => VBlk 27 wx bb [v]) fun w2 hd2 => ?_; have hb2 : Bx bb w2 v l := hb.below (hd2.below _); have hS : VBlk 27 w2 bb [v] := hb2.blk; have hgd : GrowB bb w v w2 v := (GrowB.refl bb w v).below (hd2.below _); have hul : (uvB u).length ≤ 10 := uvF_len 10 u; refine K.wl 0 [3, 4] rfl rfl rfl rfl rfl rfl rfl (fun wx hx => hx.cell 0 (by simp)) hS ?_; refine K.fr [1] hS ?_; refine K.wo 2 ?_; refine WL.call rfl rfl rfl rfl rfl Try.func43 rfl (by kernel_rfl) (uvarint_any u hu w2) ?_; rintro e w3 ⟨b3, rfl, hb3, k3, g3⟩; refine ⟨_, rfl, ?_⟩; have hbx3 : Bx bb w3 v l := hb2.below k3; refine WL.nil (WQ.dk (.inr hbx3.blk) ?_); refine K.wo 3 ?_; refine WL.app rfl rfl rfl rfl rfl hbx3.bu rfl hb3.sl (by omega) fun b4 w4 hb4 hg4 => ?_; obtain ⟨hblk, hbx, hgb⟩ := hbx3.put hb4 hg4; refine K.di hblk ?_; refine K.wo 4 ?_; refine WL.store rfl rfl rfl rfl rfl hb4.cell1 (by kernel_rfl) (hblk.cell 0 (by simp)) (hblk.free 0) ?_; refine K.dl ?_; refine WD.done (by kernel_rfl) ?_; exact WQ.end0 rfl ⟨rfl, b4, hbx, (hgd.below k3).trans hgb⟩
end K
end Go.Proofs.Ytdkkaliiofcflaa

namespace Go.Proofs.Ytdkkaliiofcflaa
open Go.RowKit
namespace K
section
variable {n : Nat} {l : Env} {w : World} {fn : Func} {R : Ending → World → Prop}
theorem WQ.ret3 {kn : Nat} {md : Option (Option Nat)} {t t2 t3 : Nat} {v v2 v3 : Value} (hr : fn.results = #[.tmp t, .tmp t2, .tmp t3]) (hl : look l t = some v) (hl2 : look l t2 = some v2) (hl3 : look l t3 = some v3) (h : R (.returned (.tuple #[v, v2, v3])) w) : WQ ⟨kn, [], md⟩ (bodyPost Try.prog fn R) .ret l w :=
  ⟨fun a ha => ⟨ha.defers, _, by rw [results_tmp3 hr, ha.getD hl, ha.getD hl2, ha.getD hl3], h⟩⟩
end

theorem and127b : ∀ x : Nat, x < 256 → bits .and .u8 (x : Int) 127 = ((x % 128 : Nat) : Int) := by decide +kernel
theorem or_shl (a c i : Nat) (ha : a < 128 ^ i) (h : c * 128 ^ i < 18446744073709551616) (h2 : a < 18446744073709551616) : bits .or .u64 (a : Int) ((c * 128 ^ i : Nat) : Int) = ((a + 128 ^ i * c : Nat) : Int) := by
  rw [bits_or_u64_nat _ _ h2 h, Nat.or_comm, Nat.mul_comm c]; rw [show 128 ^ i = 2 ^ (7 * i) by rw [Nat.pow_mul]] at ha ⊢; rw [← Nat.two_pow_add_eq_or_of_lt ha, Nat.add_comm]
theorem zag_xor (u : Nat) (h : u < 18446744073709551616) :
    bits .xor .i64 (IntKind.i64.wrap ((u : Int) / ((2 ^ min 1 IntKind.u64.bits : Nat) : Int))) (IntKind.i64.wrap (0 - IntKind.i64.wrap (bits .and .u64 (u : Int) 1))) = zag u := by
  have e1 : bits .and .u64 (u : Int) 1 = ((u % 2 : Nat) : Int) := by
    have := bits_and_u64_nat u 1 h (by omega); rw [show u &&& 1 = u % 2 from Nat.and_two_pow_sub_one_eq_mod u 1] at this; exact this
  rw [e1, show ((2 ^ min 1 IntKind.u64.bits : Nat) : Int) = 2 from rfl]; unfold zag; have ea : IntKind.i64.wrap ((u : Int) / 2) = ((u / 2 : Nat) : Int) := by rw [IntKind.wrap_i64]; omega
  rw [ea]
  by_cases hu : u % 2 = 0
  · rw [if_pos hu, hu, show IntKind.i64.wrap (0 - IntKind.i64.wrap ((0 : Nat) : Int)) = 0 by rw [IntKind.wrap_i64, IntKind.wrap_i64]; omega]
    show IntKind.i64.wrap ((BitVec.ofInt 64 ((u / 2 : Nat) : Int) ^^^ BitVec.ofInt 64 0).toNat : Nat) = _
    rw [show BitVec.ofInt 64 0 = 0#64 from rfl, BitVec.xor_zero, BitVec.ofInt_natCast, BitVec.toNat_ofNat, Nat.mod_eq_of_lt (by omega), IntKind.wrap_i64]; omega
  · rw [if_neg hu, show u % 2 = 1 by omega, show IntKind.i64.wrap (0 - IntKind.i64.wrap ((1 : Nat) : Int)) = -1 by rw [IntKind.wrap_i64, IntKind.wrap_i64]; omega]
    show IntKind.i64.wrap ((BitVec.ofInt 64 ((u / 2 : Nat) : Int) ^^^ BitVec.ofInt 64 (-1)).toNat : Nat) = _
    rw [show BitVec.ofInt 64 (-1) = BitVec.allOnes 64 from by decide, BitVec.xor_allOnes, BitVec.toNat_not, BitVec.ofInt_natCast, BitVec.toNat_ofNat, Nat.mod_eq_of_lt (by omega), IntKind.wrap_i64]; omega
theorem zag_any (u : Nat) (h : u < 18446744073709551616) (w : World) : Calls Try.prog 57 #[.int .u64 u] w fun e w' => e = .returned (.int .i64 (zag u)) ∧ w' = w := by
  refine enter (args := [.int .u64 u]) Try.func57 rfl Try.ntmps57 rfl ?_; have hz := zag_xor u h; generalize zag u = z at hz ⊢; refine K.kgn ?_; refine WL.pure rfl rfl rfl rfl ?_; refine K.kgn ?_
  iterate 8 refine WL.pure rfl rfl rfl rfl ?_
  refine WL.pure rfl rfl rfl rfl ?_; refine K.kgn ?_; exact WQ.ret1 rfl rfl ⟨congrArg (fun z => Ending.returned (Value.int .i64 z)) hz, rfl⟩

def ruV (l : List Int) : List Value := match rdU l with
  | .ok u r => [.int .u64 (u : Nat), .int .i64 ((l.length - r.length : Nat) : Int), .int .i64 0]
  | .bad e => [.int .u64 0, .int .i64 0, .int .i64 e]
theorem rdUF_bad : ∀ (f : Nat) (st : Bool) (l : List Int) (e : Int), rdUF f st l = .bad e → e = 2 ∨ e = 3
  | 0, _, _, e, h => by cases h; exact .inr rfl
  | f + 1, st, [], e, h => by cases h; exact .inl rfl
  | f + 1, st, c :: t, e, h => by
    unfold rdUF at h
    split at h
    · cases h; exact .inr rfl
    split at h
    · cases h
    cases hr : rdUF f true t with
    | ok v r => rw [hr] at h; cases h
    | bad x => rw [hr] at h; cases h; exact rdUF_bad f true t _ hr

set_option maxHeartbeats 1000000 in
theorem readUvarint_any {w : World} {v : Value} {l : List Int} (hs : Sl .u8 w v l) (hb : Byt l) :
    Calls Try.prog 72 #[v] w fun e w' => e = .returned (.tuple (ruV l).toArray) ∧ w' = w := by
  refine enter (args := [v]) Try.func72 rfl Try.ntmps72 rfl ?_; have hs0 := hs; obtain ⟨sp, cap, rfl, hc1, hc2, -, -⟩ := hs; refine K.kgo ?_; refine WC.loop (fun i : Nat × Nat => [(8, .slice sp l.length cap), (9, .int .i64 l.length), (10, .int .i64 i.1), (5, .int .u64 i.2)])
    (fun i w' => w' = w ∧ i.1 ≤ 9 ∧ i.1 ≤ l.length ∧ i.2 < 128 ^ i.1 ∧ rdU l = (rdUF (10 - i.1) (decide (0 < i.1)) (l.drop i.1)).bind fun v r => .ok (i.2 + 128 ^ i.1 * v) r) (fun i => l.length - i.1) (0, 0) ⟨rfl, rfl, rfl, rfl, trivial⟩
    ⟨rfl, by omega, by omega, by simp, by
      show rdUF 10 false l = _
      cases h : rdUF 10 false l with
      | ok a r => simp [Rd.bind, h]
      | bad e => simp [Rd.bind, h]⟩ ?_
  rintro ⟨i, a⟩ wr ⟨rfl, hi9, hil, ha, hR⟩; simp only at hi9 hil ha hR ⊢
  by_cases hik : i < l.length
  · have hdr : l.drop i = nth l i :: l.drop (i + 1) := by rw [List.drop_eq_getElem_cons hik]; simp [nth, hik]
    have hc := hb (nth l i) (by unfold nth; simp [hik]); rw [hdr] at hR; generalize hcc : nth l i = c at hR hc; rw [show 10 - i = (9 - i) + 1 by omega] at hR; unfold rdUF at hR; refine K.kgo ?_; refine WL.idxI i rfl rfl rfl rfl rfl rfl hs0 rfl rfl hik fun p hp => ?_; rw [hcc] at hp; refine WL.load rfl rfl rfl rfl rfl rfl hp ?_
    by_cases hbad : (9 - i = 0 ∧ 1 < c) ∨ (decide (0 < i) = true ∧ c = 0)
    · rw [if_pos hbad] at hR
      have hfin : ruV l = [.int .u64 0, .int .i64 0, .int .i64 3] := by unfold ruV; rw [hR]; rfl
      by_cases h1 : i = 9
      · subst h1
        by_cases h2 : 1 < c
        · refine K.kgo ?_
          refine WQ.ret3 rfl rfl rfl rfl ⟨by rw [hfin], rfl⟩
        · obtain rfl : c = 0 := by simp at hbad; omega
          refine K.kgo ?_; refine WQ.ret3 rfl rfl rfl rfl ⟨by rw [hfin], rfl⟩
      · obtain ⟨h2, rfl⟩ : 0 < i ∧ c = 0 := by simp at hbad; omega
        refine K.kgo ?_; refine WQ.ret3 rfl rfl rfl rfl ⟨by rw [hfin], rfl⟩
    · rw [if_neg hbad] at hR
      simp only [decide_eq_true_eq, not_or, not_and] at hbad; have e1 : bits .and .u8 c 127 = ((c.toNat % 128 : Nat) : Int) := by
        have := and127b c.toNat (by omega)
        rwa [Int.toNat_of_nonneg hc.1] at this
      have hle : 128 ^ i ≤ 128 ^ 9 := Nat.pow_le_pow_right (by decide) hi9; have hcm : c.toNat % 128 * 128 ^ i < 18446744073709551616 := by
        by_cases h9 : i = 9
        · subst h9
          have : c ≤ 1 := by have := hbad.1 (by omega); omega
          have : c.toNat % 128 ≤ 1 := by omega
          generalize c.toNat % 128 = q at this; omega
        · have : 128 ^ i ≤ 128 ^ 8 := Nat.pow_le_pow_right (by decide) (by omega)
          have h2 : c.toNat % 128 < 128 := Nat.mod_lt _ (by decide); generalize c.toNat % 128 = q at h2; generalize 128 ^ i = r at this; have := Nat.mul_le_mul (Nat.le_of_lt h2) this; omega
      have e2 : IntKind.u64.wrap (((c.toNat % 128 : Nat) : Int) * ((2 ^ min (7 * i) IntKind.u64.bits : Nat) : Int)) = ((c.toNat % 128 * 128 ^ i : Nat) : Int) := by
        rw [show min (7 * i) IntKind.u64.bits = 7 * i from Nat.min_eq_left (by show 7 * i ≤ 64; omega), Nat.pow_mul, ← Int.natCast_mul, IntKind.wrap_u64]; generalize c.toNat % 128 * 128 ^ i = q at hcm; omega
      have e3 := or_shl a (c.toNat % 128) i ha hcm (by omega); have e5 : IntKind.u64.wrap ((c.toNat % 128 : Nat) : Int) = ((c.toNat % 128 : Nat) : Int) := by rw [IntKind.wrap_u64]; omega
      have e6 : i % (2 ^ IntKind.u64.bits : Int).natAbs * 7 % (2 ^ IntKind.u64.bits : Int).natAbs = 7 * i := by
        rw [show (2 ^ IntKind.u64.bits : Int).natAbs = 18446744073709551616 from rfl]; omega
      have E : bits .or .u64 (a : Int) (IntKind.u64.wrap (IntKind.u64.wrap (bits .and .u8 c 127) * ((2 ^ min (i % (2 ^ IntKind.u64.bits : Int).natAbs * 7 % (2 ^ IntKind.u64.bits : Int).natAbs) IntKind.u64.bits : Nat) : Int))) = ((a + 128 ^ i * (c.toNat % 128) : Nat) : Int) := by
        rw [e6, e1, e5, e2, e3]
      clear e1 e2 e3 e5 e6
      by_cases hc8 : c < 128
      · rw [if_pos hc8] at hR
        have hfin : ruV l = [.int .u64 ((a + 128 ^ i * (c.toNat % 128) : Nat) : Int), .int .i64 ((i : Int) + 1), .int .i64 0] := by
          unfold ruV; rw [hR]; simp only [Rd.bind, List.length_drop]; rw [show c.toNat % 128 = c.toNat by omega, show ((l.length - (l.length - (i + 1)) : Nat) : Int) = (i : Int) + 1 by omega]
        have hcase : (i = 9 ∧ ¬ c = 0 ∧ ¬ 1 < c) ∨ (¬ i = 9 ∧ ¬ c = 0) ∨ (i = 0 ∧ c = 0) := by omega
        rcases hcase with ⟨h9, hc0, hc1⟩ | ⟨h9, hc0⟩ | ⟨h9, hc0⟩
        all_goals
          refine K.kgo ?_; refine WQ.ret3 rfl rfl rfl rfl ⟨by rw [hfin, ← E], rfl⟩
      · rw [if_neg hc8] at hR
        have h9 : ¬ i = 9 := fun h => by have := hbad.1 (by omega); omega
        have hc0 : ¬ c = 0 := by omega
        refine K.kgo ?_; refine WQ.again (i + 1, a + 128 ^ i * (c.toNat % 128)) ⟨rfl, rfl, rfl, congrArg (fun z => some (Value.int .u64 z)) E, trivial⟩ ⟨rfl, by show i + 1 ≤ 9; omega, hik, ?_, ?_⟩ (by show l.length - (i + 1) < l.length - i; omega)
        · show a + 128 ^ i * (c.toNat % 128) < 128 ^ (i + 1)
          have h2 : c.toNat % 128 < 128 := Nat.mod_lt _ (by decide); rw [Nat.pow_succ]; generalize c.toNat % 128 = q at h2; have := Nat.mul_le_mul_left (128 ^ i) (show q + 1 ≤ 128 by omega); rw [Nat.mul_add] at this; omega
        · show rdU l = (rdUF (10 - (i + 1)) (decide (0 < i + 1)) (l.drop (i + 1))).bind fun v r => .ok (a + 128 ^ i * (c.toNat % 128) + 128 ^ (i + 1) * v) r
          rw [hR, show 10 - (i + 1) = 9 - i by omega, show decide (0 < i + 1) = true from decide_eq_true (by omega)]; cases rdUF (9 - i) true (l.drop (i + 1)) with
          | bad e => rfl
          | ok v r =>
            simp only [Rd.bind]; rw [show c.toNat % 128 = c.toNat - 128 by omega, Nat.pow_succ, Nat.mul_add, Nat.mul_assoc (128 ^ i) 128 v, Nat.add_assoc]
  · obtain rfl : i = l.length := by omega
    rw [List.drop_length, show 10 - l.length = (9 - l.length) + 1 by omega] at hR; have hfin : ruV l = [.int .u64 0, .int .i64 0, .int .i64 2] := by unfold ruV; rw [hR]; rfl
    refine K.kgo ?_; refine WQ.ret3 rfl rfl rfl rfl ⟨by rw [hfin], rfl⟩
end K
end Go.Proofs.Ytdkkaliiofcflaa

namespace Go.Proofs.Ytdkkaliiofcflaa
open Go.RowKit
namespace K
variable {B rb : Nat} {w : World} {l : List Int} {e : Int}

theorem fail_any (h : RS B w rb l e) (x : Int) :
    Calls Try.prog 82 #[.pointer (some ⟨rb, 0, none⟩), .int .i64 x] w fun r w' => r = .returned (.tuple #[]) ∧ RS B w' rb l (if e = 0 then x else e) ∧ KeepR rb w w' := by
  refine enter (args := [.pointer (some ⟨rb, 0, none⟩), .int .i64 x]) Try.func82 rfl Try.ntmps82 rfl ?_; obtain ⟨sp, cap, h1, h2⟩ := h.ex; refine K.kgo ?_; refine WL.load rfl rfl rfl rfl rfl rfl (h1.cell 1 (by simp)) ?_
  by_cases he : e = 0
  · rw [if_pos he]
    refine K.kgo ?_; refine WL.store rfl rfl rfl rfl rfl rfl (by kernel_rfl) (h1.cell 1 (by simp)) (h1.free 1) ?_; refine K.kgo ?_; exact WQ.end0 rfl ⟨rfl, h.setE x, KeepR.set _ _ _ _⟩
  · rw [if_neg he]
    refine K.kgo ?_; exact WQ.end0 rfl ⟨rfl, h, KeepR.refl _ _⟩
theorem Out.ofBad {α : Type} {f : List Int → Rd α} {a : α} (he : ¬ e = 0) : Out f l e a l e := ⟨Nat.le_refl _, fun _ => rfl, fun h => absurd h he⟩

theorem byte_any (h : RS B w rb l e) :
    Calls Try.prog 88 #[.pointer (some ⟨rb, 0, none⟩)] w fun r w' => ∃ c l' e', r = .returned (.int .u8 c) ∧ 0 ≤ c ∧ c ≤ 255 ∧ RS B w' rb l' e' ∧ KeepR rb w w' ∧ Out rdB l e c l' e' := by
  refine enter (args := [.pointer (some ⟨rb, 0, none⟩)]) Try.func88 rfl Try.ntmps88 rfl ?_; obtain ⟨sp, cap, h1, h2⟩ := h.ex; refine K.kgo ?_; refine WL.load rfl rfl rfl rfl rfl rfl (h1.cell 1 (by simp)) ?_
  by_cases he : e = 0
  · subst he
    cases l with
    | nil =>
      simp only [List.length_nil] at h1 h2; refine K.kgo ?_; refine WL.load rfl rfl rfl rfl rfl rfl (h1.cell 0 (by simp)) ?_; refine K.kgo ?_; refine WL.call rfl rfl rfl rfl rfl Try.func82 rfl (by kernel_rfl) (fail_any h 2) ?_; rintro _ w2 ⟨rfl, hr, hk⟩; refine ⟨_, rfl, ?_⟩; rw [if_pos rfl] at hr; obtain ⟨sp2, cap2, h3, h4⟩ := hr.ex; refine K.kgo ?_; refine WL.load rfl rfl rfl rfl rfl rfl (h3.cell 1 (by simp)) ?_; refine K.kgo ?_; exact WQ.ret1 rfl rfl ⟨0, [], 2, rfl, by omega, by omega, hr, hk, Nat.le_refl _, fun h => absurd rfl h, fun _ => ⟨rfl, by omega⟩⟩
    | cons c r =>
      have hc := h.byt c (by simp); have hlen : ((c :: r).length : Int) = (r.length : Int) + 1 := by simp
      refine K.kgo ?_; refine WL.load rfl rfl rfl rfl rfl rfl (h1.cell 0 (by simp)) ?_; refine K.kgo ?_; refine WL.load rfl rfl rfl rfl rfl rfl (h1.cell 1 (by simp)) ?_; refine K.kgo ?_; refine WL.load rfl rfl rfl rfl rfl rfl (h1.cell 0 (by simp)) ?_; refine WL.idxI 0 rfl rfl rfl rfl rfl rfl h2.sl rfl rfl (by simp) fun p hp => ?_; refine WL.load rfl rfl rfl rfl rfl rfl hp ?_; refine K.kgo ?_; refine WL.load rfl rfl rfl rfl rfl rfl (h1.cell 0 (by simp)) ?_; refine WL.fromB (z := 1) rfl rfl rfl rfl rfl rfl rfl (by omega) (by omega) h2 fun v' hv' => ?_; have hv : v'.oneCell' = true := by obtain ⟨_, _, rfl, -⟩ := hv'.sl; rfl
      refine K.kgo ?_; refine WL.store rfl rfl rfl rfl rfl hv (by kernel_rfl) (h1.cell 0 (by simp)) (h1.free 0) ?_; refine K.kgo ?_; exact WQ.ret1 rfl rfl ⟨c, r, 0, rfl, hc.1, hc.2, h.setL h.byt.tail hv', KeepR.set _ _ _ _, by simp, fun h => absurd rfl h, fun _ => ⟨rfl, rfl, rfl⟩⟩
  · refine K.kgo ?_
    refine WL.load rfl rfl rfl rfl rfl rfl (h1.cell 1 (by simp)) ?_; refine K.kgo ?_; exact WQ.ret1 rfl rfl ⟨0, l, e, rfl, by omega, by omega, h, KeepR.refl _ _, .ofBad he⟩

theorem number_any (h : RS B w rb l e) :
    Calls Try.prog 89 #[.pointer (some ⟨rb, 0, none⟩)] w fun r w' => ∃ (u : Nat) (l' : List Int) (e' : Int), r = .returned (.int .u64 u) ∧ u < 18446744073709551616 ∧ RS B w' rb l' e' ∧ KeepR rb w w' ∧ Out rdU l e u l' e' := by
  refine enter (args := [.pointer (some ⟨rb, 0, none⟩)]) Try.func89 rfl Try.ntmps89 rfl ?_; obtain ⟨sp, cap, h1, h2⟩ := h.ex; refine K.kgo ?_; refine WL.load rfl rfl rfl rfl rfl rfl (h1.cell 1 (by simp)) ?_
  by_cases he : e = 0
  · subst he
    refine K.kgo ?_; refine WL.load rfl rfl rfl rfl rfl rfl (h1.cell 0 (by simp)) ?_; refine WL.call rfl rfl rfl rfl rfl Try.func72 rfl (by kernel_rfl) (readUvarint_any h2.sl h.byt) ?_; rintro _ _ ⟨rfl, rfl⟩; refine ⟨_, rfl, ?_⟩; unfold ruV; cases hr : rdU l with
    | bad x =>
      have hx := rdUF_bad 10 false l x hr; refine K.kgo ?_; refine WL.call rfl rfl rfl rfl rfl Try.func82 rfl (by kernel_rfl) (fail_any h x) ?_; rintro _ w2 ⟨rfl, hr2, hk⟩; refine ⟨_, rfl, ?_⟩; rw [if_pos rfl] at hr2; refine K.kgo ?_; exact WQ.ret1 rfl rfl ⟨0, l, x, rfl, by omega, hr2, hk, Nat.le_refl _, fun h => absurd rfl h, fun _ => by rw [hr]; exact ⟨rfl, by omega⟩⟩
    | ok u r =>
      obtain ⟨hcan, hu⟩ := rdU_can h.byt hr; have hdrop : l.drop (((l.length - r.length : Nat) : Int).toNat) = r := by rw [hcan]; simp
      have hlr : r.length ≤ l.length := by rw [hcan]; simp
      refine K.kgo ?_; refine WL.load rfl rfl rfl rfl rfl rfl (h1.cell 0 (by simp)) ?_; refine K.kgo ?_; refine WL.fromB (z := ((l.length - r.length : Nat) : Int)) rfl rfl rfl rfl rfl rfl rfl (by omega) (by omega) h2 fun v' hv' => ?_; rw [hdrop] at hv'; have hv : v'.oneCell' = true := by obtain ⟨_, _, rfl, -⟩ := hv'.sl; rfl
      refine K.kgo ?_; refine WL.store rfl rfl rfl rfl rfl hv (by kernel_rfl) (h1.cell 0 (by simp)) (h1.free 0) ?_; refine K.kgo ?_; exact WQ.ret1 rfl rfl ⟨u, r, 0, rfl, hu, h.setL (by have := h.byt; rw [hcan] at this; exact this.right) hv', KeepR.set _ _ _ _, hlr, fun h => absurd rfl h, fun _ => by rw [hr]; exact ⟨rfl, rfl, rfl⟩⟩
  · refine K.kgo ?_
    exact WQ.ret1 rfl rfl ⟨0, l, e, rfl, by omega, h, KeepR.refl _ _, .ofBad he⟩

theorem count_any (h : RS B w rb l e) :
    Calls Try.prog 91 #[.pointer (some ⟨rb, 0, none⟩)] w fun r w' => ∃ (u : Nat) (l' : List Int) (e' : Int), r = .returned (.int .i64 u) ∧ u ≤ 65536 ∧ RS B w' rb l' e' ∧ KeepR rb w w' ∧ Out rdC l e u l' e' := by
  refine enter (args := [.pointer (some ⟨rb, 0, none⟩)]) Try.func91 rfl Try.ntmps91 rfl ?_; refine K.kgo ?_; refine WL.call rfl rfl rfl rfl rfl Try.func89 rfl (by kernel_rfl) (number_any h) ?_; rintro _ w2 ⟨u, l2, e2, rfl, hu, hr, hk, ho⟩; refine ⟨_, rfl, ?_⟩
  by_cases hbig : 65536 < u
  · refine K.kgo ?_
    refine WL.call rfl rfl rfl rfl rfl Try.func82 rfl (by kernel_rfl) (fail_any hr 3) ?_; rintro _ w3 ⟨rfl, hr3, hk3⟩; refine ⟨_, rfl, ?_⟩; refine K.kgo ?_; refine WQ.ret1 rfl rfl ⟨0, l2, if e2 = 0 then 3 else e2, rfl, by omega, hr3, hk.trans hk3, ho.len, fun h0 => ?_, fun h0 => ?_⟩
    · rw [ho.bad h0, if_neg h0]
    · have h1 := ho.ok h0
      unfold rdC; cases hq : rdU l with
      | bad x =>
        rw [hq] at h1; obtain ⟨rfl, hx⟩ := h1; simp only [Rd.bind]; rw [if_neg hx]; exact ⟨rfl, hx⟩
      | ok x r =>
        rw [hq] at h1; obtain ⟨rfl, rfl, rfl⟩ := h1; simp only [Rd.bind]; rw [if_pos hbig]; exact ⟨rfl, by omega⟩
  · have e8 : IntKind.i64.wrap (u : Int) = (u : Int) := by rw [IntKind.wrap_i64]; omega
    refine K.kgo ?_; refine WQ.ret1 rfl rfl ⟨u, l2, e2, rfl, by omega, hr, hk, ho.len, ho.bad, fun h0 => ?_⟩; have h1 := ho.ok h0; unfold rdC; cases hq : rdU l with
    | bad x => rw [hq] at h1; exact h1
    | ok x r =>
      rw [hq] at h1; obtain ⟨rfl, rfl, rfl⟩ := h1; simp only [Rd.bind]; rw [if_neg hbig]; simp
theorem strOfNums_mk (zs : List Int) : strOfNums zs = ⟨(zs.map fun c => UInt8.ofNat c.toNat).toArray⟩ := rfl
theorem text_any (h : RS B w rb l e) :
    Calls Try.prog 90 #[.pointer (some ⟨rb, 0, none⟩)] w fun r w' => ∃ (s : ByteArray) (l' : List Int) (e' : Int), r = .returned (.string s) ∧ s.size ≤ 65536 ∧ RS B w' rb l' e' ∧ KeepR rb w w' ∧ Out rdT l e s l' e' := by
  refine enter (args := [.pointer (some ⟨rb, 0, none⟩)]) Try.func90 rfl Try.ntmps90 rfl ?_; refine K.kgo ?_; refine WL.call rfl rfl rfl rfl rfl Try.func91 rfl (by kernel_rfl) (count_any h) ?_; rintro _ w2 ⟨u, l2, e2, rfl, hu, hr, hk, ho⟩; refine ⟨_, rfl, ?_⟩; obtain ⟨sp, cap, h1, h2⟩ := hr.ex; have hle := ho.len; refine K.kgo ?_; refine WL.load rfl rfl rfl rfl rfl rfl (h1.cell 1 (by simp)) ?_
  by_cases he : e2 = 0
  · subst he
    by_cases hshort : l2.length < u
    · refine K.kgo ?_
      refine WL.load rfl rfl rfl rfl rfl rfl (h1.cell 0 (by simp)) ?_; refine K.kgo ?_; refine WL.call rfl rfl rfl rfl rfl Try.func82 rfl (by kernel_rfl) (fail_any hr 2) ?_; rintro _ w3 ⟨rfl, hr3, hk3⟩; refine ⟨_, rfl, ?_⟩; rw [if_pos rfl] at hr3; obtain ⟨sp3, cap3, h3, h4⟩ := hr3.ex; refine K.kgo ?_; refine WL.load rfl rfl rfl rfl rfl rfl (h3.cell 1 (by simp)) ?_; refine K.kgo ?_; refine WQ.ret1 rfl rfl ⟨ByteArray.empty, l2, 2, rfl, by decide, hr3, hk.trans hk3, ho.len, fun h0 => absurd (ho.bad h0).symm h0, fun h0 => ?_⟩; have h5 := ho.ok h0; unfold rdT; cases hq : rdC l with
      | bad x => rw [hq] at h5; exact absurd h5.1.symm h5.2
      | ok x r =>
        rw [hq] at h5; obtain ⟨rfl, rfl, -⟩ := h5; simp only [Rd.bind]; rw [if_pos hshort]; exact ⟨rfl, by omega⟩
    · have htl : (l2.take ((u : Int).toNat)) = l2.take u := by simp
      have hdl : (l2.drop ((u : Int).toNat)) = l2.drop u := by simp
      refine K.kgo ?_; refine WL.load rfl rfl rfl rfl rfl rfl (h1.cell 0 (by simp)) ?_; refine K.kgo ?_; refine WL.load rfl rfl rfl rfl rfl rfl (h1.cell 1 (by simp)) ?_; refine K.kgo ?_; refine WL.load rfl rfl rfl rfl rfl rfl (h1.cell 0 (by simp)) ?_; refine K.kgo ?_; refine WL.upto (z := (u : Int)) rfl rfl rfl rfl rfl rfl rfl (by omega) (by omega) h2.sl fun v3 hv3 => ?_; rw [htl] at hv3; refine WL.strOf rfl rfl rfl rfl rfl rfl rfl rfl hv3 ?_; refine K.kgo ?_; refine WL.load rfl rfl rfl rfl rfl rfl (h1.cell 0 (by simp)) ?_; refine K.kgo ?_; refine WL.fromB (z := (u : Int)) rfl rfl rfl rfl rfl rfl rfl (by omega) (by omega) h2 fun v' hv' => ?_; rw [hdl] at hv'; have hv : v'.oneCell' = true := by obtain ⟨_, _, rfl, -⟩ := hv'.sl; rfl
      refine K.kgo ?_; refine WL.store rfl rfl rfl rfl rfl hv (by kernel_rfl) (h1.cell 0 (by simp)) (h1.free 0) ?_; refine K.kgo ?_; refine WQ.ret1 rfl rfl ⟨strOfNums (l2.take u), l2.drop u, 0, rfl, ?_, hr.setL (fun c hc => hr.byt c (List.mem_of_mem_drop hc)) hv', hk.trans (KeepR.set _ _ _ _), by rw [List.length_drop]; omega, fun h0 => absurd (ho.bad h0).symm h0, fun h0 => ?_⟩
      · rw [strOfNums_mk]
        show ((l2.take u).map _).toArray.size ≤ _
        simp
        omega
      · have h5 := ho.ok h0
        unfold rdT; cases hq : rdC l with
        | bad x => rw [hq] at h5; exact absurd h5.1.symm h5.2
        | ok x r =>
          rw [hq] at h5; obtain ⟨rfl, rfl, -⟩ := h5; simp only [Rd.bind]; rw [if_neg hshort, strOfNums_mk]; simp
  · refine K.kgo ?_
    refine WL.load rfl rfl rfl rfl rfl rfl (h1.cell 1 (by simp)) ?_; refine K.kgo ?_; refine WQ.ret1 rfl rfl ⟨ByteArray.empty, l2, e2, rfl, by decide, hr, hk, ho.len, ho.bad, fun h0 => ?_⟩; have h5 := ho.ok h0; unfold rdT; cases hq : rdC l with
    | bad x => rw [hq] at h5; exact h5
    | ok x r => rw [hq] at h5; exact absurd h5.2.2 he
end K
end Go.Proofs.Ytdkkaliiofcflaa

namespace Go.Proofs.Ytdkkaliiofcflaa
open Go.RowKit
namespace K

theorem Keep.setRow {K : Nat → Prop} {a w : World} (h : Keep K a w) {g : Nat} (hg : ¬ K g) (cs : Array Value) : Keep K a (w.setRow g cs) :=
  ⟨h.os, h.tape, h.output, by simpa using h.size, fun k hk => (setRow_other w g k cs (fun e => hg (e ▸ hk))).trans (h.block k hk)⟩

section
variable {α β : Type} {l l1 l2 : List Int} {e e1 e2 : Int}
theorem Out.bind {f : List Int → Rd α} {g : α → List Int → Rd β} {a : α} {b : β} (h1 : Out f l e a l1 e1) (h2 : Out (g a) l1 e1 b l2 e2) : Out (fun l => (f l).bind g) l e b l2 e2 := by
  refine ⟨Nat.le_trans h2.len h1.len, fun h => ?_, fun h => ?_⟩
  · have := h1.bad h
    rw [h2.bad (by rw [this]; exact h), this]
  · have h3 := h1.ok h
    cases hq : f l with
    | bad x =>
      rw [hq] at h3; obtain ⟨rfl, hx⟩ := h3; simp only [Rd.bind]; exact ⟨h2.bad hx, hx⟩
    | ok x r =>
      rw [hq] at h3; obtain ⟨rfl, rfl, rfl⟩ := h3; have h4 := h2.ok rfl; simp only [Rd.bind]; exact h4
theorem Out.stop {f : List Int → Rd α} {g : α → List Int → Rd β} {a : α} {b : β} (h1 : Out f l e a l1 e1) (hne : ¬ e1 = 0) (hl : l2.length ≤ l1.length) : Out (fun l => (f l).bind g) l e b l2 e1 := by
  refine ⟨Nat.le_trans hl h1.len, h1.bad, fun h => ?_⟩; have h3 := h1.ok h; cases hq : f l with
  | bad x =>
    rw [hq] at h3; simp only [Rd.bind]; exact h3
  | ok x r => rw [hq] at h3; exact absurd h3.2.2 hne
theorem Out.pure (a : α) : Out (fun l => .ok a l) l e a l e := ⟨Nat.le_refl _, fun _ => rfl, fun h => ⟨rfl, rfl, h⟩⟩
theorem Out.fail {a : α} (x : Int) (hx : x ≠ 0) : Out (fun _ => .bad x) l e a l (if e = 0 then x else e) := ⟨Nat.le_refl _, fun h => if_neg h, fun h => ⟨if_pos h, hx⟩⟩
theorem Out.congr {f g : List Int → Rd α} {a : α} (h : Out f l e a l1 e1) (hfg : f l = g l) : Out g l e a l1 e1 := ⟨h.len, h.bad, fun h0 => by have := h.ok h0; rw [hfg] at this; exact this⟩
end

def GV (m : Nat) (k : Int) (r : List Int) : Rd V :=
  if k = 1 then .ok (.mk 1 0 0 noT [] []) r
  else if k = 2 then (rdB r).bind fun c r => if 1 < c then .bad 3 else .ok (.mk 2 c 0 noT [] []) r
  else if k = 3 then (rdU r).bind fun u r => .ok (.mk 3 (zag u) 0 noT [] []) r
  else if k = 4 then (rdU r).bind fun u r => (rdB r).bind fun s r => .ok (.mk 4 (zag u) s noT [] []) r
  else if k = 5 then (rdU r).bind fun u r => .ok (.mk 5 (IntKind.i64.wrap (u : Int)) 0 noT [] []) r
  else if k = 6 ∨ k = 7 then (rdT r).bind fun t r => .ok (.mk k 0 0 t [] []) r
  else if k = 8 ∨ k = 9 then (rdC r).bind fun n r => (rdK (rdV m) (decide (k = 9)) n [] [] r).bind fun p r => .ok (.mk k 0 0 noT p.1 p.2) r
  else .bad 3
theorem rdV_GV (m : Nat) : rdV (m + 1) = fun l => (rdB l).bind (GV m) := rfl

theorem wf_i64 {x : Int} (h : -9223372036854775808 ≤ x ∧ x ≤ 9223372036854775807) : (Lit.int .i64 x).wf = true := by
  simp [Lit.wf, IntKind.min, IntKind.max, IntKind.bits, IntKind.signed]; omega
theorem isVo_leaf {O : Nat → Prop} {f : Nat} {w : World} {k n s : Int} {t : ByteArray} (hk : 0 ≤ k ∧ k ≤ 255) (hn : -9223372036854775808 ≤ n ∧ n ≤ 9223372036854775807) (hs : 0 ≤ s ∧ s ≤ 255) (ht : t.size ≤ 140737488355328) :
    IsVo O (f + 1) w (.mk k n s t [] []) [.int .i64 k, .int .i64 n, .int .i64 s, .string t, .slice none 0 0, .slice none 0 0] :=
  ⟨_, _, rfl, wf_i64 (by show -9223372036854775808 ≤ k ∧ k ≤ _; omega), wf_i64 hn, wf_i64 (by show -9223372036854775808 ≤ s ∧ s ≤ _; omega), ht, Els.nil _ _ _ _ _, Els.nil _ _ _ _ _⟩

structure KidsW (rb vb f : Nat) (k : Int) (w0 w : World) (ns : List ByteArray) (ks : List V) (sn sk : Value) (q : Nat → Prop) : Prop where
  blk : VBlk 60 w vb [.int .i64 k, .int .i64 0, .int .i64 0, .string ByteArray.empty, sn, sk]
  names : OwnE 9 1 noT strP (fun b => w0.heap.size ≤ b ∧ b ≠ vb) w sn ns
  kids : OwnE 60 6 noV (IsVo q f w) (fun b => w0.heap.size ≤ b ∧ b ≠ vb) w sk ks
  apart : ∀ g, sn.ownBlock = some g → sk.ownBlock ≠ some g
  qs : ∀ b, q b → w0.heap.size ≤ b ∧ b < w.heap.size ∧ b ≠ vb ∧ sn.ownBlock ≠ some b ∧ sk.ownBlock ≠ some b
  keep : KeepR rb w0 w
  vbe : vb = w0.heap.size
  rlt : rb < w0.heap.size
section
variable {rb vb f : Nat} {k : Int} {w0 w w' : World} {ns : List ByteArray} {ks : List V} {sn sk sn' sk' : Value} {q : Nat → Prop}
theorem KidsW.read (h : KidsW rb vb f k w0 w ns ks sn sk q) (hk : KeepR rb w w') : KidsW rb vb f k w0 w' ns ks sn sk q := by
  have hr := h.rlt; refine ⟨h.blk.keep hk ⟨h.blk.lt, by have := h.vbe; omega⟩, h.names.keep hk (fun g hg => ⟨h.names.lt hg, fun e => by have := (h.names.own hg).1; omega⟩) (fun _ h => h) fun _ _ h => h,
    h.kids.keep hk (fun g hg => ⟨h.kids.lt hg, fun e => by have := (h.kids.own hg).1; omega⟩) (fun _ h => h) fun x cs hx => hx.keep hk (fun b hb _ => ⟨(h.qs b hb).2.1, fun e => by have := (h.qs b hb).1; omega⟩) fun _ h => h,
    h.apart, fun b hb => ?_, h.keep.trans hk, h.vbe, h.rlt⟩
  obtain ⟨h1, h2, h3⟩ := h.qs b hb; exact ⟨h1, Nat.lt_of_lt_of_le h2 hk.size, h3⟩
theorem KidsW.below (h : KidsW rb vb f k w0 w ns ks sn sk q) (hk : Below w.heap.size w w') : KidsW rb vb f k w0 w' ns ks sn sk q := h.read (KeepR.below hk)
theorem KidsW.widen (h : KidsW rb vb f k w0 w ns ks sn sk q) {S : Nat} (hS : w0.heap.size ≤ S) (h1 : vb < S) (h2 : ∀ g, sn.ownBlock = some g → g < S) (h3 : ∀ g, sk.ownBlock = some g → g < S) : KidsW rb vb f k w0 w ns ks sn sk (fun b => q b ∨ (S ≤ b ∧ b < w.heap.size)) := by
  refine ⟨h.blk, h.names, h.kids.keep (Keep.refl (fun _ => True) w) (fun _ _ => trivial) (fun _ h => h) fun x cs hx => hx.mono fun b hb => .inl hb, h.apart, fun b hb => ?_, h.keep, h.vbe, h.rlt⟩; rcases hb with hb | ⟨hb1, hb2⟩
  · exact h.qs b hb
  · exact ⟨by omega, hb2, by omega, fun e => by have := h2 b e; omega, fun e => by have := h3 b e; omega⟩
theorem KidsW.setN (h : KidsW rb vb f k w0 w ns ks sn sk q) {s : ByteArray} (ho : OwnE 9 1 noT strP (fun b => (w0.heap.size ≤ b ∧ b ≠ vb) ∨ b = w.heap.size) w' sn' (ns ++ [s])) (hg : Grow w sn w' sn') :
    VBlk 60 w' vb [.int .i64 k, .int .i64 0, .int .i64 0, .string ByteArray.empty, sn, sk] ∧ KidsW rb vb f k w0 (w'.setCell ⟨vb, 4, none⟩ sn') (ns ++ [s]) ks sn' sk q := by
  have hvo : sn.ownBlock ≠ some vb := fun e => (h.names.own e).2 rfl; have hvb := h.blk.lt; have hblk : VBlk 60 w' vb [.int .i64 k, .int .i64 0, .int .i64 0, .string ByteArray.empty, sn, sk] := h.blk.keep hg.1 ⟨hvb, hvo⟩; have hsz := h.keep.size; have hO : ∀ b, (w0.heap.size ≤ b ∧ b ≠ vb) ∨ b = w.heap.size → w0.heap.size ≤ b ∧ b ≠ vb := fun b hb => hb.elim id fun e => by omega
  have hset : Keep (fun b => b ≠ vb) w' (w'.setCell ⟨vb, 4, none⟩ sn') := (Keep.refl _ w').setCell (fun hk => hk rfl) _; refine ⟨hblk, hblk.set 4 sn', ho.keep hset (fun g hg2 => (hO g (ho.own hg2)).2) hO fun _ _ h => h,
    (h.kids.keep hg.1 (fun g hg2 => ⟨h.kids.lt hg2, fun e => h.apart g e hg2⟩) (fun _ h => h) fun x cs hx => hx.keep hg.1 (fun b hb _ => ⟨(h.qs b hb).2.1, (h.qs b hb).2.2.2.1⟩) fun _ h => h).keep hset (fun g hg2 => (h.kids.own hg2).2) (fun _ h => h) fun x cs hx => hx.keep hset (fun b hb _ => (h.qs b hb).2.2.1) fun _ h => h,
    fun g hg2 e => (hg.2 g hg2).elim (fun h2 => h.apart g h2 e) fun h2 => by have := h.kids.lt e; omega, fun b hb => ?_, ?_, h.vbe, h.rlt⟩
  · obtain ⟨h1, h2, h3, h4, h5⟩ := h.qs b hb
    exact ⟨h1, Nat.lt_of_lt_of_le h2 (Nat.le_trans hg.1.size hset.size), h3, fun e => (hg.2 b e).elim h4 fun h6 => by omega, h5⟩
  · have hvb2 := h.vbe
    exact (Keep.trans h.keep ((Keep.mono hg.1 fun b hb => ⟨Nat.lt_of_lt_of_le hb.1 hsz, fun e => by have := (h.names.own e).1; omega⟩))).setCell (p := ⟨vb, 4, none⟩) (fun hk => by have := hk.1; simp only at this; omega) _
theorem KidsW.setK (h : KidsW rb vb f k w0 w ns ks sn sk q) {v : V} (ho : OwnE 60 6 noV (IsVo q f w) (fun b => (w0.heap.size ≤ b ∧ b ≠ vb) ∨ b = w.heap.size) w' sk' (ks ++ [v])) (hg : Grow w sk w' sk') :
    VBlk 60 w' vb [.int .i64 k, .int .i64 0, .int .i64 0, .string ByteArray.empty, sn, sk] ∧ KidsW rb vb f k w0 (w'.setCell ⟨vb, 5, none⟩ sk') ns (ks ++ [v]) sn sk' q := by
  have hvo : sk.ownBlock ≠ some vb := fun e => (h.kids.own e).2 rfl; have hvb := h.blk.lt; have hblk : VBlk 60 w' vb [.int .i64 k, .int .i64 0, .int .i64 0, .string ByteArray.empty, sn, sk] := h.blk.keep hg.1 ⟨hvb, hvo⟩; have hsz := h.keep.size; have hO : ∀ b, (w0.heap.size ≤ b ∧ b ≠ vb) ∨ b = w.heap.size → w0.heap.size ≤ b ∧ b ≠ vb := fun b hb => hb.elim id fun e => by omega
  have hset : Keep (fun b => b ≠ vb) w' (w'.setCell ⟨vb, 5, none⟩ sk') := (Keep.refl _ w').setCell (fun hk => hk rfl) _; have hP : ∀ x cs, IsVo q f w x cs → IsVo q f (w'.setCell ⟨vb, 5, none⟩ sk') x cs := fun x cs hx =>
    (hx.keep (O' := q) hg.1 (fun b hb _ => ⟨(h.qs b hb).2.1, (h.qs b hb).2.2.2.2⟩) fun _ h => h).keep hset (fun b hb _ => (h.qs b hb).2.2.1) fun _ h => h
  refine ⟨hblk, hblk.set 5 sk', (h.names.keep hg.1 (fun g hg2 => ⟨h.names.lt hg2, fun e => h.apart g hg2 e⟩) (fun _ h => h) fun _ _ h => h).keep hset (fun g hg2 => (h.names.own hg2).2) (fun _ h => h) fun _ _ h => h,
    ho.keep hset (fun g hg2 => (hO g (ho.own hg2)).2) hO hP, fun g hg2 e => (hg.2 g e).elim (fun h2 => h.apart g hg2 h2) fun h2 => by have := h.names.lt hg2; omega, fun b hb => ?_, ?_, h.vbe, h.rlt⟩
  · obtain ⟨h1, h2, h3, h4, h5⟩ := h.qs b hb
    exact ⟨h1, Nat.lt_of_lt_of_le h2 (Nat.le_trans hg.1.size hset.size), h3, h4, fun e => (hg.2 b e).elim h5 fun h6 => by omega⟩
  · have hvb2 := h.vbe
    exact (Keep.trans h.keep ((Keep.mono hg.1 fun b hb => ⟨Nat.lt_of_lt_of_le hb.1 hsz, fun e => by have := (h.kids.own e).1; omega⟩))).setCell (p := ⟨vb, 5, none⟩) (fun hk => by have := hk.1; simp only at this; omega) _
end
end K
end Go.Proofs.Ytdkkaliiofcflaa

namespace Go.Proofs.Ytdkkaliiofcflaa
open Go.RowKit
namespace K
theorem elemV6 : ElemV Try.prog 23 60 6 88 := ElemV.mk' (z := .agg #[.int .i64 0, .int .i64 0, .int .i64 0, .string ByteArray.empty, .slice none 0 0, .slice none 0 0]) Try.underlying23 (by kernel_rfl) rfl (by omega)
theorem elemS1 : ElemV Try.prog 58 9 1 16 := ElemV.mk' (z := .string ByteArray.empty) Try.underlying58 (by kernel_rfl) rfl (by omega)

theorem zag_range {u : Nat} (h : u < 18446744073709551616) : -9223372036854775808 ≤ zag u ∧ zag u ≤ 9223372036854775807 := by unfold zag; split <;> omega
def ValPost (m B rb : Nat) (w : World) (l : List Int) (e : Int) (r : Ending) (w' : World) : Prop :=
  ∃ v cs l' e', r = .returned (.agg cs.toArray) ∧ IsVo (fun b => w.heap.size ≤ b) (m + 1) w' v cs ∧ RS B w' rb l' e' ∧ KeepR rb w w' ∧ Out (rdV m) l e v l' e'

theorem Out.gv {m : Nat} {l l1 l2 : List Int} {e e1 e2 c : Int} {v : V} (h1 : Out rdB l e c l1 e1) (h2 : Out (GV m c) l1 e1 v l2 e2) : Out (rdV (m + 1)) l e v l2 e2 := by rw [rdV_GV]; exact h1.bind h2

set_option maxHeartbeats 16000000 in
theorem value_step (m : Nat) (ih : ∀ {B rb : Nat} {w : World} {l : List Int} {e : Int} (d : Int), d = 17 - (m : Int) → RS B w rb l e → B ≤ w.heap.size → Calls Try.prog 81 #[.pointer (some ⟨rb, 0, none⟩), .int .i64 d] w (ValPost m B rb w l e))
    {B rb : Nat} {w : World} {l : List Int} {e : Int} (d : Int) (hd : d = 17 - ((m + 1 : Nat) : Int)) (hm : m + 1 ≤ 16) (h : RS B w rb l e) (hB : B ≤ w.heap.size) :
    Calls Try.prog 81 #[.pointer (some ⟨rb, 0, none⟩), .int .i64 d] w (ValPost (m + 1) B rb w l e) := by
  refine enter (args := [.pointer (some ⟨rb, 0, none⟩), .int .i64 d]) Try.func81 rfl Try.ntmps81 rfl ?_; refine K.kgo ?_; refine WL.alloc (z := .agg #[.int .i64 0, .int .i64 0, .int .i64 0, .string ByteArray.empty, .slice none 0 0, .slice none 0 0]) rfl rfl rfl rfl (fun _ => by kernel_rfl) fun vb w1 hf => ?_; have hf' : Fresh w vb w1 60 [.int .i64 0, .int .i64 0, .int .i64 0, .string ByteArray.empty, .slice none 0 0, .slice none 0 0] := hf; clear hf; have hvbe := hf'.eq; have hrB := h.rlt; have h1 : RS B w1 rb l e := h.keep (Keep.of_below hf'.below) fun b hb => Nat.lt_of_lt_of_le hb hB; have hk1 : KeepR rb w w1 := KeepR.below hf'.below; have hblk1 := hf'.blk; have hsz1 := hf'.size; clear hf'; refine K.kgo ?_; refine WL.call rfl rfl rfl rfl rfl Try.func88 rfl (by kernel_rfl) (byte_any h1) ?_; rintro _ w2 ⟨c, l2, e2, rfl, hc0, hc1, h2, hk2, ho2⟩; refine ⟨_, rfl, ?_⟩; have hblk2 := hblk1.keep hk2 ⟨hblk1.lt, by omega⟩; refine K.kgo ?_; refine WL.store (v := .int .i64 c) rfl rfl rfl rfl rfl rfl (by kernel_rfl) (hblk2.cell 0 (by simp)) (hblk2.free 0) ?_
  -- the store into the box
  have stB : ∀ {wx : World} {i : Nat} (u : Value) {lx : List Int} {ex : Int}, RS B wx rb lx ex → KeepR rb w wx → RS B (wx.setCell ⟨vb, i, none⟩ u) rb lx ex ∧ KeepR rb w (wx.setCell ⟨vb, i, none⟩ u) := fun {wx i} u {lx ex} hr hk =>
    ⟨hr.keep (K := fun b => b ≠ vb) ((Keep.refl _ wx).setCell (fun hk => hk rfl) _) (fun b hb => by omega), Keep.setCell hk (fun hk => by have := hk.1; simp only at this; omega) _⟩
  obtain ⟨h3, hk3⟩ := stB (i := 0) (.int .i64 c) h2 (hk1.trans hk2); have hblk3 := hblk2.set 0 (.int .i64 c); generalize w2.setCell ⟨vb, 0, none⟩ (.int .i64 c) = w3 at h3 hk3 hblk3; clear hblk2 h2 hk2 hblk1 hk1 h1; simp only [List.set_cons_zero] at hblk3; refine K.kgb ?_; refine WL.load rfl rfl rfl rfl rfl rfl (hblk3.cell 0 (by simp)) ?_; refine K.kgb ?_; refine WC.mid (fun _ : V × List Value × List Int × Int => [(4, .pointer (some ⟨vb, 0, none⟩))])
    (fun i w' => VBlk 60 w' vb i.2.1 ∧ IsVo (fun b => w.heap.size ≤ b ∧ b ≠ vb) (m + 1 + 1) w' i.1 i.2.1 ∧ RS B w' rb i.2.2.1 i.2.2.2 ∧ KeepR rb w w' ∧ Out (rdV (m + 1)) l e i.1 i.2.2.1 i.2.2.2) rfl ?_ ?_
  rotate_left
  · rintro ⟨v, cs, l4, e4⟩ w4 ⟨hb4, hv4, hr4, hk4, ho4⟩
    simp only at hb4 hv4 hr4 hk4 ho4 ⊢; have hcs := hv4.len; refine K.kgo ?_; refine WL.loadMid rfl rfl rfl rfl rfl rfl (VBlk.rangeAt hb4) hcs ?_; refine WL.storeRow rfl rfl rfl rfl rfl rfl hb4 hcs hcs hv4.one ?_; refine K.kgo ?_; have hset : Keep (fun b => b ≠ vb) w4 (w4.setRow vb cs.toArray) := Keep.setRow (Keep.refl _ w4) (fun hk => hk rfl) _; exact WQ.retC rfl rfl rfl hcs (hb4.setRow cs) ⟨v, cs, l4, e4, rfl, hv4.keep hset (fun b hb _ => hb.2) (fun b hb => hb.1), hr4.keep hset (fun b hb => by omega), Keep.setRow hk4 (fun hk => by have := hk.1; omega) _, ho4⟩
  by_cases k1 : c = 1
  · subst k1
    refine K.kgo ?_; exact WQ.meet (.mk 1 0 0 noT [] [], _, l2, e2) ⟨rfl, trivial⟩ ⟨hblk3, isVo_leaf (by omega) (by omega) (by omega) (by decide), h3, hk3, ho2.gv (Out.congr (Out.pure _) (by unfold GV; rw [if_pos rfl]))⟩
  by_cases k2 : c = 2
  · subst k2
    refine K.kgo ?_; refine WL.call rfl rfl rfl rfl rfl Try.func88 rfl (by kernel_rfl) (byte_any h3) ?_; rintro _ w4 ⟨c2, l4, e4, rfl, hc20, hc21, h4, hk4, ho4⟩; refine ⟨_, rfl, ?_⟩; have hblk4 := hblk3.keep hk4 ⟨hblk3.lt, by omega⟩; refine K.kgo ?_; refine WL.store (v := .int .i64 c2) rfl rfl rfl rfl rfl rfl (by kernel_rfl) (hblk4.cell 1 (by simp)) (hblk4.free 1) ?_; obtain ⟨h5, hk5⟩ := stB (i := 1) (.int .i64 c2) h4 (hk3.trans hk4); have hblk5 := hblk4.set 1 (.int .i64 c2); generalize w4.setCell ⟨vb, 1, none⟩ (.int .i64 c2) = w5 at h5 hk5 hblk5; simp only [List.set_cons_zero, List.set_cons_succ] at hblk5; refine K.kgo ?_; refine WL.load rfl rfl rfl rfl rfl rfl (hblk5.cell 1 (by simp)) ?_
    by_cases hb2 : 1 < c2
    · refine K.kgo ?_
      refine WL.call rfl rfl rfl rfl rfl Try.func82 rfl (by kernel_rfl) (fail_any h5 3) ?_; rintro _ w6 ⟨rfl, h6, hk6⟩; refine ⟨_, rfl, ?_⟩; refine K.kgo ?_; refine WQ.meet (.mk 2 c2 0 noT [] [], _, l4, _) ⟨rfl, trivial⟩ ⟨hblk5.keep hk6 ⟨hblk5.lt, by omega⟩, isVo_leaf (by omega) (by omega) (by omega) (by decide), h6, hk5.trans hk6, ho2.gv (Out.congr (ho4.bind (Out.congr (Out.fail 3 (by omega)) ?_)) (by unfold GV; rw [if_neg k1, if_pos rfl]))⟩; rw [if_pos hb2]
    · refine K.kgo ?_
      refine WQ.meet (.mk 2 c2 0 noT [] [], _, l4, _) ⟨rfl, trivial⟩ ⟨hblk5, isVo_leaf (by omega) (by omega) (by omega) (by decide), h5, hk5, ho2.gv (Out.congr (ho4.bind (Out.congr (Out.pure _) ?_)) (by unfold GV; rw [if_neg k1, if_pos rfl]))⟩; rw [if_neg hb2]
  by_cases k3 : c = 3
  · subst k3
    refine K.kgo ?_; refine WL.call rfl rfl rfl rfl rfl Try.func89 rfl (by kernel_rfl) (number_any h3) ?_; rintro _ w4 ⟨u, l4, e4, rfl, hu, h4, hk4, ho4⟩; refine ⟨_, rfl, ?_⟩; refine WL.call rfl rfl rfl rfl rfl Try.func57 rfl (by kernel_rfl) (zag_any u hu w4) ?_; rintro _ w4 ⟨rfl, rfl⟩; refine ⟨_, rfl, ?_⟩; have hz := zag_range hu; have hblk4 := hblk3.keep hk4 ⟨hblk3.lt, by omega⟩; refine K.kgo ?_; refine WL.store (v := .int .i64 (zag u)) rfl rfl rfl rfl rfl rfl (by kernel_rfl) (hblk4.cell 1 (by simp)) (hblk4.free 1) ?_; obtain ⟨h5, hk5⟩ := stB (i := 1) (.int .i64 (zag u)) h4 (hk3.trans hk4); have hblk5 := hblk4.set 1 (.int .i64 (zag u)); refine K.kgo ?_; exact WQ.meet (.mk 3 (zag u) 0 noT [] [], _, l4, _) ⟨rfl, trivial⟩ ⟨hblk5, isVo_leaf (by omega) hz (by omega) (by decide), h5, hk5, ho2.gv (Out.congr (ho4.bind (Out.pure (V.mk 3 (zag u) 0 noT [] []))) (by unfold GV; rw [if_neg k1, if_neg k2, if_pos rfl]))⟩
  by_cases k4 : c = 4
  · subst k4
    refine K.kgo ?_; refine WL.call rfl rfl rfl rfl rfl Try.func89 rfl (by kernel_rfl) (number_any h3) ?_; rintro _ w4 ⟨u, l4, e4, rfl, hu, h4, hk4, ho4⟩; refine ⟨_, rfl, ?_⟩; refine WL.call rfl rfl rfl rfl rfl Try.func57 rfl (by kernel_rfl) (zag_any u hu w4) ?_; rintro _ w4 ⟨rfl, rfl⟩; refine ⟨_, rfl, ?_⟩; have hz := zag_range hu; have hblk4 := hblk3.keep hk4 ⟨hblk3.lt, by omega⟩; refine K.kgo ?_; refine WL.store (v := .int .i64 (zag u)) rfl rfl rfl rfl rfl rfl (by kernel_rfl) (hblk4.cell 1 (by simp)) (hblk4.free 1) ?_; obtain ⟨h5, hk5⟩ := stB (i := 1) (.int .i64 (zag u)) h4 (hk3.trans hk4); have hblk5 := hblk4.set 1 (.int .i64 (zag u)); generalize w4.setCell ⟨vb, 1, none⟩ (.int .i64 (zag u)) = w5 at h5 hk5 hblk5; simp only [List.set_cons_zero, List.set_cons_succ] at hblk5; refine K.kgo ?_; refine WL.call rfl rfl rfl rfl rfl Try.func88 rfl (by kernel_rfl) (byte_any h5) ?_; rintro _ w6 ⟨c2, l6, e6, rfl, hc20, hc21, h6, hk6, ho6⟩; refine ⟨_, rfl, ?_⟩; have hblk6 := hblk5.keep hk6 ⟨hblk5.lt, by omega⟩; refine K.kgo ?_; refine WL.store (v := .int .i64 c2) rfl rfl rfl rfl rfl rfl (by kernel_rfl) (hblk6.cell 2 (by simp)) (hblk6.free 2) ?_; obtain ⟨h7, hk7⟩ := stB (i := 2) (.int .i64 c2) h6 (hk5.trans hk6); have hblk7 := hblk6.set 2 (.int .i64 c2); refine K.kgo ?_; exact WQ.meet (.mk 4 (zag u) c2 noT [] [], _, l6, _) ⟨rfl, trivial⟩ ⟨hblk7, isVo_leaf (by omega) hz (by omega) (by decide), h7, hk7, ho2.gv (Out.congr (ho4.bind (ho6.bind (Out.pure (V.mk 4 (zag u) c2 noT [] [])))) (by unfold GV; rw [if_neg k1, if_neg k2, if_neg k3, if_pos rfl]))⟩
  by_cases k5 : c = 5
  · subst k5
    refine K.kgo ?_; refine WL.call rfl rfl rfl rfl rfl Try.func89 rfl (by kernel_rfl) (number_any h3) ?_; rintro _ w4 ⟨u, l4, e4, rfl, hu, h4, hk4, ho4⟩; refine ⟨_, rfl, ?_⟩; have hz : -9223372036854775808 ≤ IntKind.i64.wrap (u : Int) ∧ IntKind.i64.wrap (u : Int) ≤ 9223372036854775807 := by rw [IntKind.wrap_i64]; omega
    have hblk4 := hblk3.keep hk4 ⟨hblk3.lt, by omega⟩; refine WL.pure rfl rfl rfl rfl ?_; refine WL.pure rfl rfl rfl rfl ?_; refine WL.store (v := .int .i64 (IntKind.i64.wrap (u : Int))) rfl rfl rfl rfl rfl rfl (by kernel_rfl) (hblk4.cell 1 (by simp)) (hblk4.free 1) ?_; obtain ⟨h5, hk5⟩ := stB (i := 1) (.int .i64 (IntKind.i64.wrap (u : Int))) h4 (hk3.trans hk4); have hblk5 := hblk4.set 1 (.int .i64 (IntKind.i64.wrap (u : Int))); refine K.kgo ?_; exact WQ.meet (.mk 5 (IntKind.i64.wrap (u : Int)) 0 noT [] [], _, l4, _) ⟨rfl, trivial⟩ ⟨hblk5, isVo_leaf (by omega) hz (by omega) (by decide), h5, hk5, ho2.gv (Out.congr (ho4.bind (Out.pure (V.mk 5 (IntKind.i64.wrap (u : Int)) 0 noT [] []))) (by unfold GV; rw [if_neg k1, if_neg k2, if_neg k3, if_neg k4, if_pos rfl]))⟩
  by_cases k67 : c = 6 ∨ c = 7
  · have hg : GV m c = fun r => (rdT r).bind fun t r => .ok (.mk c 0 0 t [] []) r := by funext r; unfold GV; rw [if_neg k1, if_neg k2, if_neg k3, if_neg k4, if_neg k5, if_pos k67]
    rcases k67 with k6 | k7
    all_goals
      refine K.kgo ?_; refine WL.call rfl rfl rfl rfl rfl Try.func90 rfl (by kernel_rfl) (text_any h3) ?_; rintro _ w4 ⟨t, l4, e4, rfl, ht, h4, hk4, ho4⟩; refine ⟨_, rfl, ?_⟩; have hblk4 := hblk3.keep hk4 ⟨hblk3.lt, by omega⟩; refine K.kgo ?_; refine WL.store (v := .string t) rfl rfl rfl rfl rfl rfl (by kernel_rfl) (hblk4.cell 3 (by simp)) (hblk4.free 3) ?_; obtain ⟨h5, hk5⟩ := stB (i := 3) (.string t) h4 (hk3.trans hk4); have hblk5 := hblk4.set 3 (.string t); refine K.kgo ?_; exact WQ.meet (.mk c 0 0 t [] [], _, l4, _) ⟨rfl, trivial⟩ ⟨hblk5, isVo_leaf (by omega) (by omega) (by omega) (by omega), h5, hk5, ho2.gv (by rw [hg]; exact ho4.bind (Out.pure (V.mk c 0 0 t [] [])))⟩
  by_cases k89 : c = 8 ∨ c = 9
  · have hg : GV m c = fun r => (rdC r).bind fun n r => (rdK (rdV m) (decide (c = 9)) n [] [] r).bind fun p r => .ok (.mk c 0 0 noT p.1 p.2) r := by
      funext r; unfold GV; rw [if_neg k1, if_neg k2, if_neg k3, if_neg k4, if_neg k5, if_neg k67, if_pos k89]
    rcases k89 with k8 | k9
    · refine K.kgo ?_
      refine WL.call rfl rfl rfl rfl rfl Try.func91 rfl (by kernel_rfl) (count_any h3) ?_; rintro _ w4 ⟨n, l4, e4, rfl, hn, h4, hk4, ho4⟩; refine ⟨_, rfl, ?_⟩; have hblk4 := hblk3.keep hk4 ⟨hblk3.lt, by omega⟩; rw [show decide (c = 9) = false by simp [k8]] at hg; refine K.kgo ?_; refine WC.loop (fun i : Nat × List ByteArray × List V × List Int × Int => [(0, .pointer (some ⟨rb, 0, none⟩)), (1, .int .i64 d), (4, .pointer (some ⟨vb, 0, none⟩)), (63, .int .i64 n), (64, .int .i64 i.1)])
        (fun i wr => i.1 ≤ n ∧ i.2.1.length ≤ i.1 ∧ i.2.2.1.length ≤ i.1 ∧ (∃ sn sk q, KidsW rb vb (m + 1) c w wr i.2.1 i.2.2.1 sn sk q) ∧ RS B wr rb i.2.2.2.1 i.2.2.2.2 ∧
          ∀ p l' e', Out (rdK (rdV m) false (n - i.1) i.2.1 i.2.2.1) i.2.2.2.1 i.2.2.2.2 p l' e' → Out (rdK (rdV m) false n [] []) l4 e4 p l' e') (fun i => n - i.1) (0, [], [], l4, e4)
        ⟨rfl, rfl, rfl, rfl, rfl, trivial⟩ ⟨Nat.zero_le _, Nat.le_refl _, Nat.le_refl _, ⟨_, _, fun _ => False, hblk4, OwnE.nil _ _ _ _ _ _, OwnE.nil _ _ _ _ _ _, (fun g hg => by cases hg), (fun b hb => hb.elim), hk3.trans hk4, hvbe, by omega⟩, h4, fun _ _ _ h => h⟩ ?_
      rintro ⟨i, ns, ks, li, ei⟩ wr ⟨hi, hnl, hkl, ⟨sn, sk, q, hK⟩, hr, hcont⟩; simp only at hi hnl hkl hK hr hcont ⊢; have hend : ∀ {wx : World} {sn sk : Value} {ns : List ByteArray} {ks : List V} {q : Nat → Prop} {li : List Int} {ei : Int}, KidsW rb vb (m + 1) c w wx ns ks sn sk q → RS B wx rb li ei → Out (rdK (rdV m) false n [] []) l4 e4 (ns, ks) li ei →
          VBlk 60 wx vb [.int .i64 c, .int .i64 0, .int .i64 0, .string ByteArray.empty, sn, sk] ∧ IsVo (fun b => w.heap.size ≤ b ∧ b ≠ vb) (m + 1 + 1) wx (.mk c 0 0 noT ns ks) [.int .i64 c, .int .i64 0, .int .i64 0, .string ByteArray.empty, sn, sk] ∧ RS B wx rb li ei ∧ KeepR rb w wx ∧ Out (rdV (m + 1)) l e (.mk c 0 0 noT ns ks) li ei :=
        fun {wx sn sk ns ks q li ei} h1 h2 h3 => ⟨h1.blk, ⟨sn, sk, rfl, wf_i64 (by show -9223372036854775808 ≤ c ∧ c ≤ _; omega), wf_i64 (by show -9223372036854775808 ≤ (0 : Int) ∧ (0 : Int) ≤ _; omega), wf_i64 (by show -9223372036854775808 ≤ (0 : Int) ∧ (0 : Int) ≤ _; omega), by show ByteArray.empty.size ≤ _; decide, h1.names.els, h1.kids.els.mono (fun _ h => h) fun x cs hx => hx.mono fun b hb => ⟨(h1.qs b hb).1, (h1.qs b hb).2.2.1⟩⟩, h2, h1.keep,
          ho2.gv (by rw [hg]; exact ho4.bind (h3.bind (Out.pure (V.mk c 0 0 noT ns ks))))⟩
      by_cases hin : i < n
      · obtain ⟨rsp, rcap, hrb, -⟩ := hr.ex
        refine K.kgo ?_; refine WL.load rfl rfl rfl rfl rfl rfl (hrb.cell 1 (by simp)) ?_
        by_cases hei : ei = 0
        · subst hei
          have hni : n - i = (n - (i + 1)) + 1 := by omega
          rw [hni] at hcont; have hwr := hK.keep.size; refine K.kgo ?_; refine WL.load rfl rfl rfl rfl rfl rfl (hK.blk.cell 0 (by simp)) ?_; refine K.kgo ?_; refine WL.load rfl rfl rfl rfl rfl rfl (hrb.cell 1 (by simp)) ?_; refine K.kgo ?_; refine WC.drawn 9 (fun wx => VBlk 60 wx vb [.int .i64 c, .int .i64 0, .int .i64 0, .string ByteArray.empty, sn, sk]) fun w5 hd5 => ?_; have hK5 := hK.below (hd5.below _); have hr5 := hr.keep (Keep.of_below (hd5.below wr.heap.size)) fun b hb => by omega
          have hsz5 : wr.heap.size ≤ w5.heap.size := (hd5.below 0).size; have hS := hK5.blk; refine K.fr [0] hS ?_; refine K.wl 1 [7, 8, 9] rfl rfl rfl rfl rfl rfl rfl (fun wx hx => hx.cell 5 (by simp)) hS ?_; refine K.fr [2, 3, 4] hS ?_; refine K.wo 5 ?_; refine WL.call rfl rfl rfl rfl rfl Try.func81 rfl (by kernel_rfl) (ih (d + 1) (by omega) hr5 (by omega)) ?_; rintro _ w6 ⟨v, cs, l6, e6, rfl, hv6, hr6, hk6, ho6⟩; refine ⟨_, rfl, ?_⟩; have hvb5 := hK5.blk.lt; have hsn5 : ∀ g, (sn).ownBlock = some g → g < w5.heap.size := fun g hg => hK5.names.lt hg; have hsk5 : ∀ g, sk.ownBlock = some g → g < w5.heap.size := fun g hg => hK5.kids.lt hg; have hK6 := hK5.read hk6; refine WL.nil (WQ.dk (.inr hK6.blk) ?_); refine K.wo 6 ?_; refine WL.lit1 rfl rfl rfl rfl rfl rfl rfl hv6.len ⟨by omega, by omega⟩ (by kernel_rfl) fun g7 w7 hf7 => ?_; have hK7 := (hK6.below hf7.below).widen (S := w5.heap.size) (by have := hK5.keep.size; omega) hvb5 hsn5 hsk5; have hr7 := hr6.keep (Keep.of_below hf7.below) fun b hb => by have := hk6.size; omega
          have hv7 := hv6.there.keep (O' := fun b => q b ∨ (w5.heap.size ≤ b ∧ b < w7.heap.size)) (Keep.of_below hf7.below) (fun b _ h => h) fun b hb => .inr ⟨hb.1, by have := hf7.size; omega⟩; refine WL.nil (WQ.dk (.inr hK7.blk) ?_); refine K.wo 7 ?_; refine WL.snoc rfl rfl rfl rfl elemV6 rfl hK7.kids rfl hf7.blk hv6.one hv6.len hv7 (by omega) (by omega) fun sk8 w8 ho8 hg8 => ?_; obtain ⟨hb8, hK9⟩ := hK7.setK ho8 hg8; refine K.di hb8 ?_; have hsk8 : sk8.oneCell' = true := ho8.one; refine K.wo 8 ?_; refine WL.pure rfl rfl rfl rfl ?_; refine K.di hb8 ?_; refine K.wo 9 ?_; refine WL.store rfl rfl rfl rfl rfl hsk8 (by kernel_rfl) (hb8.cell 5 (by simp)) (hb8.free 5) ?_; have hr9 : RS B (w8.setCell ⟨vb, 5, none⟩ sk8) rb l6 e6 := (hr7.keep hg8.1 fun b hb => ⟨by have := hr7.ex; have := hf7.size; have := hk6.size; omega, fun e => by have := (hK7.kids.own e).1; omega⟩).keep (K := fun b => b ≠ vb) ((Keep.refl _ w8).setCell (fun hk => hk rfl) _) fun b hb => by omega
          generalize w8.setCell ⟨vb, 5, none⟩ sk8 = w9 at hK9 hr9; refine K.dl ?_; refine WD.done (by kernel_rfl) ?_; refine K.kgo ?_; refine WQ.again (i + 1, ns, ks ++ [v], l6, e6) ⟨rfl, rfl, rfl, rfl, rfl, trivial⟩ ⟨hin, by show ns.length ≤ i + 1; omega, by simp only [List.length_append, List.length_cons, List.length_nil]; omega, ⟨sn, sk8, _, hK9⟩, hr9, fun p l' e' ho => ?_⟩ (by show n - (i + 1) < n - i; omega); refine hcont p l' e' (Out.congr (ho6.bind (g := fun v r' => rdK (rdV m) false (n - (i + 1)) ns (ks ++ [v]) r') ho) ?_); rw [rdK, if_neg (by simp)]
        · refine K.kgo ?_
          exact WQ.meet (.mk c 0 0 noT ns ks, _, li, ei) ⟨rfl, trivial⟩ (hend hK hr (hcont _ _ _ (.ofBad hei)))
      · obtain rfl : i = n := by omega
        refine K.kgo ?_; exact WQ.meet (.mk c 0 0 noT ns ks, _, li, ei) ⟨rfl, trivial⟩ (hend hK hr (hcont _ _ _ (Out.congr (Out.pure _) (by rw [Nat.sub_self]; rfl))))
    · refine K.kgo ?_
      refine WL.call rfl rfl rfl rfl rfl Try.func91 rfl (by kernel_rfl) (count_any h3) ?_; rintro _ w4 ⟨n, l4, e4, rfl, hn, h4, hk4, ho4⟩; refine ⟨_, rfl, ?_⟩; have hblk4 := hblk3.keep hk4 ⟨hblk3.lt, by omega⟩; rw [show decide (c = 9) = true by simp [k9]] at hg; refine K.kgo ?_; refine WC.loop (fun i : Nat × List ByteArray × List V × List Int × Int => [(0, .pointer (some ⟨rb, 0, none⟩)), (1, .int .i64 d), (4, .pointer (some ⟨vb, 0, none⟩)), (63, .int .i64 n), (64, .int .i64 i.1)])
        (fun i wr => i.1 ≤ n ∧ i.2.1.length ≤ i.1 ∧ i.2.2.1.length ≤ i.1 ∧ (∃ sn sk q, KidsW rb vb (m + 1) c w wr i.2.1 i.2.2.1 sn sk q) ∧ RS B wr rb i.2.2.2.1 i.2.2.2.2 ∧
          ∀ p l' e', Out (rdK (rdV m) true (n - i.1) i.2.1 i.2.2.1) i.2.2.2.1 i.2.2.2.2 p l' e' → Out (rdK (rdV m) true n [] []) l4 e4 p l' e') (fun i => n - i.1) (0, [], [], l4, e4)
        ⟨rfl, rfl, rfl, rfl, rfl, trivial⟩ ⟨Nat.zero_le _, Nat.le_refl _, Nat.le_refl _, ⟨_, _, fun _ => False, hblk4, OwnE.nil _ _ _ _ _ _, OwnE.nil _ _ _ _ _ _, (fun g hg => by cases hg), (fun b hb => hb.elim), hk3.trans hk4, hvbe, by omega⟩, h4, fun _ _ _ h => h⟩ ?_
      rintro ⟨i, ns, ks, li, ei⟩ wr ⟨hi, hnl, hkl, ⟨sn, sk, q, hK⟩, hr, hcont⟩; simp only at hi hnl hkl hK hr hcont ⊢; have hend : ∀ {wx : World} {sn sk : Value} {ns : List ByteArray} {ks : List V} {q : Nat → Prop} {li : List Int} {ei : Int}, KidsW rb vb (m + 1) c w wx ns ks sn sk q → RS B wx rb li ei → Out (rdK (rdV m) true n [] []) l4 e4 (ns, ks) li ei →
          VBlk 60 wx vb [.int .i64 c, .int .i64 0, .int .i64 0, .string ByteArray.empty, sn, sk] ∧ IsVo (fun b => w.heap.size ≤ b ∧ b ≠ vb) (m + 1 + 1) wx (.mk c 0 0 noT ns ks) [.int .i64 c, .int .i64 0, .int .i64 0, .string ByteArray.empty, sn, sk] ∧ RS B wx rb li ei ∧ KeepR rb w wx ∧ Out (rdV (m + 1)) l e (.mk c 0 0 noT ns ks) li ei :=
        fun {wx sn sk ns ks q li ei} h1 h2 h3 => ⟨h1.blk, ⟨sn, sk, rfl, wf_i64 (by show -9223372036854775808 ≤ c ∧ c ≤ _; omega), wf_i64 (by show -9223372036854775808 ≤ (0 : Int) ∧ (0 : Int) ≤ _; omega), wf_i64 (by show -9223372036854775808 ≤ (0 : Int) ∧ (0 : Int) ≤ _; omega), by show ByteArray.empty.size ≤ _; decide, h1.names.els, h1.kids.els.mono (fun _ h => h) fun x cs hx => hx.mono fun b hb => ⟨(h1.qs b hb).1, (h1.qs b hb).2.2.1⟩⟩, h2, h1.keep,
          ho2.gv (by rw [hg]; exact ho4.bind (h3.bind (Out.pure (V.mk c 0 0 noT ns ks))))⟩
      by_cases hin : i < n
      · obtain ⟨rsp, rcap, hrb, -⟩ := hr.ex
        refine K.kgo ?_; refine WL.load rfl rfl rfl rfl rfl rfl (hrb.cell 1 (by simp)) ?_
        by_cases hei : ei = 0
        · subst hei
          have hni : n - i = (n - (i + 1)) + 1 := by omega
          rw [hni] at hcont; have hwr := hK.keep.size; refine K.kgo ?_; refine WL.load rfl rfl rfl rfl rfl rfl (hK.blk.cell 0 (by simp)) ?_; refine K.kgo ?_; refine WC.drawn 7 (fun wx => VBlk 60 wx vb [.int .i64 c, .int .i64 0, .int .i64 0, .string ByteArray.empty, sn, sk]) fun w5 hd5 => ?_; have hK5 := hK.below (hd5.below _); have hr5 := hr.keep (Keep.of_below (hd5.below wr.heap.size)) fun b hb => by omega
          have hsz5 : wr.heap.size ≤ w5.heap.size := (hd5.below 0).size; have hS := hK5.blk; refine K.fr [0] hS ?_; refine K.wl 1 [5, 6, 7] rfl rfl rfl rfl rfl rfl rfl (fun wx hx => hx.cell 4 (by simp)) hS ?_; refine K.fr [2] hS ?_; refine K.wo 3 ?_; refine WL.call rfl rfl rfl rfl rfl Try.func90 rfl (by kernel_rfl) (text_any hr5) ?_; rintro _ w6 ⟨t, lt, et, rfl, ht, hr6, hk6, hot⟩; refine ⟨_, rfl, ?_⟩; have hK6 := hK5.read hk6; refine WL.nil (WQ.dk (.inr hK6.blk) ?_); refine K.wo 4 ?_; refine WL.lit1 (cs := [.string t]) rfl rfl rfl rfl rfl rfl rfl rfl ⟨by omega, by omega⟩ (by kernel_rfl) fun g7 w7 hf7 => ?_; have hK7 := hK6.below hf7.below; have hr7 := hr6.keep (Keep.of_below hf7.below) fun b hb => by have := hk6.size; omega
          refine WL.nil (WQ.dk (.inr hK7.blk) ?_); refine K.wo 5 ?_; refine WL.snoc (y := t) rfl rfl rfl rfl elemS1 rfl hK7.names rfl hf7.blk (by intro u hu; simp at hu; rw [hu]; rfl) rfl ⟨rfl, by omega⟩ (by omega) (by omega) fun sn8 w8 ho8 hg8 => ?_; obtain ⟨hb8, hK9⟩ := hK7.setN ho8 hg8; refine K.di hb8 ?_; have hsn8 : sn8.oneCell' = true := ho8.one; refine K.wo 6 ?_; refine WL.pure rfl rfl rfl rfl ?_; refine K.di hb8 ?_; refine K.wo 7 ?_; refine WL.store rfl rfl rfl rfl rfl hsn8 (by kernel_rfl) (hb8.cell 4 (by simp)) (hb8.free 4) ?_; have hr9 : RS B (w8.setCell ⟨vb, 4, none⟩ sn8) rb lt et := (hr7.keep hg8.1 fun b hb => ⟨by have := hf7.size; have := hk6.size; omega, fun e => by have := (hK7.names.own e).1; omega⟩).keep (K := fun b => b ≠ vb) ((Keep.refl _ w8).setCell (fun hk => hk rfl) _) fun b hb => by omega
          generalize w8.setCell ⟨vb, 4, none⟩ sn8 = w9 at hK9 hr9; refine K.dl ?_; refine WD.done (by kernel_rfl) ?_; obtain ⟨rsp9, rcap9, hrb9, -⟩ := hr9.ex; clear hK7 hr7 hb8 hK6 hr6 hK5 hr5 hS hk6 ho8 hg8; refine K.kgo ?_; refine WL.load rfl rfl rfl rfl rfl rfl (hrb9.cell 1 (by simp)) ?_
          by_cases het : et = 0
          · subst het
            have hwr := hK9.keep.size; refine K.kgo ?_; refine WC.drawn 9 (fun wx => VBlk 60 wx vb [.int .i64 c, .int .i64 0, .int .i64 0, .string ByteArray.empty, sn8, sk]) fun w15 hd5 => ?_; have hK5 := hK9.below (hd5.below _); have hr5 := hr9.keep (Keep.of_below (hd5.below w9.heap.size)) fun b hb => by omega
            have hsz5 : w9.heap.size ≤ w15.heap.size := (hd5.below 0).size; have hS := hK5.blk; refine K.fr [0] hS ?_; refine K.wl 1 [7, 8, 9] rfl rfl rfl rfl rfl rfl rfl (fun wx hx => hx.cell 5 (by simp)) hS ?_; refine K.fr [2, 3, 4] hS ?_; refine K.wo 5 ?_; refine WL.call rfl rfl rfl rfl rfl Try.func81 rfl (by kernel_rfl) (ih (d + 1) (by omega) hr5 (by omega)) ?_; rintro _ w16 ⟨v, cs, l6, e6, rfl, hv6, hr6, hk6, ho6⟩; refine ⟨_, rfl, ?_⟩; have hvb5 := hK5.blk.lt; have hsn5 : ∀ g, (sn8).ownBlock = some g → g < w15.heap.size := fun g hg => hK5.names.lt hg; have hsk5 : ∀ g, sk.ownBlock = some g → g < w15.heap.size := fun g hg => hK5.kids.lt hg; have hK6 := hK5.read hk6; refine WL.nil (WQ.dk (.inr hK6.blk) ?_); refine K.wo 6 ?_; refine WL.lit1 rfl rfl rfl rfl rfl rfl rfl hv6.len ⟨by omega, by omega⟩ (by kernel_rfl) fun g7 w17 hf7 => ?_; have hK7 := (hK6.below hf7.below).widen (S := w15.heap.size) (by have := hK5.keep.size; omega) hvb5 hsn5 hsk5; have hr7 := hr6.keep (Keep.of_below hf7.below) fun b hb => by have := hk6.size; omega
            have hv7 := hv6.there.keep (O' := fun b => q b ∨ (w15.heap.size ≤ b ∧ b < w17.heap.size)) (Keep.of_below hf7.below) (fun b _ h => h) fun b hb => .inr ⟨hb.1, by have := hf7.size; omega⟩; refine WL.nil (WQ.dk (.inr hK7.blk) ?_); refine K.wo 7 ?_; refine WL.snoc rfl rfl rfl rfl elemV6 rfl hK7.kids rfl hf7.blk hv6.one hv6.len hv7 (by omega) (by omega) fun sk8 w18 ho8 hg8 => ?_; obtain ⟨hb8, hK9⟩ := hK7.setK ho8 hg8; refine K.di hb8 ?_; have hsk8 : sk8.oneCell' = true := ho8.one; refine K.wo 8 ?_; refine WL.pure rfl rfl rfl rfl ?_; refine K.di hb8 ?_; refine K.wo 9 ?_; refine WL.store rfl rfl rfl rfl rfl hsk8 (by kernel_rfl) (hb8.cell 5 (by simp)) (hb8.free 5) ?_; have hr9 : RS B (w18.setCell ⟨vb, 5, none⟩ sk8) rb l6 e6 := (hr7.keep hg8.1 fun b hb => ⟨by have := hr7.ex; have := hf7.size; have := hk6.size; omega, fun e => by have := (hK7.kids.own e).1; omega⟩).keep (K := fun b => b ≠ vb) ((Keep.refl _ w18).setCell (fun hk => hk rfl) _) fun b hb => by omega
            generalize w18.setCell ⟨vb, 5, none⟩ sk8 = w19 at hK9 hr9; refine K.dl ?_; refine WD.done (by kernel_rfl) ?_; refine K.kgo ?_; refine WQ.again (i + 1, (ns ++ [t]), ks ++ [v], l6, e6) ⟨rfl, rfl, rfl, rfl, rfl, trivial⟩ ⟨hin, by simp only [List.length_append, List.length_cons, List.length_nil]; omega, by simp only [List.length_append, List.length_cons, List.length_nil]; omega, ⟨sn8, sk8, _, hK9⟩, hr9, fun p l' e' ho => ?_⟩ (by show n - (i + 1) < n - i; omega); refine hcont p l' e' (Out.congr (hot.bind (g := fun s r => (rdV m r).bind fun v r' => rdK (rdV m) true (n - (i + 1)) (ns ++ [s]) (ks ++ [v]) r') (ho6.bind (g := fun v r' => rdK (rdV m) true (n - (i + 1)) (ns ++ [t]) (ks ++ [v]) r') ho)) ?_); rw [rdK, if_pos rfl]
          · refine K.kgo ?_
            refine WQ.again (i + 1, ns ++ [t], ks, lt, et) ⟨rfl, rfl, rfl, rfl, rfl, trivial⟩ ⟨hin, by simp only [List.length_append, List.length_cons, List.length_nil]; omega, by show ks.length ≤ i + 1; omega, ⟨sn8, sk, q, hK9⟩, hr9, fun p l' e' ho => ?_⟩ (by show n - (i + 1) < n - i; omega); obtain rfl : e' = et := ho.bad het; refine hcont p l' e' (Out.congr (Out.stop (g := fun s r => (rdV m r).bind fun v r' => rdK (rdV m) true (n - (i + 1)) (ns ++ [s]) (ks ++ [v]) r') hot het ho.len) ?_); rw [rdK, if_pos rfl]
        · refine K.kgo ?_
          exact WQ.meet (.mk c 0 0 noT ns ks, _, li, ei) ⟨rfl, trivial⟩ (hend hK hr (hcont _ _ _ (.ofBad hei)))
      · obtain rfl : i = n := by omega
        refine K.kgo ?_; exact WQ.meet (.mk c 0 0 noT ns ks, _, li, ei) ⟨rfl, trivial⟩ (hend hK hr (hcont _ _ _ (Out.congr (Out.pure _) (by rw [Nat.sub_self]; rfl))))
  · have hg : GV m c = fun _ => .bad 3 := by
      funext r; unfold GV; rw [if_neg k1, if_neg k2, if_neg k3, if_neg k4, if_neg k5, if_neg k67, if_neg k89]
    refine K.kgo ?_; refine WL.call rfl rfl rfl rfl rfl Try.func82 rfl (by kernel_rfl) (fail_any h3 3) ?_; rintro _ w4 ⟨rfl, h4, hk4⟩; refine ⟨_, rfl, ?_⟩; refine K.kgo ?_; exact WQ.meet (.mk c 0 0 noT [] [], _, l2, _) ⟨rfl, trivial⟩ ⟨hblk3.keep hk4 ⟨hblk3.lt, by omega⟩, isVo_leaf (by omega) (by omega) (by omega) (by decide), h4, hk3.trans hk4, ho2.gv (by rw [hg]; exact Out.fail 3 (by omega))⟩

theorem value_any : ∀ (m : Nat) {B rb : Nat} {w : World} {l : List Int} {e : Int} (d : Int), d = 17 - (m : Int) → m ≤ 16 → RS B w rb l e → B ≤ w.heap.size → Calls Try.prog 81 #[.pointer (some ⟨rb, 0, none⟩), .int .i64 d] w (ValPost m B rb w l e)
  | 0, B, rb, w, l, e, d, hd, _, h, hB => by
    refine enter (args := [.pointer (some ⟨rb, 0, none⟩), .int .i64 d]) Try.func81 rfl Try.ntmps81 rfl ?_; refine K.kgo ?_; refine WL.alloc (z := .agg #[.int .i64 0, .int .i64 0, .int .i64 0, .string ByteArray.empty, .slice none 0 0, .slice none 0 0]) rfl rfl rfl rfl (fun _ => by kernel_rfl) fun vb w1 hf => ?_; have hf' : Fresh w vb w1 60 [.int .i64 0, .int .i64 0, .int .i64 0, .string ByteArray.empty, .slice none 0 0, .slice none 0 0] := hf; clear hf; have hvbe := hf'.eq; have hrB := h.rlt; have h1 : RS B w1 rb l e := h.keep (Keep.of_below hf'.below) fun b hb => Nat.lt_of_lt_of_le hb hB; have hk1 : KeepR rb w w1 := KeepR.below hf'.below; refine K.kgo ?_; refine WL.call rfl rfl rfl rfl rfl Try.func82 rfl (by kernel_rfl) (fail_any h1 9) ?_; rintro _ w2 ⟨rfl, h2, hk2⟩; refine ⟨_, rfl, ?_⟩; have hblk := hf'.blk.keep hk2 ⟨hf'.blk.lt, by omega⟩; have hv : IsVo (fun b => w.heap.size ≤ b) 1 w2 (.mk 0 0 0 noT [] []) _ := isVo_leaf (k := 0) (n := 0) (s := 0) (t := noT) (by omega) (by omega) (by omega) (by decide); refine K.kgo ?_; refine WL.loadMid rfl rfl rfl rfl rfl rfl (VBlk.rangeAt hblk) rfl ?_; refine WL.storeRow rfl rfl rfl rfl rfl rfl hblk rfl rfl hv.one ?_; refine K.kgo ?_; have hset : ∀ a, Keep (fun b => b ≠ vb) w2 (w2.setRow vb a) := fun a => Keep.setRow (Keep.refl _ w2) (fun hk => hk rfl) a; exact WQ.retC rfl rfl rfl rfl (hblk.setRow _) ⟨.mk 0 0 0 noT [] [], _, l, _, rfl, isVo_leaf (k := 0) (n := 0) (s := 0) (t := noT) (by omega) (by omega) (by omega) (by decide), h2.keep (hset _) (fun b hb => by omega), Keep.setRow (hk1.trans hk2) (fun hk => by have := hk.1; omega) _, Out.fail 9 (by omega)⟩
  | m + 1, _, _, _, _, _, d, hd, hm, h, hB => value_step m (fun d hd h hB => value_any m d hd (by omega) h hB) d hd hm h hB
end K
end Go.Proofs.Ytdkkaliiofcflaa

namespace Go.Proofs.Ytdkkaliiofcflaa
open Go.RowKit
namespace Vl

set_option maxHeartbeats 400000 in
theorem isName_any (s : ByteArray) (w : World) : Calls Try.prog 93 #[.string s] w fun e w' => e = .returned (.bool (isNameB s)) ∧ w = w' := by
  by_cases h1 : 1 ≤ s.size
  · have h1' : (1 : Int) ≤ s.size := by omega
    go_enter Try.func93, Try.ntmps93
    go_wp2
    go_ret
    exact ⟨by simp [isNameB, h1]; omega, rfl⟩
  · have h1' : decide ((1 : Int) ≤ s.size) = false := decide_eq_false (by omega)
    go_enter Try.func93, Try.ntmps93
    go_wp2
    go_ret
    exact ⟨by simp [isNameB, h1], rfl⟩

theorem leq_not : ∀ (a p : List UInt8), (Op.bytesLess a p || a == p) = !Op.bytesLess p a
  | [], [] => rfl
  | [], _ :: _ => by simp [Op.bytesLess]
  | _ :: _, [] => by simp [Op.bytesLess]
  | x :: a, y :: p => by
    have ih := leq_not a p; unfold Op.bytesLess; rcases Nat.lt_trichotomy x.toNat y.toNat with h | h | h
    · have h1 : x < y := UInt8.lt_iff_toNat_lt.2 h
      have h2 : ¬ y < x := fun e => by have := UInt8.lt_iff_toNat_lt.1 e; omega
      have h3 : ¬ y = x := fun e => by subst e; omega
      simp [h1, h2, h3]
    · obtain rfl : x = y := UInt8.toNat.inj h
      simpa using ih
    · have h1 : y < x := UInt8.lt_iff_toNat_lt.2 h
      have h2 : ¬ x < y := fun e => by have := UInt8.lt_iff_toNat_lt.1 e; omega
      have h3 : ¬ x = y := fun e => by subst e; omega
      simp [h1, h2, h3]

theorem ret_bool {b b' : Bool} (h : b = b') : Ending.returned (.bool b) = Ending.returned (.bool b') := by rw [h]
abbrev six (v : V) (sn sk : Value) : List Value := [.int .i64 v.k, .int .i64 v.n, .int .i64 v.s, .string v.t, sn, sk]
def okN (l : List ByteArray) (i : Nat) : Bool := isNameB (l.getD i noT) && (decide (i = 0) || Op.bytesLess (l.getD (i - 1) noT).toList (l.getD i noT).toList)
theorem fields_iff (v : V) : fieldsB v = true ↔ (∀ i, i < v.names.length → okN v.names i = true) ∧ v.names.length = v.kids.length := by
  unfold fieldsB; rw [Bool.and_eq_true, Bool.and_eq_true, rises_iff, List.all_eq_true, decide_eq_true_iff, and_congr_left_iff]; intro _
  constructor
  · rintro ⟨h1, h2⟩ i hi
    unfold okN; rw [Bool.and_eq_true, Bool.or_eq_true, decide_eq_true_iff]; refine ⟨h1 _ (by simp [hi]), ?_⟩; cases i with
    | zero => exact .inl rfl
    | succ i => exact .inr (h2 i hi)
  · intro h
    constructor
    · intro x hx
      obtain ⟨j, hj, rfl⟩ := List.getElem_of_mem hx; have := h j hj; unfold okN at this; rw [Bool.and_eq_true] at this
      simpa [hj] using this.1
    · intro i hi
      have := h (i + 1) hi; unfold okN at this; rw [Bool.and_eq_true, Bool.or_eq_true, decide_eq_true_iff] at this; exact this.2.resolve_left (by omega)

set_option maxHeartbeats 8000000 in
theorem fields_any {f : Nat} {w : World} {v : V} {cs : List Value} (h : IsV f w v cs) :
    Calls Try.prog 92 #[.agg cs.toArray] w fun e w' => e = .returned (.bool (fieldsB v)) ∧ Below w.heap.size w w' := by
  cases f with
  | zero => exact h.elim
  | succ f =>
  obtain ⟨sn, sk, rfl, -, -, -, -, hn, kp, kc, rfl, kl, kc2, -⟩ := h; have hbel : Below w.heap.size w (w.alloc (.cells (six v sn (.slice kp v.kids.length kc)).toArray 60)) := (Below.refl _ w).alloc (Nat.le_refl _) _; have hR : VBlk 60 (w.alloc (.cells (six v sn (.slice kp v.kids.length kc)).toArray 60)) w.heap.size (six v sn (.slice kp v.kids.length kc)) := VBlk.mk w _ _; have hn1 := hn.below hbel; obtain ⟨np, nc, rfl, nl, nc2, nsz, nr⟩ := hn1; have c4 := hR.cell 4 (by simp); have c5 := hR.cell 5 (by simp); simp only [List.getD_cons_zero, List.getD_cons_succ] at c4 c5; have Hnr := Hid2.mk nr; have Hsz := Hid2.mk nsz; have HB := Hid2.mk hbel; have Hfi := Hid2.mk (fields_iff v); clear hbel hn hR nr nsz; generalize hN : v.names.length = N at nl c4 c5 HB Hnr Hsz Hfi ⊢; generalize hK : v.kids.length = K at kl c4 c5 Hnr Hsz HB Hfi ⊢; generalize v.names = nm at Hnr Hsz Hfi hN ⊢; clear hN hK
  go_enter Try.func92, Try.ntmps92
  go_wp2_with fail
  go_loopw [8] (fun i wr => ∃ k : Nat, k ≤ N ∧ i = .int .i64 (k : Nat) ∧ (∃ n, wr = (w.alloc (.cells (six v (.slice np N nc) (.slice kp K kc)).toArray 60)).drewN n) ∧ ∀ j, j < k → okN nm j = true) (fun i _ => N - (intOf i).toNat)
  case atStart => exact ⟨0, Nat.zero_le _, rfl, ⟨0, rfl⟩, fun j hj => absurd hj (by omega)⟩
  case round =>
    obtain ⟨k, hk, rfl, ⟨n, rfl⟩, hall⟩ := hrel
    by_cases hkN : k < N
    · have hkz : (k : Int) < (N : Int) := by omega
      obtain ⟨b, o, rfl, hb, hr⟩ := Hnr.out (by omega); have ck := hr k hkN; have hka := Hsz.out k hkN; have Hok := Hid2.mk (show okN nm k = (isNameB (nm.getD k noT) && (decide (k = 0) || Op.bytesLess (nm.getD (k - 1) noT).toList (nm.getD k noT).toList)) from rfl); have Hall := Hid2.mk hall
      by_cases hk0 : k = 0
      · have hk0' : ((k : Int) == 0) = true := by simp [hk0]
        have hk0'' : ¬ (0 : Int) < (k : Int) := by omega
        have hk00 := decide_eq_true hk0; rw [hk00] at Hok; clear hr hall hk0 hk00; generalize nm.getD k noT = a at ck hka Hok; generalize nm.getD (k - 1) noT = p at Hok; cases ha : isNameB a with
        | true =>
          rw [ha] at Hok; have Ha := Hid2.mk ha; clear ha
          go_wp2_with (go_fit (isName_any a _); rw [Ha.out]; rintro e w' ⟨rfl, rfl⟩)
          refine ⟨⟨k + 1, by omega, rfl, ⟨_, rfl⟩, fun j hj => (Nat.lt_succ_iff_lt_or_eq.1 hj).elim (Hall.out j) (fun e => by rw [e, Hok.out]; rfl)⟩, by show N - ((k : Int) + 1).toNat < N - ((k : Int)).toNat; omega⟩
        | false =>
          rw [ha] at Hok; have Ha := Hid2.mk ha; clear ha
          go_wp2_with (go_fit (isName_any a _); rw [Ha.out]; rintro e w' ⟨rfl, rfl⟩)
          go_ret
          refine ⟨ret_bool (b := false) (Bool.eq_false_iff.2 fun h => ?_).symm, belowN HB.out _⟩; have := (Hfi.out.1 h).1 k hkN; rw [Hok.out] at this; cases this
      · obtain ⟨m, rfl⟩ : ∃ m, k = m + 1 := ⟨k - 1, by omega⟩
        have cm := hr m (by omega); have hkm : IntKind.i64.wrap (((m + 1 : Nat) : Int) - 1) = (m : Nat) := by rw [IntWalk.i64_in _ (by omega)]; omega
        have hk0'' : (0 : Int) < ((m + 1 : Nat) : Int) := by omega
        have hk00 := decide_eq_false hk0; rw [hk00, Nat.add_sub_cancel] at Hok; clear hr hall hk0 hk00; generalize nm.getD (m + 1) noT = a at ck hka Hok; generalize nm.getD m noT = p at cm Hok; cases ha : isNameB a with
        | true =>
          cases hp : Op.bytesLess p.toList a.toList with
          | true =>
            have hle : (Op.bytesLess a.toList p.toList || a.toList == p.toList) = false := by rw [leq_not, hp]; rfl
            rw [ha, hp] at Hok; have Ha := Hid2.mk ha; have Hp := Hid2.mk hp; clear ha hp
            go_wp2_with (go_fit (isName_any a _); rw [Ha.out]; rintro e w' ⟨rfl, rfl⟩)
            refine ⟨⟨m + 2, by omega, rfl, ⟨_, rfl⟩, fun j hj => (Nat.lt_succ_iff_lt_or_eq.1 hj).elim (Hall.out j) (fun e => by rw [e, Hok.out]; rfl)⟩, by show N - ((m : Int) + 1 + 1).toNat < N - (((m + 1 : Nat) : Int)).toNat; omega⟩
          | false =>
            have hle : (Op.bytesLess a.toList p.toList || a.toList == p.toList) = true := by rw [leq_not, hp]; rfl
            rw [ha, hp] at Hok; have Ha := Hid2.mk ha; have Hp := Hid2.mk hp; clear ha hp
            go_wp2_with (go_fit (isName_any a _); rw [Ha.out]; rintro e w' ⟨rfl, rfl⟩)
            go_ret
            refine ⟨ret_bool (b := false) (Bool.eq_false_iff.2 fun h => ?_).symm, belowN HB.out _⟩; have := (Hfi.out.1 h).1 _ hkN; rw [Hok.out] at this; cases this
        | false =>
          rw [ha] at Hok; have Ha := Hid2.mk ha; clear ha
          go_wp2_with (go_fit (isName_any a _); rw [Ha.out]; rintro e w' ⟨rfl, rfl⟩)
          go_ret
          refine ⟨ret_bool (b := false) (Bool.eq_false_iff.2 fun h => ?_).symm, belowN HB.out _⟩; have := (Hfi.out.1 h).1 _ hkN; rw [Hok.out] at this; cases this
    · obtain rfl : k = N := by omega
      have hd : (k : Int) ≤ k := by omega
      have Hall := Hid2.mk hall; clear hall
      go_wp2_with fail
      go_ret
      refine ⟨ret_bool (b := (k : Int) == K) ?_, belowN HB.out _⟩; cases hf : fieldsB v with
      | true => have := (Hfi.out.1 hf).2; simp [this]
      | false =>
        refine beq_eq_false_iff_ne.2 fun e => ?_; have := Hfi.out.2 ⟨Hall.out, by omega⟩; rw [hf] at this; cases this
end Vl
end Go.Proofs.Ytdkkaliiofcflaa

namespace Go.Proofs.Ytdkkaliiofcflaa
open Go.RowKit
namespace Vl

def formC (k n s : Int) (B P E N0 : Bool) : Bool :=
  if k = 1 then B && P && E
  else if k = 2 then decide (n / 2 = 0) && decide (s = 0) && P && E
  else if k = 3 then decide (s = 0) && P && E
  else if k = 4 then decide (1 ≤ s) && decide (s ≤ 18) && decide (¬ n.tmod 10 = 0) && P && E
  else if k = 5 then decide (0 ≤ n) && decide (n ≤ 9007199254740992) && decide (s = 0) && P && E
  else if k = 6 ∨ k = 7 then B && P
  else if k = 8 then B && N0 && E
  else if k = 9 then B && E
  else false
theorem formB_eq (v : V) : formB v = formC v.k v.n v.s (bareB v) (plainB v) (noTextB v) (decide (v.names.length = 0)) := by
  have h : (decide (0 ≤ v.n) && decide (v.n ≤ 1)) = decide (v.n / 2 = 0) := by
    by_cases h : v.n / 2 = 0
    · simp [h]; omega
    · rw [decide_eq_false h, Bool.and_eq_false_iff, decide_eq_false_iff_not, decide_eq_false_iff_not]; omega
  unfold formB formC; rw [h]

theorem IsV.open {f : Nat} {w : World} {v : V} {cs : List Value} (h : IsV f w v cs) :
    ∃ np nc kp kc, cs = [.int .i64 v.k, .int .i64 v.n, .int .i64 v.s, .string v.t, .slice np v.names.length nc, .slice kp v.kids.length kc] ∧
      (-9223372036854775808 ≤ v.n ∧ v.n ≤ 9223372036854775807) ∧ v.t.size ≤ 140737488355328 ∧ v.names.length ≤ nc ∧ nc ≤ 9223372036854775807 ∧ v.kids.length ≤ kc ∧ kc ≤ 9223372036854775807 := by
  cases f with
  | zero => exact h.elim
  | succ f =>
    obtain ⟨sn, sk, rfl, -, hn, -, ht, ⟨np, nc, rfl, nl, nc2, -⟩, ⟨kp, kc, rfl, kl, kc2, -⟩⟩ := h; refine ⟨np, nc, kp, kc, rfl, ?_, ht, nl, nc2, kl, kc2⟩; simp [Lit.wf, IntKind.min, IntKind.max, IntKind.bits, IntKind.signed] at hn
    omega
theorem infoValue : (Try.prog.info? 60).map (·.size) = some 6 := by kernel_rfl

theorem empty_iff (t : ByteArray) : (t.toList == []) = decide (t.size = 0) := by
  have h : t.toList.length = t.size := by rw [ByteArray.toList_eq]; rfl
  cases hl : t.toList with
  | nil => rw [hl] at h; simp at h; simp [← h]
  | cons a l => rw [hl] at h; simp at h; simp [← h]

set_option maxRecDepth 100000 in
set_option maxHeartbeats 8000000 in
theorem shape_B {f : Nat} {w : World} {v : V} {cs : List Value} (h : IsV f w v cs) (hk : v.k = 1 ∨ v.k = 2 ∨ v.k = 3) :
    Calls Try.prog 87 #[.agg cs.toArray] w fun e w' => e = .returned (.int .i64 (shp v)) ∧ Below w.heap.size w w' := by
  obtain ⟨np, nc, kp, kc, hcs, hnn, ht, nl, nc2, kl, kc2⟩ := IsV.open h; have hform := formB_eq v; have hB : bareB v = (decide (v.n = 0) && decide (v.s = 0)) := rfl; have hP : plainB v = (decide (v.names.length = 0) && decide (v.kids.length = 0)) := rfl; have hE : noTextB v = decide (v.t.size = 0) := rfl; have hem := empty_iff v.t; have hshp : shp v = if formB v = false then 3 else if 16384 < v.t.size ∨ 200 < v.kids.length then 5 else if v.k = 9 ∧ fieldsB v = false then 3 else 0 := rfl
  rw [← hE] at hem; generalize formB v = F at hform hshp; generalize bareB v = B at hform hB; generalize plainB v = P at hform hP; generalize noTextB v = E at hform hE hem; generalize hG : fieldsB v = G at hshp; generalize shp v = R at hshp ⊢; generalize hN0 : decide (v.names.length = 0) = N0 at hform hP; generalize v.k = k at hk hcs hform hshp; generalize v.n = n at hcs hform hB hnn; generalize v.s = s at hcs hform hB; generalize v.t = t at hcs hE hem ht hshp; generalize v.names.length = N at hcs hN0 nl; generalize v.kids.length = K at hcs hP kl hshp; have hbel : Below w.heap.size w (w.alloc (.cells cs.toArray 60)) := (Below.refl _ w).alloc (Nat.le_refl _) _; have hR : VBlk 60 (w.alloc (.cells cs.toArray 60)) w.heap.size cs := VBlk.mk w _ _; have h1 := h.below hbel; have HF := Hid2.mk (fun m => fields_any (f := f) (v := v) (h1.below (belowN (Below.refl _ _) m))); rw [hG] at HF; have HR := Hid2.mk hR; have HB := Hid2.mk hbel; have Hshp := Hid2.mk hshp; have Hform := Hid2.mk hform; have hBv := Hid2.mk hB; have hPv := Hid2.mk hP; have hEv := Hid2.mk hE; have hN0v := Hid2.mk hN0; have c0 := hR.cell 0 (by subst hcs; simp); have c1 := hR.cell 1 (by subst hcs; simp); have c2 := hR.cell 2 (by subst hcs; simp); have c3 := hR.cell 3 (by subst hcs; simp); have c4 := hR.cell 4 (by subst hcs; simp); have c5 := hR.cell 5 (by subst hcs; simp); clear h hform hB hP hE hshp hG hbel hR h1 hN0; subst hcs; simp only [List.getD_cons_zero, List.getD_cons_succ] at c0 c1 c2 c3 c4 c5; have Hk := Hid2.mk hk; clear hk
  go_enter Try.func87, Try.ntmps87
  go_upto_region 1 with fail
  generalize hw1 : World.alloc _ _ = w1 at c0 c1 c2 c3 c4 c5 HF HR HB ⊢
  go_cut [3] (fun b wx => b = .bool B ∧ ∃ m, wx = w1.drewN m)
  case first =>
    by_cases h0 : n = 0
    · obtain rfl := h0
      go_wp2_with fail
      go_meet
      exact ⟨congrArg Value.bool (by rw [hBv.out]; by_cases e : s = 0 <;> simp [e]), 0, rfl⟩
    · have h0' : (n == 0) = false := beq_eq_false_iff_ne.2 h0
      go_wp2_with fail
      go_meet
      exact ⟨congrArg Value.bool (by rw [hBv.out]; simp [h0]), 0, rfl⟩
  case rest =>
  obtain ⟨rfl, m1, rfl⟩ := hcut
  go_upto_region 2 with fail
  go_cut [4] (fun b wx => b = .bool P ∧ ∃ m, wx = w1.drewN m)
  case first =>
    by_cases h0 : N = 0
    · obtain rfl := h0
      go_wp2_with fail
      go_meet
      exact ⟨congrArg Value.bool (by rw [hPv.out, ← hN0v.out]; by_cases e : K = 0 <;> simp [e]), m1, rfl⟩
    · have h0' : ((N : Int) == 0) = false := beq_eq_false_iff_ne.2 (by omega)
      go_wp2_with fail
      go_meet
      exact ⟨congrArg Value.bool (by rw [hPv.out, ← hN0v.out]; simp [h0]), m1, rfl⟩
  case rest =>
  obtain ⟨rfl, m2, rfl⟩ := hcut
  go_upto_block 0 with fail
  go_cut [5] (fun b wx => b = .bool F ∧ ∃ m, wx = w1.drewN m)
  case first =>
    clear Hshp HF HR HB hBv hPv hEv hnn
    by_cases k1 : k = 1
    · obtain rfl := k1
      cases B
      · (go_wp2_with fail; go_meet; exact ⟨congrArg Value.bool (by rw [Hid2.out Hform, ← Hid2.out hN0v]; simp [formC, *]), m2, rfl⟩)
      ·
        cases P
        · (go_wp2_with fail; go_meet; exact ⟨congrArg Value.bool (by rw [Hid2.out Hform, ← Hid2.out hN0v]; simp [formC, *]), m2, rfl⟩)
        ·
          (go_wp2_with fail; go_meet; exact ⟨congrArg Value.bool (by rw [Hid2.out Hform, ← Hid2.out hN0v]; simp [formC, *]), m2, rfl⟩)
    have q1 : (k == 1) = false := beq_eq_false_iff_ne.2 k1
    by_cases k2 : k = 2
    · obtain rfl := k2
      by_cases c3 : n / 2 = 0
      ·
        by_cases c2 : s = 0
        · obtain rfl := c2
          cases P
          · (go_wp2_with fail; go_meet; exact ⟨congrArg Value.bool (by rw [Hid2.out Hform, ← Hid2.out hN0v]; simp [formC, *]), m2, rfl⟩)
          ·
            (go_wp2_with fail; go_meet; exact ⟨congrArg Value.bool (by rw [Hid2.out Hform, ← Hid2.out hN0v]; simp [formC, *]), m2, rfl⟩)
        · have : (s == 0) = false := beq_eq_false_iff_ne.2 c2
          (go_wp2_with fail; go_meet; exact ⟨congrArg Value.bool (by rw [Hid2.out Hform, ← Hid2.out hN0v]; simp [formC, *]), m2, rfl⟩)
      · have : (n / 2 == 0) = false := beq_eq_false_iff_ne.2 c3
        (go_wp2_with fail; go_meet; exact ⟨congrArg Value.bool (by rw [Hid2.out Hform, ← Hid2.out hN0v]; simp [formC, *]), m2, rfl⟩)
    have q2 : (k == 2) = false := beq_eq_false_iff_ne.2 k2
    by_cases k3 : k = 3
    · obtain rfl := k3
      by_cases c2 : s = 0
      · obtain rfl := c2
        cases P
        · (go_wp2_with fail; go_meet; exact ⟨congrArg Value.bool (by rw [Hid2.out Hform, ← Hid2.out hN0v]; simp [formC, *]), m2, rfl⟩)
        ·
          (go_wp2_with fail; go_meet; exact ⟨congrArg Value.bool (by rw [Hid2.out Hform, ← Hid2.out hN0v]; simp [formC, *]), m2, rfl⟩)
      · have : (s == 0) = false := beq_eq_false_iff_ne.2 c2
        (go_wp2_with fail; go_meet; exact ⟨congrArg Value.bool (by rw [Hid2.out Hform, ← Hid2.out hN0v]; simp [formC, *]), m2, rfl⟩)
    have q3 : (k == 3) = false := beq_eq_false_iff_ne.2 k3; exact absurd Hk.out (by omega)
  case rest =>
  obtain ⟨rfl, m3, rfl⟩ := hcut; clear Hform hBv hPv hEv hN0v hnn; cases F
  · have Hr := Hid2.mk (show R = 3 by rw [Hshp.out]; rfl)
    clear Hshp
    go_wp2_with fail
    go_ret
    exact ⟨by rw [Hr.out]; rfl, belowN HB.out _⟩
  by_cases d1 : 16384 < t.size
  · have d1' : (16384 : Int) < t.size := by omega
    have Hr := Hid2.mk (show R = 5 by rw [Hshp.out]; simp [d1]); clear Hshp
    go_wp2_with fail
    go_ret
    exact ⟨by rw [Hr.out]; rfl, belowN HB.out _⟩
  have d1' : decide ((16384 : Int) < t.size) = false := decide_eq_false (by omega)
  by_cases d2 : 200 < K
  · have d2' : (200 : Int) < K := by omega
    have Hr := Hid2.mk (show R = 5 by rw [Hshp.out]; simp [d2]); clear Hshp
    go_wp2_with fail
    go_ret
    exact ⟨by rw [Hr.out]; rfl, belowN HB.out _⟩
  have d2' : decide ((200 : Int) < K) = false := decide_eq_false (by omega)
  by_cases d3 : k = 9
  · have Hr := Hid2.mk (show R = if G = false then 3 else 0 by rw [Hshp.out]; simp [d1, d2, d3])
    clear Hshp; subst d3; exact absurd Hk.out (by omega)
  have d3' : (k == 9) = false := beq_eq_false_iff_ne.2 d3; have Hr := Hid2.mk (show R = 0 by rw [Hshp.out]; simp [d1, d2, d3]); clear Hshp
  go_wp2_with fail
  go_ret
  exact ⟨by rw [Hr.out]; rfl, belowN HB.out _⟩
end Vl
end Go.Proofs.Ytdkkaliiofcflaa

namespace Go.Proofs.Ytdkkaliiofcflaa
open Go.RowKit
namespace Vl

set_option maxRecDepth 100000 in
set_option maxHeartbeats 8000000 in
theorem shape_C {f : Nat} {w : World} {v : V} {cs : List Value} (h : IsV f w v cs) (hk : v.k = 4) :
    Calls Try.prog 87 #[.agg cs.toArray] w fun e w' => e = .returned (.int .i64 (shp v)) ∧ Below w.heap.size w w' := by
  obtain ⟨np, nc, kp, kc, hcs, hnn, ht, nl, nc2, kl, kc2⟩ := IsV.open h; have hform := formB_eq v; have hB : bareB v = (decide (v.n = 0) && decide (v.s = 0)) := rfl; have hP : plainB v = (decide (v.names.length = 0) && decide (v.kids.length = 0)) := rfl; have hE : noTextB v = decide (v.t.size = 0) := rfl; have hem := empty_iff v.t; have hshp : shp v = if formB v = false then 3 else if 16384 < v.t.size ∨ 200 < v.kids.length then 5 else if v.k = 9 ∧ fieldsB v = false then 3 else 0 := rfl
  rw [← hE] at hem; generalize formB v = F at hform hshp; generalize bareB v = B at hform hB; generalize plainB v = P at hform hP; generalize noTextB v = E at hform hE hem; generalize hG : fieldsB v = G at hshp; generalize shp v = R at hshp ⊢; generalize hN0 : decide (v.names.length = 0) = N0 at hform hP; generalize v.k = k at hk hcs hform hshp; generalize v.n = n at hcs hform hB hnn; generalize v.s = s at hcs hform hB; generalize v.t = t at hcs hE hem ht hshp; generalize v.names.length = N at hcs hN0 nl; generalize v.kids.length = K at hcs hP kl hshp; have hbel : Below w.heap.size w (w.alloc (.cells cs.toArray 60)) := (Below.refl _ w).alloc (Nat.le_refl _) _; have hR : VBlk 60 (w.alloc (.cells cs.toArray 60)) w.heap.size cs := VBlk.mk w _ _; have h1 := h.below hbel; have HF := Hid2.mk (fun m => fields_any (f := f) (v := v) (h1.below (belowN (Below.refl _ _) m))); rw [hG] at HF; have HR := Hid2.mk hR; have HB := Hid2.mk hbel; have Hshp := Hid2.mk hshp; have Hform := Hid2.mk hform; have hBv := Hid2.mk hB; have hPv := Hid2.mk hP; have hEv := Hid2.mk hE; have hN0v := Hid2.mk hN0; have c0 := hR.cell 0 (by subst hcs; simp); have c1 := hR.cell 1 (by subst hcs; simp); have c2 := hR.cell 2 (by subst hcs; simp); have c3 := hR.cell 3 (by subst hcs; simp); have c4 := hR.cell 4 (by subst hcs; simp); have c5 := hR.cell 5 (by subst hcs; simp); clear h hform hB hP hE hshp hG hbel hR h1 hN0; subst hcs; simp only [List.getD_cons_zero, List.getD_cons_succ] at c0 c1 c2 c3 c4 c5; have q1 : (k == 1) = false := beq_eq_false_iff_ne.2 (by omega); have q2 : (k == 2) = false := beq_eq_false_iff_ne.2 (by omega); have q3 : (k == 3) = false := beq_eq_false_iff_ne.2 (by omega); have Hk := Hid2.mk hk; clear hk
  go_enter Try.func87, Try.ntmps87
  go_upto_region 1 with fail
  generalize hw1 : World.alloc _ _ = w1 at c0 c1 c2 c3 c4 c5 HF HR HB ⊢
  go_cut [3] (fun b wx => b = .bool B ∧ ∃ m, wx = w1.drewN m)
  case first =>
    by_cases h0 : n = 0
    · obtain rfl := h0
      go_wp2_with fail
      go_meet
      exact ⟨congrArg Value.bool (by rw [hBv.out]; by_cases e : s = 0 <;> simp [e]), 0, rfl⟩
    · have h0' : (n == 0) = false := beq_eq_false_iff_ne.2 h0
      go_wp2_with fail
      go_meet
      exact ⟨congrArg Value.bool (by rw [hBv.out]; simp [h0]), 0, rfl⟩
  case rest =>
  obtain ⟨rfl, m1, rfl⟩ := hcut
  go_upto_region 2 with fail
  go_cut [4] (fun b wx => b = .bool P ∧ ∃ m, wx = w1.drewN m)
  case first =>
    by_cases h0 : N = 0
    · obtain rfl := h0
      go_wp2_with fail
      go_meet
      exact ⟨congrArg Value.bool (by rw [hPv.out, ← hN0v.out]; by_cases e : K = 0 <;> simp [e]), m1, rfl⟩
    · have h0' : ((N : Int) == 0) = false := beq_eq_false_iff_ne.2 (by omega)
      go_wp2_with fail
      go_meet
      exact ⟨congrArg Value.bool (by rw [hPv.out, ← hN0v.out]; simp [h0]), m1, rfl⟩
  case rest =>
  obtain ⟨rfl, m2, rfl⟩ := hcut
  go_upto_block 0 with fail
  go_cut [5] (fun b wx => b = .bool F ∧ ∃ m, wx = w1.drewN m)
  case first =>
    clear Hshp HF HR HB hBv hPv hEv hnn
    by_cases k4 : k = 4
    · obtain rfl := k4
      by_cases c4 : 1 ≤ s
      ·
        by_cases c3 : s ≤ 18
        ·
          by_cases c2 : n.tmod 10 = 0
          · have : (n.tmod 10 != 0) = false := by simp [c2]
            (go_wp2_with fail; go_meet; exact ⟨congrArg Value.bool (by rw [Hid2.out Hform, ← Hid2.out hN0v]; simp [formC, *]), m2, rfl⟩)
          · have : (n.tmod 10 != 0) = true := by simp [c2]
            cases P
            · (go_wp2_with fail; go_meet; exact ⟨congrArg Value.bool (by rw [Hid2.out Hform, ← Hid2.out hN0v]; simp [formC, *]), m2, rfl⟩)
            ·
              (go_wp2_with fail; go_meet; exact ⟨congrArg Value.bool (by rw [Hid2.out Hform, ← Hid2.out hN0v]; simp [formC, *]), m2, rfl⟩)
        · have : decide (s ≤ 18) = false := decide_eq_false c3
          (go_wp2_with fail; go_meet; exact ⟨congrArg Value.bool (by rw [Hid2.out Hform, ← Hid2.out hN0v]; simp [formC, *]), m2, rfl⟩)
      · have : decide (1 ≤ s) = false := decide_eq_false c4
        (go_wp2_with fail; go_meet; exact ⟨congrArg Value.bool (by rw [Hid2.out Hform, ← Hid2.out hN0v]; simp [formC, *]), m2, rfl⟩)
    have q4 : (k == 4) = false := beq_eq_false_iff_ne.2 k4; exact absurd Hk.out (by omega)
  case rest =>
  obtain ⟨rfl, m3, rfl⟩ := hcut; clear Hform hBv hPv hEv hN0v hnn; cases F
  · have Hr := Hid2.mk (show R = 3 by rw [Hshp.out]; rfl)
    clear Hshp
    go_wp2_with fail
    go_ret
    exact ⟨by rw [Hr.out]; rfl, belowN HB.out _⟩
  by_cases d1 : 16384 < t.size
  · have d1' : (16384 : Int) < t.size := by omega
    have Hr := Hid2.mk (show R = 5 by rw [Hshp.out]; simp [d1]); clear Hshp
    go_wp2_with fail
    go_ret
    exact ⟨by rw [Hr.out]; rfl, belowN HB.out _⟩
  have d1' : decide ((16384 : Int) < t.size) = false := decide_eq_false (by omega)
  by_cases d2 : 200 < K
  · have d2' : (200 : Int) < K := by omega
    have Hr := Hid2.mk (show R = 5 by rw [Hshp.out]; simp [d2]); clear Hshp
    go_wp2_with fail
    go_ret
    exact ⟨by rw [Hr.out]; rfl, belowN HB.out _⟩
  have d2' : decide ((200 : Int) < K) = false := decide_eq_false (by omega)
  by_cases d3 : k = 9
  · have Hr := Hid2.mk (show R = if G = false then 3 else 0 by rw [Hshp.out]; simp [d1, d2, d3])
    clear Hshp; subst d3; exact absurd Hk.out (by omega)
  have d3' : (k == 9) = false := beq_eq_false_iff_ne.2 d3; have Hr := Hid2.mk (show R = 0 by rw [Hshp.out]; simp [d1, d2, d3]); clear Hshp
  go_wp2_with fail
  go_ret
  exact ⟨by rw [Hr.out]; rfl, belowN HB.out _⟩
end Vl
end Go.Proofs.Ytdkkaliiofcflaa

namespace Go.Proofs.Ytdkkaliiofcflaa
open Go.RowKit
namespace Vl

set_option maxRecDepth 100000 in
set_option maxHeartbeats 8000000 in
theorem shape_D {f : Nat} {w : World} {v : V} {cs : List Value} (h : IsV f w v cs) (hk : v.k = 5) :
    Calls Try.prog 87 #[.agg cs.toArray] w fun e w' => e = .returned (.int .i64 (shp v)) ∧ Below w.heap.size w w' := by
  obtain ⟨np, nc, kp, kc, hcs, hnn, ht, nl, nc2, kl, kc2⟩ := IsV.open h; have hform := formB_eq v; have hB : bareB v = (decide (v.n = 0) && decide (v.s = 0)) := rfl; have hP : plainB v = (decide (v.names.length = 0) && decide (v.kids.length = 0)) := rfl; have hE : noTextB v = decide (v.t.size = 0) := rfl; have hem := empty_iff v.t; have hshp : shp v = if formB v = false then 3 else if 16384 < v.t.size ∨ 200 < v.kids.length then 5 else if v.k = 9 ∧ fieldsB v = false then 3 else 0 := rfl
  rw [← hE] at hem; generalize formB v = F at hform hshp; generalize bareB v = B at hform hB; generalize plainB v = P at hform hP; generalize noTextB v = E at hform hE hem; generalize hG : fieldsB v = G at hshp; generalize shp v = R at hshp ⊢; generalize hN0 : decide (v.names.length = 0) = N0 at hform hP; generalize v.k = k at hk hcs hform hshp; generalize v.n = n at hcs hform hB hnn; generalize v.s = s at hcs hform hB; generalize v.t = t at hcs hE hem ht hshp; generalize v.names.length = N at hcs hN0 nl; generalize v.kids.length = K at hcs hP kl hshp; have hbel : Below w.heap.size w (w.alloc (.cells cs.toArray 60)) := (Below.refl _ w).alloc (Nat.le_refl _) _; have hR : VBlk 60 (w.alloc (.cells cs.toArray 60)) w.heap.size cs := VBlk.mk w _ _; have h1 := h.below hbel; have HF := Hid2.mk (fun m => fields_any (f := f) (v := v) (h1.below (belowN (Below.refl _ _) m))); rw [hG] at HF; have HR := Hid2.mk hR; have HB := Hid2.mk hbel; have Hshp := Hid2.mk hshp; have Hform := Hid2.mk hform; have hBv := Hid2.mk hB; have hPv := Hid2.mk hP; have hEv := Hid2.mk hE; have hN0v := Hid2.mk hN0; have c0 := hR.cell 0 (by subst hcs; simp); have c1 := hR.cell 1 (by subst hcs; simp); have c2 := hR.cell 2 (by subst hcs; simp); have c3 := hR.cell 3 (by subst hcs; simp); have c4 := hR.cell 4 (by subst hcs; simp); have c5 := hR.cell 5 (by subst hcs; simp); clear h hform hB hP hE hshp hG hbel hR h1 hN0; subst hcs; simp only [List.getD_cons_zero, List.getD_cons_succ] at c0 c1 c2 c3 c4 c5; have q1 : (k == 1) = false := beq_eq_false_iff_ne.2 (by omega); have q2 : (k == 2) = false := beq_eq_false_iff_ne.2 (by omega); have q3 : (k == 3) = false := beq_eq_false_iff_ne.2 (by omega); have q4 : (k == 4) = false := beq_eq_false_iff_ne.2 (by omega); have Hk := Hid2.mk hk; clear hk
  go_enter Try.func87, Try.ntmps87
  go_upto_region 1 with fail
  generalize hw1 : World.alloc _ _ = w1 at c0 c1 c2 c3 c4 c5 HF HR HB ⊢
  go_cut [3] (fun b wx => b = .bool B ∧ ∃ m, wx = w1.drewN m)
  case first =>
    by_cases h0 : n = 0
    · obtain rfl := h0
      go_wp2_with fail
      go_meet
      exact ⟨congrArg Value.bool (by rw [hBv.out]; by_cases e : s = 0 <;> simp [e]), 0, rfl⟩
    · have h0' : (n == 0) = false := beq_eq_false_iff_ne.2 h0
      go_wp2_with fail
      go_meet
      exact ⟨congrArg Value.bool (by rw [hBv.out]; simp [h0]), 0, rfl⟩
  case rest =>
  obtain ⟨rfl, m1, rfl⟩ := hcut
  go_upto_region 2 with fail
  go_cut [4] (fun b wx => b = .bool P ∧ ∃ m, wx = w1.drewN m)
  case first =>
    by_cases h0 : N = 0
    · obtain rfl := h0
      go_wp2_with fail
      go_meet
      exact ⟨congrArg Value.bool (by rw [hPv.out, ← hN0v.out]; by_cases e : K = 0 <;> simp [e]), m1, rfl⟩
    · have h0' : ((N : Int) == 0) = false := beq_eq_false_iff_ne.2 (by omega)
      go_wp2_with fail
      go_meet
      exact ⟨congrArg Value.bool (by rw [hPv.out, ← hN0v.out]; simp [h0]), m1, rfl⟩
  case rest =>
  obtain ⟨rfl, m2, rfl⟩ := hcut
  go_upto_block 0 with fail
  go_cut [5] (fun b wx => b = .bool F ∧ ∃ m, wx = w1.drewN m)
  case first =>
    clear Hshp HF HR HB hBv hPv hEv hnn
    by_cases k5 : k = 5
    · obtain rfl := k5
      by_cases c4 : 0 ≤ n
      ·
        by_cases c3 : n ≤ 9007199254740992
        ·
          by_cases c2 : s = 0
          · obtain rfl := c2
            cases P
            · (go_wp2_with fail; go_meet; exact ⟨congrArg Value.bool (by rw [Hid2.out Hform, ← Hid2.out hN0v]; simp [formC, *]), m2, rfl⟩)
            ·
              (go_wp2_with fail; go_meet; exact ⟨congrArg Value.bool (by rw [Hid2.out Hform, ← Hid2.out hN0v]; simp [formC, *]), m2, rfl⟩)
          · have : (s == 0) = false := beq_eq_false_iff_ne.2 c2
            (go_wp2_with fail; go_meet; exact ⟨congrArg Value.bool (by rw [Hid2.out Hform, ← Hid2.out hN0v]; simp [formC, *]), m2, rfl⟩)
        · have : decide (n ≤ 9007199254740992) = false := decide_eq_false c3
          (go_wp2_with fail; go_meet; exact ⟨congrArg Value.bool (by rw [Hid2.out Hform, ← Hid2.out hN0v]; simp [formC, *]), m2, rfl⟩)
      · have : decide (0 ≤ n) = false := decide_eq_false c4
        (go_wp2_with fail; go_meet; exact ⟨congrArg Value.bool (by rw [Hid2.out Hform, ← Hid2.out hN0v]; simp [formC, *]), m2, rfl⟩)
    have q5 : (k == 5) = false := beq_eq_false_iff_ne.2 k5; exact absurd Hk.out (by omega)
  case rest =>
  obtain ⟨rfl, m3, rfl⟩ := hcut; clear Hform hBv hPv hEv hN0v hnn; cases F
  · have Hr := Hid2.mk (show R = 3 by rw [Hshp.out]; rfl)
    clear Hshp
    go_wp2_with fail
    go_ret
    exact ⟨by rw [Hr.out]; rfl, belowN HB.out _⟩
  by_cases d1 : 16384 < t.size
  · have d1' : (16384 : Int) < t.size := by omega
    have Hr := Hid2.mk (show R = 5 by rw [Hshp.out]; simp [d1]); clear Hshp
    go_wp2_with fail
    go_ret
    exact ⟨by rw [Hr.out]; rfl, belowN HB.out _⟩
  have d1' : decide ((16384 : Int) < t.size) = false := decide_eq_false (by omega)
  by_cases d2 : 200 < K
  · have d2' : (200 : Int) < K := by omega
    have Hr := Hid2.mk (show R = 5 by rw [Hshp.out]; simp [d2]); clear Hshp
    go_wp2_with fail
    go_ret
    exact ⟨by rw [Hr.out]; rfl, belowN HB.out _⟩
  have d2' : decide ((200 : Int) < K) = false := decide_eq_false (by omega)
  by_cases d3 : k = 9
  · have Hr := Hid2.mk (show R = if G = false then 3 else 0 by rw [Hshp.out]; simp [d1, d2, d3])
    clear Hshp; subst d3; exact absurd Hk.out (by omega)
  have d3' : (k == 9) = false := beq_eq_false_iff_ne.2 d3; have Hr := Hid2.mk (show R = 0 by rw [Hshp.out]; simp [d1, d2, d3]); clear Hshp
  go_wp2_with fail
  go_ret
  exact ⟨by rw [Hr.out]; rfl, belowN HB.out _⟩
end Vl
end Go.Proofs.Ytdkkaliiofcflaa

namespace Go.Proofs.Ytdkkaliiofcflaa
open Go.RowKit
namespace Vl

set_option maxRecDepth 100000 in
set_option maxHeartbeats 8000000 in
theorem shape_E {f : Nat} {w : World} {v : V} {cs : List Value} (h : IsV f w v cs) (hk : ¬ v.k = 1 ∧ ¬ v.k = 2 ∧ ¬ v.k = 3 ∧ ¬ v.k = 4 ∧ ¬ v.k = 5) :
    Calls Try.prog 87 #[.agg cs.toArray] w fun e w' => e = .returned (.int .i64 (shp v)) ∧ Below w.heap.size w w' := by
  obtain ⟨np, nc, kp, kc, hcs, hnn, ht, nl, nc2, kl, kc2⟩ := IsV.open h; have hform := formB_eq v; have hB : bareB v = (decide (v.n = 0) && decide (v.s = 0)) := rfl; have hP : plainB v = (decide (v.names.length = 0) && decide (v.kids.length = 0)) := rfl; have hE : noTextB v = decide (v.t.size = 0) := rfl; have hem := empty_iff v.t; have hshp : shp v = if formB v = false then 3 else if 16384 < v.t.size ∨ 200 < v.kids.length then 5 else if v.k = 9 ∧ fieldsB v = false then 3 else 0 := rfl
  rw [← hE] at hem; generalize formB v = F at hform hshp; generalize bareB v = B at hform hB; generalize plainB v = P at hform hP; generalize noTextB v = E at hform hE hem; generalize hG : fieldsB v = G at hshp; generalize shp v = R at hshp ⊢; generalize hN0 : decide (v.names.length = 0) = N0 at hform hP; generalize v.k = k at hk hcs hform hshp; generalize v.n = n at hcs hform hB hnn; generalize v.s = s at hcs hform hB; generalize v.t = t at hcs hE hem ht hshp; generalize v.names.length = N at hcs hN0 nl; generalize v.kids.length = K at hcs hP kl hshp; have hbel : Below w.heap.size w (w.alloc (.cells cs.toArray 60)) := (Below.refl _ w).alloc (Nat.le_refl _) _; have hR : VBlk 60 (w.alloc (.cells cs.toArray 60)) w.heap.size cs := VBlk.mk w _ _; have h1 := h.below hbel; have HF := Hid2.mk (fun m => fields_any (f := f) (v := v) (h1.below (belowN (Below.refl _ _) m))); rw [hG] at HF; have HR := Hid2.mk hR; have HB := Hid2.mk hbel; have Hshp := Hid2.mk hshp; have Hform := Hid2.mk hform; have hBv := Hid2.mk hB; have hPv := Hid2.mk hP; have hEv := Hid2.mk hE; have hN0v := Hid2.mk hN0; have c0 := hR.cell 0 (by subst hcs; simp); have c1 := hR.cell 1 (by subst hcs; simp); have c2 := hR.cell 2 (by subst hcs; simp); have c3 := hR.cell 3 (by subst hcs; simp); have c4 := hR.cell 4 (by subst hcs; simp); have c5 := hR.cell 5 (by subst hcs; simp); clear h hform hB hP hE hshp hG hbel hR h1 hN0; subst hcs; simp only [List.getD_cons_zero, List.getD_cons_succ] at c0 c1 c2 c3 c4 c5; have q1 : (k == 1) = false := beq_eq_false_iff_ne.2 (by omega); have q2 : (k == 2) = false := beq_eq_false_iff_ne.2 (by omega); have q3 : (k == 3) = false := beq_eq_false_iff_ne.2 (by omega); have q4 : (k == 4) = false := beq_eq_false_iff_ne.2 (by omega); have q5 : (k == 5) = false := beq_eq_false_iff_ne.2 (by omega); have Hk := Hid2.mk hk; clear hk
  go_enter Try.func87, Try.ntmps87
  go_upto_region 1 with fail
  generalize hw1 : World.alloc _ _ = w1 at c0 c1 c2 c3 c4 c5 HF HR HB ⊢
  go_cut [3] (fun b wx => b = .bool B ∧ ∃ m, wx = w1.drewN m)
  case first =>
    by_cases h0 : n = 0
    · obtain rfl := h0
      go_wp2_with fail
      go_meet
      exact ⟨congrArg Value.bool (by rw [hBv.out]; by_cases e : s = 0 <;> simp [e]), 0, rfl⟩
    · have h0' : (n == 0) = false := beq_eq_false_iff_ne.2 h0
      go_wp2_with fail
      go_meet
      exact ⟨congrArg Value.bool (by rw [hBv.out]; simp [h0]), 0, rfl⟩
  case rest =>
  obtain ⟨rfl, m1, rfl⟩ := hcut
  go_upto_region 2 with fail
  go_cut [4] (fun b wx => b = .bool P ∧ ∃ m, wx = w1.drewN m)
  case first =>
    by_cases h0 : N = 0
    · obtain rfl := h0
      go_wp2_with fail
      go_meet
      exact ⟨congrArg Value.bool (by rw [hPv.out, ← hN0v.out]; by_cases e : K = 0 <;> simp [e]), m1, rfl⟩
    · have h0' : ((N : Int) == 0) = false := beq_eq_false_iff_ne.2 (by omega)
      go_wp2_with fail
      go_meet
      exact ⟨congrArg Value.bool (by rw [hPv.out, ← hN0v.out]; simp [h0]), m1, rfl⟩
  case rest =>
  obtain ⟨rfl, m2, rfl⟩ := hcut
  go_upto_block 0 with fail
  go_cut [5] (fun b wx => b = .bool F ∧ ∃ m, wx = w1.drewN m)
  case first =>
    clear Hshp HF HR HB hBv hPv hEv hnn
    by_cases k6 : k = 6
    · obtain rfl := k6
      cases B
      · (go_wp2_with fail; go_meet; exact ⟨congrArg Value.bool (by rw [Hid2.out Hform, ← Hid2.out hN0v]; simp [formC, *]), m2, rfl⟩)
      ·
        (go_wp2_with fail; go_meet; exact ⟨congrArg Value.bool (by rw [Hid2.out Hform, ← Hid2.out hN0v]; simp [formC, *]), m2, rfl⟩)
    have q6 : (k == 6) = false := beq_eq_false_iff_ne.2 k6
    by_cases k7 : k = 7
    · obtain rfl := k7
      cases B
      · (go_wp2_with fail; go_meet; exact ⟨congrArg Value.bool (by rw [Hid2.out Hform, ← Hid2.out hN0v]; simp [formC, *]), m2, rfl⟩)
      ·
        (go_wp2_with fail; go_meet; exact ⟨congrArg Value.bool (by rw [Hid2.out Hform, ← Hid2.out hN0v]; simp [formC, *]), m2, rfl⟩)
    have q7 : (k == 7) = false := beq_eq_false_iff_ne.2 k7
    by_cases k8 : k = 8
    · obtain rfl := k8
      cases B
      · (go_wp2_with fail; go_meet; exact ⟨congrArg Value.bool (by rw [Hid2.out Hform, ← Hid2.out hN0v]; simp [formC, *]), m2, rfl⟩)
      ·
        by_cases c1 : N = 0
        · obtain rfl := c1
          (go_wp2_with fail; go_meet; exact ⟨congrArg Value.bool (by rw [Hid2.out Hform, ← Hid2.out hN0v]; simp [formC, *]), m2, rfl⟩)
        · have : ((N : Int) == 0) = false := beq_eq_false_iff_ne.2 (by omega)
          (go_wp2_with fail; go_meet; exact ⟨congrArg Value.bool (by rw [Hid2.out Hform, ← Hid2.out hN0v]; simp [formC, *]), m2, rfl⟩)
    have q8 : (k == 8) = false := beq_eq_false_iff_ne.2 k8
    by_cases k9 : k = 9
    · obtain rfl := k9
      cases B
      · (go_wp2_with fail; go_meet; exact ⟨congrArg Value.bool (by rw [Hid2.out Hform, ← Hid2.out hN0v]; simp [formC, *]), m2, rfl⟩)
      ·
        (go_wp2_with fail; go_meet; exact ⟨congrArg Value.bool (by rw [Hid2.out Hform, ← Hid2.out hN0v]; simp [formC, *]), m2, rfl⟩)
    have q9 : (k == 9) = false := beq_eq_false_iff_ne.2 k9
    go_wp2_with fail
    go_meet
    exact ⟨congrArg Value.bool (by rw [Hform.out]; have hk := Hk.out; simp [formC, k6, k7, k8, k9, hk.1, hk.2.1, hk.2.2.1, hk.2.2.2.1, hk.2.2.2.2]), m2, rfl⟩
  case rest =>
  obtain ⟨rfl, m3, rfl⟩ := hcut; clear Hform hBv hPv hEv hN0v hnn; cases F
  · have Hr := Hid2.mk (show R = 3 by rw [Hshp.out]; rfl)
    clear Hshp
    go_wp2_with fail
    go_ret
    exact ⟨by rw [Hr.out]; rfl, belowN HB.out _⟩
  by_cases d1 : 16384 < t.size
  · have d1' : (16384 : Int) < t.size := by omega
    have Hr := Hid2.mk (show R = 5 by rw [Hshp.out]; simp [d1]); clear Hshp
    go_wp2_with fail
    go_ret
    exact ⟨by rw [Hr.out]; rfl, belowN HB.out _⟩
  have d1' : decide ((16384 : Int) < t.size) = false := decide_eq_false (by omega)
  by_cases d2 : 200 < K
  · have d2' : (200 : Int) < K := by omega
    have Hr := Hid2.mk (show R = 5 by rw [Hshp.out]; simp [d2]); clear Hshp
    go_wp2_with fail
    go_ret
    exact ⟨by rw [Hr.out]; rfl, belowN HB.out _⟩
  have d2' : decide ((200 : Int) < K) = false := decide_eq_false (by omega)
  by_cases d3 : k = 9
  · have Hr := Hid2.mk (show R = if G = false then 3 else 0 by rw [Hshp.out]; simp [d1, d2, d3])
    clear Hshp; subst d3; cases G <;>
    (go_wp2_with (first | (refine Ld.load_on (by rfl) 60 (.tmp 1) rfl w.heap.size rfl 60 _ (0, 0) _ HR.out Try.underlying60 rfl infoValue ?_) | (go_fit (HF.out _); rintro e w' ⟨rfl, hbw⟩))
     go_ret
     exact ⟨by rw [Hr.out]; rfl, (belowN HB.out _).trans (hbw.mono HB.out.size)⟩)
  have d3' : (k == 9) = false := beq_eq_false_iff_ne.2 d3; have Hr := Hid2.mk (show R = 0 by rw [Hshp.out]; simp [d1, d2, d3]); clear Hshp
  go_wp2_with fail
  go_ret
  exact ⟨by rw [Hr.out]; rfl, belowN HB.out _⟩
end Vl
end Go.Proofs.Ytdkkaliiofcflaa

namespace Go.Proofs.Ytdkkaliiofcflaa
open Go.RowKit
namespace Vl

theorem shape_any {f : Nat} {w : World} {v : V} {cs : List Value} (h : IsV f w v cs) :
    Calls Try.prog 87 #[.agg cs.toArray] w fun e w' => e = .returned (.int .i64 (shp v)) ∧ Below w.heap.size w w' := by
  by_cases h1 : v.k = 1 ∨ v.k = 2 ∨ v.k = 3
  · exact shape_B h h1
  by_cases h4 : v.k = 4
  · exact shape_C h h4
  by_cases h5 : v.k = 5
  · exact shape_D h h5
  exact shape_E h ⟨fun e => h1 (.inl e), fun e => h1 (.inr (.inl e)), fun e => h1 (.inr (.inr e)), h4, h5⟩

theorem IsV.kids {f : Nat} {w : World} {v : V} {cs : List Value} (h : IsV (f + 1) w v cs) :
    ∃ sn kp kc, cs = [.int .i64 v.k, .int .i64 v.n, .int .i64 v.s, .string v.t, sn, .slice kp v.kids.length kc] ∧ v.kids.length ≤ kc ∧ kc ≤ 9223372036854775807 ∧
      (0 < v.kids.length → ∃ b o, kp = some ⟨b, o, none⟩ ∧ b < w.heap.size ∧ ∀ j, j < v.kids.length → ∃ c, c.length = 6 ∧ IsV f w (v.kids.getD j noV) c ∧ w.rangeAt b (o + j * 6) c) := by
  obtain ⟨sn, sk, rfl, -, -, -, -, -, ⟨kp, kc, rfl, kl, kc2, kr⟩⟩ := h; exact ⟨sn, kp, kc, rfl, kl, kc2, kr⟩

theorem IsV.ones {f : Nat} {w : World} {v : V} {cs : List Value} (h : IsV f w v cs) : cs.toArray.all (·.oneCell') = true := by
  obtain ⟨np, nc, kp, kc, rfl, -⟩ := IsV.open h; simp [Value.oneCell']
abbrev zero6 : List Value := [.int .i64 0, .int .i64 0, .int .i64 0, .string ByteArray.empty, .slice none 0 0, .slice none 0 0]

set_option maxRecDepth 100000 in
set_option maxHeartbeats 8000000 in
theorem check_any : ∀ {f : Nat} {w : World} {v : V} {cs : List Value} (m : Nat) (d : Int), IsV f w v cs → m ≤ 16 → d = 17 - (m : Int) →
    Calls Try.prog 77 #[.agg cs.toArray, .int .i64 d] w fun e w' => e = .returned (.int .i64 (chk m v)) ∧ Below w.heap.size w w'
  | 0, _, _, _, _, _, h, _, _ => h.elim
  | f + 1, w, v, cs, m, d, h, hm, hd => by
    have ih : ∀ {w : World} {v : V} {cs : List Value} (m : Nat) (d : Int), IsV f w v cs → m ≤ 16 → d = 17 - (m : Int) → Calls Try.prog 77 #[.agg cs.toArray, .int .i64 d] w fun e w' => e = .returned (.int .i64 (chk m v)) ∧ Below w.heap.size w w' := @check_any f; obtain ⟨sn, kp, kc, hcs, kl, kc2, kr⟩ := IsV.kids h; have hlen := h.len; have hbel : Below w.heap.size w (w.alloc (.cells cs.toArray 60)) := (Below.refl _ w).alloc (Nat.le_refl _) _; have hR : VBlk 60 (w.alloc (.cells cs.toArray 60)) w.heap.size cs := VBlk.mk w _ _; have h1 := h.below hbel; have HF := Hid2.mk (shape_any (f := f + 1) (v := v) h1); have HR := Hid2.mk hR; have HB := Hid2.mk hbel; have Hkr := Hid2.mk kr; have c5 := hR.cell 5 (by subst hcs; simp); have hinf : (Try.prog.info? 60).map (·.size) = some cs.toArray.size := by rw [infoValue]; simp [hlen]
    have Hih := Hid2.mk @ih; clear h hbel hR h1 kr ih; cases m with
    | zero =>
      have hd1 : 16 < d := by omega
      clear hd; clear hinf HF Hih; subst hcs; simp only [List.getD_cons_zero, List.getD_cons_succ] at c5
      go_enter Try.func77, Try.ntmps77
      go_wp2_with fail
      go_ret
      exact ⟨rfl, HB.out⟩
    | succ m =>
      have hd1 : d ≤ 16 := by omega
      have hd2 : 1 ≤ d := by omega
      have hd3 : d + 1 = 17 - (m : Int) := by omega
      have Hd3 := Hid2.mk hd3; have Hm := Hid2.mk (show m ≤ 16 by omega); have Hchk := Hid2.mk (show chk (m + 1) v = if shp v = 0 then firstBad (v.kids.map (chk m)) else shp v from rfl); have Hcl := Hid2.mk hcs; clear hd hm hd3; subst hcs; simp only [List.getD_cons_zero, List.getD_cons_succ] at c5; generalize hS : shp v = S at HF Hchk; generalize chk (m + 1) v = R at Hchk ⊢; clear hS
      by_cases h0 : S = 0
      · have Hr := Hid2.mk (show R = firstBad (v.kids.map (chk m)) by rw [Hchk.out, if_pos h0])
        clear Hchk; rw [h0] at HF; clear h0
        go_enter Try.func77, Try.ntmps77
        generalize hw1 : World.alloc _ _ = w1 at c5 HF HR HB ⊢
        go_wp2_with (first | (refine Ld.load_on (by rfl) 60 (.tmp 2) rfl w.heap.size rfl 60 _ (0, 0) _ HR.out Try.underlying60 rfl hinf ?_) | (go_fit HF.out; rintro e w' ⟨rfl, hbw⟩; have c5' := (hbw.cell (p := ⟨w.heap.size, 5, none⟩) (VBlk.lt HR.out)).trans c5))
        have Hbw := Hid2.mk (HB.out.trans (hbw.mono HB.out.size)); have Hkr1 := Hid2.mk (fun h0 => Hkr.out h0); clear hbw c5 c5' HR hinf
        go_loopw [19] (fun i wr => ∃ k : Nat, k ≤ v.kids.length ∧ i = .int .i64 (k : Nat) ∧ Below w.heap.size w wr ∧ ∀ j, j < k → chk m (v.kids.getD j noV) = 0) (fun i _ => v.kids.length - (intOf i).toNat)
        case atStart => exact ⟨0, Nat.zero_le _, rfl, Hbw.out, fun j hj => absurd hj (by omega)⟩
        case round =>
          clear Hbw; obtain ⟨k, hk, rfl, hbr, hall⟩ := hrel; have Hbr := Hid2.mk hbr; have Hall := Hid2.mk hall; clear hbr hall
          by_cases hkN : k < v.kids.length
          · have hkz : (k : Int) < (v.kids.length : Int) := by omega
            obtain ⟨b, o, rfl, hb, hr⟩ := Hkr.out (by omega); obtain ⟨c, hc6, hci, hcr⟩ := hr k hkN; have Hc1 := Hid2.mk (show wr.rangeAt b (o + k * 6) c from fun i u hu => by rw [Hbr.out.cell (p := ⟨b, o + k * 6 + i, none⟩) hb]; exact hcr i u hu); have Hci := Hid2.mk hci; have hic : (Try.prog.info? 60).map (·.size) = some c.length := by rw [infoValue, hc6]
            have hone := IsV.ones hci; have hinf2 : (Try.prog.info? 60).map (·.size) = some c.toArray.size := by rw [infoValue]; simp [hc6]
            have hZ : VBlk 60 (wr.alloc (.cells zero6.toArray 60)) wr.heap.size zero6 := VBlk.mk wr _ _; have hZ2 : VBlk 60 ((wr.alloc (.cells zero6.toArray 60)).setRow wr.heap.size c.toArray) wr.heap.size c := hZ.setRow c; have hbz : Below w.heap.size w ((wr.alloc (.cells zero6.toArray 60)).setRow wr.heap.size c.toArray) := below_setRow (Hbr.out.alloc Hbr.out.size _) Hbr.out.size _; have Hca := Hid2.mk (Hih.out m (d + 1) (hci.below hbz) Hm.out Hd3.out); have HZ := Hid2.mk hZ; have HZ2 := Hid2.mk hZ2; have Hbz := Hid2.mk hbz; have Hck := Hid2.mk (show (v.kids.map (chk m)).getD k 0 = chk m (v.kids.getD k noV) from chk_map m v.kids k hkN); generalize hx : chk m (v.kids.getD k noV) = x at Hca Hck; have Hx := Hid2.mk hx; clear hr hcr hci Hkr Hkr1 hZ hZ2 hbz hx
            by_cases hx0 : x = 0
            · obtain rfl := hx0
              go_wp2_with (first | (refine wpList_load_mid rfl 60 (.tmp 21) rfl b (o + k * 6) rfl c _ Hc1.out Try.underlying60 rfl hic ?_) | (refine wpList_store_row rfl 60 (.tmp 7) (.tmp 22) rfl wr.heap.size c.toArray rfl rfl 60 zero6.toArray HZ.out hinf2 (by simp [hc6]) hone ?_) | (refine Ld.load_on (by rfl) 60 (.tmp 7) rfl wr.heap.size rfl 60 _ (0, 0) _ HZ2.out Try.underlying60 rfl hinf2 ?_) | (go_fit Hca.out; rintro e w' ⟨rfl, hbw⟩))
              refine ⟨⟨k + 1, by omega, rfl, Hbz.out.trans (hbw.mono Hbz.out.size), fun j hj => (Nat.lt_succ_iff_lt_or_eq.1 hj).elim (Hall.out j) (fun e => by rw [e]; exact Hx.out)⟩, ?_⟩
              show v.kids.length - ((k : Int) + 1).toNat < v.kids.length - (k : Int).toNat
              omega
            · have hx0' : (x == 0) = false := beq_eq_false_iff_ne.2 hx0
              go_wp2_with (first | (refine wpList_load_mid rfl 60 (.tmp 21) rfl b (o + k * 6) rfl c _ Hc1.out Try.underlying60 rfl hic ?_) | (refine wpList_store_row rfl 60 (.tmp 7) (.tmp 22) rfl wr.heap.size c.toArray rfl rfl 60 zero6.toArray HZ.out hinf2 (by simp [hc6]) hone ?_) | (refine Ld.load_on (by rfl) 60 (.tmp 7) rfl wr.heap.size rfl 60 _ (0, 0) _ HZ2.out Try.underlying60 rfl hinf2 ?_) | (go_fit Hca.out; rintro e w' ⟨rfl, hbw⟩))
              go_ret
              refine ⟨?_, Hbz.out.trans (hbw.mono Hbz.out.size)⟩; rw [Hr.out, firstBad_take (i := k) (by rw [List.length_map]; exact hkN) (fun j hj => by rw [chk_map m v.kids j (by omega)]; exact Hall.out j hj) (by rw [Hck.out]; exact hx0), Hck.out]
              rfl
          · obtain rfl : k = v.kids.length := by omega
            have hkz : (v.kids.length : Int) ≤ (v.kids.length : Int) := by omega
            have Hr2 := Hid2.mk (show R = 0 by rw [Hr.out]; exact firstBad_all fun j hj => by rw [List.length_map] at hj; rw [chk_map m v.kids j hj]; exact Hall.out j hj)
            go_wp2_with fail
            go_ret
            exact ⟨by rw [Hr2.out]; rfl, Hbr.out⟩
      · have Hr := Hid2.mk (show R = S by rw [Hchk.out, if_neg h0])
        have h0' : (S == 0) = false := beq_eq_false_iff_ne.2 h0
        go_enter Try.func77, Try.ntmps77
        go_wp2_with (first | (refine Ld.load_on (by rfl) 60 (.tmp 2) rfl w.heap.size rfl 60 _ (0, 0) _ HR.out Try.underlying60 rfl hinf ?_) | (go_fit HF.out; rintro e w' ⟨rfl, hbw⟩))
        go_ret
        exact ⟨by rw [Hr.out]; rfl, HB.out.trans (hbw.mono HB.out.size)⟩

set_option maxHeartbeats 800000 in
theorem Check_any {f : Nat} {w : World} {v : V} {cs : List Value} (h : IsV f w v cs) :
    Calls Try.prog 64 #[.agg cs.toArray] w fun e w' => e = .returned (.int .i64 (chk 16 v)) ∧ Below w.heap.size w w' := by
  have hlen := h.len; have hbel : Below w.heap.size w (w.alloc (.cells cs.toArray 60)) := (Below.refl _ w).alloc (Nat.le_refl _) _; have hR : VBlk 60 (w.alloc (.cells cs.toArray 60)) w.heap.size cs := VBlk.mk w _ _; have HF := Hid2.mk (check_any (f := f) (v := v) 16 1 (h.below hbel) (by omega) (by omega)); have HR := Hid2.mk hR; have HB := Hid2.mk hbel; have hinf : (Try.prog.info? 60).map (·.size) = some cs.toArray.size := by rw [infoValue]; simp [hlen]
  clear h hbel hR hlen
  go_enter Try.func64, Try.ntmps64
  go_wp2_with (first | (refine Ld.load_on (by rfl) 60 (.tmp 1) rfl w.heap.size rfl 60 _ (0, 0) _ HR.out Try.underlying60 rfl hinf ?_) | (go_fit HF.out; rintro e w' ⟨rfl, hbw⟩))
  go_ret
  exact ⟨rfl, HB.out.trans (hbw.mono HB.out.size)⟩
end Vl
end Go.Proofs.Ytdkkaliiofcflaa

namespace Go.Proofs.Ytdkkaliiofcflaa
open Go.RowKit
namespace K
section
variable {n : Nat} {l : Env} {w : World} {fn : Func} {R : Ending → World → Prop}
theorem WQ.retCT {kn : Nat} {md : Option (Option Nat)} {p q g T m : Nat} {ty' : TypeId} {cs : List Value} {x : Value} (hr : fn.results = #[.cell p ty', .tmp q]) (hl : look l p = some (.pointer (some ⟨g, 0, none⟩))) (hq : look l q = some x) (ht : cellsN (tyOf ty ty') = some m) (hm : cs.length = m) (hb : VBlk T w g cs)
    (h : R (.returned (.tuple #[.agg cs.toArray, x])) w) : WQ ⟨kn, [], md⟩ (bodyPost Try.prog fn R) .ret l w :=
  ⟨fun a ha => ⟨ha.defers, _, by
    obtain ⟨_, hu, hdd, hsz⟩ := cellsN_ok tyOk ht; have hp := ha.getD hl; have hx := ha.getD hq; simp only [Array.getD_eq_getD_getElem?] at hp hx; have := run_loadVar_mid (P := Try.prog) w g 0 ty' cs _ (VBlk.rangeAt hb) hu hdd (by rw [hsz, hm]); simp [results, hr, hp, hx, asAddr, this], h⟩⟩
theorem WQ.retCTT {kn : Nat} {md : Option (Option Nat)} {p q q2 g T m : Nat} {ty' : TypeId} {cs : List Value} {x x2 : Value} (hr : fn.results = #[.cell p ty', .tmp q, .tmp q2]) (hl : look l p = some (.pointer (some ⟨g, 0, none⟩))) (hq : look l q = some x) (hq2 : look l q2 = some x2) (ht : cellsN (tyOf ty ty') = some m) (hm : cs.length = m) (hb : VBlk T w g cs)
    (h : R (.returned (.tuple #[.agg cs.toArray, x, x2])) w) : WQ ⟨kn, [], md⟩ (bodyPost Try.prog fn R) .ret l w :=
  ⟨fun a ha => ⟨ha.defers, _, by
    obtain ⟨_, hu, hdd, hsz⟩ := cellsN_ok tyOk ht; have hp := ha.getD hl; have hx := ha.getD hq; have hx2 := ha.getD hq2; simp only [Array.getD_eq_getD_getElem?] at hp hx hx2; have := run_loadVar_mid (P := Try.prog) w g 0 ty' cs _ (VBlk.rangeAt hb) hu hdd (by rw [hsz, hm]); simp [results, hr, hp, hx, hx2, asAddr, this], h⟩⟩
end
section
variable {n : NN} {Q : Exit → Act → World → Prop} {l : Env} {w : World} {ops : Array Oper} {d : Nat} {S : World → Prop} {m fuel : Nat} {listed : Array Bool}
theorem WD.build {oi : Oper} {t : Nat} {parts : List (Nat × Operand)} {ps : List (Nat × Value)} (cells : List Value) (i : Nat) (hi : ops[i]? = some oi) (hs : mayB ops listed i m = true) (hd : oi.dst = some d) (hn : Nat.blt d n.n = true)
    (hQ : Passes Q) (hw : wants ops l oi = some true) (ho : oi.op = .build t parts.toArray) (hp : evlParts l parts = some ps) (hf : Try.prog.built t ps = some cells.toArray) (hS : listed.getD m false = true ∨ S w)
    (h : WD n ops Q S m fuel (listed.setIfInBounds i true) ((d, .agg cells.toArray) :: l) w) : WD n ops Q S m (fuel + 1) listed l w :=
  WD.first i hi hs hd hn hQ (fun a ha => .inl ⟨wants_run ha hw, fun w _ => by
    unfold execOp; rw [ho]; have := run_build (P := Try.prog) w t (parts.toArray.map fun (i, x) => (i, a.eval x)) cells.toArray (by
      rw [show (parts.toArray.map fun (x : Nat × Operand) => (x.1, a.eval x.2)).toList = ps by rw [Array.toList_map]; exact evlParts_map ha hp]; exact hf)
    simp only [Sem.run_bind, this, Result.andThen_ok]
    rfl⟩) hS h
end

def zV : V := .mk 0 0 0 noT [] []
def zCells : List Value := [.int .i64 0, .int .i64 0, .int .i64 0, .string ByteArray.empty, .slice none 0 0, .slice none 0 0]
theorem zV_is (O : Nat → Prop) (f : Nat) (w : World) : IsVo O (f + 1) w zV zCells := isVo_leaf (k := 0) (n := 0) (s := 0) (t := noT) (by omega) (by omega) (by omega) (by decide)
def readV (en : Bool) (l : List Int) : Rd V := match rdV 16 l with
  | .bad e => .bad e
  | .ok v r => if chk 16 v ≠ 0 then .bad (chk 16 v) else if en = true ∧ 0 < r.length then .bad 3 else if 65536 < l.length - r.length then .bad 5 else .ok v r
def ReadPost (en : Bool) (w : World) (l : List Int) (r : Ending) (w' : World) : Prop :=
  Below w.heap.size w w' ∧ ∃ (x : V) (cs : List Value) (n : Nat) (e : Int), r = .returned (.tuple #[.agg cs.toArray, .int .i64 n, .int .i64 e]) ∧ IsVo (fun b => w.heap.size ≤ b) 17 w' x cs ∧
    match readV en l with
    | .ok y q => x = y ∧ n = l.length - q.length ∧ e = 0
    | .bad z => x = zV ∧ n = 0 ∧ e = z ∧ z ≠ 0

structure RdSt (w0 : World) (vb rb xb : Nat) (l3 : List Int) (x : V) (cs : List Value) (e : Int) (wx : World) : Prop where
  rs : RS (rb + 1) wx rb l3 e
  vblk : VBlk 60 wx vb zCells
  xblk : VBlk 60 wx xb cs
  val : IsVo (fun b => w0.heap.size ≤ b ∧ b ≠ rb ∧ b ≠ vb) 17 wx x cs
  below : Below w0.heap.size w0 wx
  ne : vb ≠ rb ∧ xb ≠ rb ∧ w0.heap.size ≤ rb ∧ w0.heap.size ≤ vb
section
variable {w0 wx wy : World} {vb rb xb : Nat} {l3 : List Int} {x : V} {cs : List Value} {e e' : Int}
theorem RdSt.fail (h : RdSt w0 vb rb xb l3 x cs e wx) (hr : RS (rb + 1) wy rb l3 e') (hk : KeepR rb wx wy) : RdSt w0 vb rb xb l3 x cs e' wy := by
  have hb := h.below.size; have hne := h.ne; exact ⟨hr, h.vblk.keep hk ⟨h.vblk.lt, hne.1⟩, h.xblk.keep hk ⟨h.xblk.lt, hne.2.1⟩, h.val.keep hk (fun b hb hlt => ⟨hlt, hb.2.1⟩) fun b hb => hb, h.below.trans (Keep.below (Keep.mono hk fun b (hb : b < w0.heap.size) => ⟨by omega, by omega⟩)), hne⟩
theorem RdSt.step (h : RdSt w0 vb rb xb l3 x cs e wx) (hk : Below wx.heap.size wx wy) : RdSt w0 vb rb xb l3 x cs e wy := by
  obtain ⟨sp, cap, h1, h2⟩ := h.rs.ex; exact h.fail (h.rs.keep (Keep.of_below hk) fun b hb => by have := h1.lt; omega) (KeepR.below hk)
end

set_option maxHeartbeats 4000000 in
theorem read_any {w : World} {v : Value} {l : List Int} (en : Bool) (hs : Sl .u8 w v l) (hb : Byt l) (hl : l.length ≤ 140737488355328) :
    Calls Try.prog 73 #[v, .bool en] w (ReadPost en w l) := by
  refine enter (args := [v, .bool en]) Try.func73 rfl Try.ntmps73 rfl ?_; have hs0 := SlB.of_sl hs; obtain ⟨sp, cap, rfl, -⟩ := hs; refine K.kgo ?_; refine WL.alloc (z := .agg zCells.toArray) rfl rfl rfl rfl (fun _ => by kernel_rfl) fun vb w1 hf1 => ?_; have hf1' : Fresh w vb w1 60 zCells := hf1; clear hf1; refine K.kgo ?_; refine WL.build [.slice sp l.length cap, .int .i64 0] rfl rfl rfl rfl rfl (by kernel_rfl) ?_; refine WL.box rfl rfl rfl rfl rfl fun rb w2 hf2 => ?_; have hf2' : Fresh w1 rb w2 135 [.slice sp l.length cap, .int .i64 0] := hf2; clear hf2; have hz1 := hf1'.size; have hz2 := hf2'.size; have hvb := hf1'.eq; have hrb := hf2'.eq; have hw12 : Below w.heap.size w w2 := hf1'.below.trans (hf2'.below.mono (by omega)); have hr2 : RS (rb + 1) w2 rb l 0 := ⟨Nat.lt_succ_self _, hb, sp, cap, hf2'.blk, (hs0.keep (Keep.of_below hw12) fun b hb => hb).mono fun b hb => by omega⟩; have hblk2 : VBlk 60 w2 vb zCells := hf1'.blk.below hf2'.below hf1'.blk.lt; clear hf1' hf2'; refine K.kgo ?_; refine WL.call rfl rfl rfl rfl rfl Try.func81 rfl (by kernel_rfl) (value_any 16 1 rfl (by omega) hr2 (by omega)) ?_; rintro _ w3 ⟨x, cs, l3, e3, rfl, hv3, hr3, hk3, ho3⟩; refine ⟨_, rfl, ?_⟩; have hblk3 := hblk2.keep hk3 ⟨hblk2.lt, by omega⟩; refine WL.alloc (z := .agg zCells.toArray) rfl rfl rfl rfl (fun _ => by kernel_rfl) fun xb w4 hf4 => ?_; have hf4' : Fresh w3 xb w4 60 zCells := hf4; clear hf4; have hcs := hv3.len; refine WL.storeRow rfl rfl rfl rfl rfl rfl hf4'.blk hcs rfl hv3.one ?_; have hz3 := hk3.size; have hxb := hf4'.eq; have hz4 := hf4'.size; have hb4 : Below w3.heap.size w3 (w4.setRow xb cs.toArray) := below_setRow hf4'.below (by omega) _; have hx4 : VBlk 60 (w4.setRow xb cs.toArray) xb cs := hf4'.blk.setRow cs; have hz5 : (w4.setRow xb cs.toArray).heap.size = w3.heap.size + 1 := by simpa using hz4
  generalize w4.setRow xb cs.toArray = w5 at hb4 hx4 hz5; have hv5 : IsVo (fun b => w.heap.size ≤ b ∧ b ≠ rb ∧ b ≠ vb) 17 w5 x cs := (hv3.there.keep (Keep.of_below hb4) (fun b _ h => h) fun b hb => hb).mono fun b hb => by have := hb.1; omega
  have hr5 : RS (rb + 1) w5 rb l3 e3 := hr3.keep (Keep.of_below hb4) fun b hb => by omega
  have hblk5 : VBlk 60 w5 vb zCells := hblk3.below hb4 hblk3.lt; have hw5 : Below w.heap.size w w5 := by
    refine hw12.trans (Below.trans (Keep.below (Keep.mono hk3 fun b (hb : b < w.heap.size) => ⟨by omega, by omega⟩)) (hb4.mono (by omega)))
  have hne : vb ≠ rb ∧ xb ≠ rb ∧ w.heap.size ≤ rb ∧ w.heap.size ≤ vb := by omega
  have hst : RdSt w vb rb xb l3 x cs e3 w5 := ⟨hr5, hblk5, hx4, hv5, hw5, hne⟩; obtain ⟨rsp, rcap, hrc, -⟩ := hr5.ex; have hlen := ho3.len; clear hf4' hv3 hk3 hr3 hr5 hblk5 hx4 hv5 hw5 hblk3 hb4 hz5 hr2 hblk2 hw12 hs0; refine K.kgo ?_; refine WL.load rfl rfl rfl rfl rfl rfl (hrc.cell 1 (by simp)) ?_; refine K.kgo ?_; refine WC.mid (fun _ : Int => [(0, .slice sp l.length cap), (1, .bool en), (4, .pointer (some ⟨vb, 0, none⟩)), (7, .pointer (some ⟨rb, 0, none⟩)), (8, .pointer (some ⟨xb, 0, none⟩))]) (fun e4 wx => e4 = (if e3 = 0 then chk 16 x else e3) ∧ RdSt w vb rb xb l3 x cs e4 wx) rfl ?_ ?_
  · by_cases he : e3 = 0
    · refine WC.condT rfl he ?_
      refine K.kgo ?_; refine WL.loadMid rfl rfl rfl rfl rfl rfl (VBlk.rangeAt hst.xblk) hcs ?_; refine WL.call rfl rfl rfl rfl rfl Try.func64 rfl (by kernel_rfl) (Vl.Check_any hst.val.isV) ?_; rintro _ w6 ⟨rfl, hb6⟩; refine ⟨_, rfl, ?_⟩; have hst6 := hst.step hb6; refine WL.call rfl rfl rfl rfl rfl Try.func82 rfl (by kernel_rfl) (fail_any hst6.rs _) ?_; rintro _ w7 ⟨rfl, hr7, hk7⟩; refine ⟨_, rfl, ?_⟩; refine K.kgo ?_; rw [if_pos he] at hr7; exact WQ.meet _ ⟨rfl, rfl, rfl, rfl, rfl, trivial⟩ ⟨by rw [if_pos he], hst6.fail hr7 hk7⟩
    · refine WC.condF rfl he ?_
      refine K.kgo ?_; exact WQ.meet _ ⟨rfl, rfl, rfl, rfl, rfl, trivial⟩ ⟨by rw [if_neg he], hst⟩
  rintro e4 w6 ⟨he4, hst6⟩; clear hrc hst; obtain ⟨rsp, rcap, hrc, -⟩ := hst6.rs.ex; refine K.kgn ?_; refine WL.mid (fun b : Bool => [(0, .slice sp l.length cap), (4, .pointer (some ⟨vb, 0, none⟩)), (7, .pointer (some ⟨rb, 0, none⟩)), (8, .pointer (some ⟨xb, 0, none⟩)), (32, .bool b)]) (fun b wx => b = decide (en = true ∧ 0 < l3.length) ∧ wx = w6) rfl ?_ ?_
  · cases en with
    | true =>
      refine K.kgo ?_; refine WL.load rfl rfl rfl rfl rfl rfl (hrc.cell 0 (by simp)) ?_
      by_cases h0 : 0 < l3.length
      · refine K.kgo ?_
        exact WQ.meet true ⟨rfl, rfl, rfl, rfl, rfl, trivial⟩ ⟨by simp [h0], rfl⟩
      · refine K.kgo ?_
        exact WQ.meet false ⟨rfl, rfl, rfl, rfl, rfl, trivial⟩ ⟨by simp [h0], rfl⟩
    | false =>
      refine K.kgo ?_; exact WQ.meet false ⟨rfl, rfl, rfl, rfl, rfl, trivial⟩ ⟨by simp, rfl⟩
  rintro b _ ⟨hb5, rfl⟩; refine WC.mid (fun _ : Int => [(0, .slice sp l.length cap), (4, .pointer (some ⟨vb, 0, none⟩)), (7, .pointer (some ⟨rb, 0, none⟩)), (8, .pointer (some ⟨xb, 0, none⟩))]) (fun e5 wx => e5 = (if e4 = 0 then (if en = true ∧ 0 < l3.length then 3 else 0) else e4) ∧ RdSt w vb rb xb l3 x cs e5 wx) rfl ?_ ?_
  · cases b with
    | true =>
      refine K.kgo ?_; refine WL.call rfl rfl rfl rfl rfl Try.func82 rfl (by kernel_rfl) (fail_any hst6.rs 3) ?_; rintro _ w7 ⟨rfl, hr7, hk7⟩; refine ⟨_, rfl, ?_⟩; refine K.kgo ?_; refine WQ.meet _ ⟨rfl, rfl, rfl, rfl, trivial⟩ ⟨?_, hst6.fail hr7 hk7⟩; rw [if_pos (of_decide_eq_true hb5.symm)]
    | false =>
      refine K.kgo ?_; refine WQ.meet e4 ⟨rfl, rfl, rfl, rfl, trivial⟩ ⟨?_, hst6⟩; rw [if_neg (of_decide_eq_false hb5.symm)]
      split <;> omega
  rintro e5 w7 ⟨he5, hst7⟩; clear hrc hst6 hb5; obtain ⟨rsp, rcap, hrc, -⟩ := hst7.rs.ex; refine K.kgo ?_; refine WL.load rfl rfl rfl rfl rfl rfl (hrc.cell 0 (by simp)) ?_; refine K.kgo ?_; refine WC.mid (fun _ : Int => [(9, .int .i64 ((l.length : Int) - (l3.length : Int))), (0, .slice sp l.length cap), (4, .pointer (some ⟨vb, 0, none⟩)), (7, .pointer (some ⟨rb, 0, none⟩)), (8, .pointer (some ⟨xb, 0, none⟩))]) (fun e6 wx => e6 = (if e5 = 0 then (if 65536 < l.length - l3.length then 5 else 0) else e5) ∧ RdSt w vb rb xb l3 x cs e6 wx) rfl ?_ ?_
  · by_cases hbig : 65536 < l.length - l3.length
    · refine WC.condT rfl (by omega) ?_
      refine K.kgo ?_; refine WL.call rfl rfl rfl rfl rfl Try.func82 rfl (by kernel_rfl) (fail_any hst7.rs 5) ?_; rintro _ w8 ⟨rfl, hr8, hk8⟩; refine ⟨_, rfl, ?_⟩; refine K.kgo ?_; refine WQ.meet _ ⟨rfl, rfl, rfl, rfl, rfl, trivial⟩ ⟨?_, hst7.fail hr8 hk8⟩; rw [if_pos hbig]
    · refine WC.condF rfl (by omega) ?_
      refine K.kgo ?_; refine WQ.meet e5 ⟨rfl, rfl, rfl, rfl, rfl, trivial⟩ ⟨?_, hst7⟩; rw [if_neg hbig]
      split <;> omega
  rintro e6 w8 ⟨he6, hst8⟩; clear hrc hst7; obtain ⟨rsp, rcap, hrc, -⟩ := hst8.rs.ex
  -- what read tells
  have hout : match readV en l with
      | .ok y q => e6 = 0 ∧ x = y ∧ l3 = q
      | .bad z => e6 = z ∧ z ≠ 0 := by
    have h3 := ho3.ok rfl; unfold readV; cases hq : rdV 16 l with
    | bad z =>
      rw [hq] at h3; obtain ⟨rfl, hz⟩ := h3; rw [if_neg hz] at he4; subst he4; rw [if_neg hz] at he5; subst he5; rw [if_neg hz] at he6; subst he6; exact ⟨rfl, hz⟩
    | ok y q =>
      rw [hq] at h3; obtain ⟨rfl, rfl, rfl⟩ := h3; rw [if_pos rfl] at he4; simp only
      by_cases hc : chk 16 x = 0
      · rw [if_neg (by simpa using hc)]
        rw [he4, if_pos hc] at he5
        by_cases h1 : en = true ∧ 0 < l3.length
        · rw [if_pos h1] at he5 ⊢
          rw [he5] at he6; simp at he6
          exact ⟨he6, by omega⟩
        · rw [if_neg h1] at he5 ⊢
          rw [he5, if_pos rfl] at he6
          by_cases h2 : 65536 < l.length - l3.length
          · rw [if_pos h2] at he6 ⊢
            exact ⟨he6, by omega⟩
          · rw [if_neg h2] at he6 ⊢
            exact ⟨he6, rfl, rfl⟩
      · rw [if_pos hc]
        rw [he4, if_neg hc] at he5; rw [he5, if_neg hc] at he6; exact ⟨he6, hc⟩
  refine K.kgo ?_; refine WL.load rfl rfl rfl rfl rfl rfl (hrc.cell 1 (by simp)) ?_
  by_cases h6 : e6 = 0
  · refine K.kgo ?_
    refine WL.loadMid rfl rfl rfl rfl rfl rfl (VBlk.rangeAt hst8.xblk) hcs ?_; refine K.kgo ?_; refine WL.storeRow rfl rfl rfl rfl rfl rfl hst8.vblk hcs rfl hst8.val.one ?_; refine K.kgo ?_; have hset : Keep (fun b => b ≠ vb) w8 (w8.setRow vb cs.toArray) := Keep.setRow (Keep.refl _ w8) (fun hk => hk rfl) _; refine WQ.retCTT rfl rfl rfl rfl rfl hcs (hst8.vblk.setRow cs) ⟨Keep.below (Keep.setRow (Keep.of_below hst8.below) (fun hk => by omega) _), x, cs, l.length - l3.length, 0, ?_, (hst8.val.keep hset (fun b hb _ => hb.2.2) fun b hb => hb.1), ?_⟩
    · rw [show ((l.length - l3.length : Nat) : Int) = (l.length : Int) - (l3.length : Int) by omega]
    · cases hq : readV en l with
      | ok y q => rw [hq] at hout; obtain ⟨-, rfl, rfl⟩ := hout; exact ⟨rfl, rfl, rfl⟩
      | bad z => rw [hq] at hout; exact absurd (hout.1.symm.trans h6) hout.2
  · refine K.kgo ?_
    refine WC.drawn 7 (fun wx => VBlk 135 wx rb [.slice rsp l3.length rcap, .int .i64 e6]) fun w9 hd9 => ?_; have hst9 := hst8.step (hd9.below _); have hS : VBlk 135 w9 rb [.slice rsp l3.length rcap, .int .i64 e6] := hrc.below (hd9.below _) hrc.lt; refine WD.build zCells 0 rfl (by kernel_rfl) rfl rfl (fun _ _ _ _ _ h => h) rfl rfl rfl (by kernel_rfl) (.inr hS) ?_; refine K.fr [1, 2, 3] hS ?_; refine K.wl 4 [7] rfl rfl rfl rfl rfl rfl rfl (fun wx hx => hx.cell 1 (by simp)) hS ?_; refine K.wo 5 ?_; refine WL.storeRow rfl rfl rfl rfl rfl rfl hst9.vblk rfl rfl (zV_is (fun _ => True) 0 w9).one ?_; have hne2 := hst9.ne; have hS2 : VBlk 135 (w9.setRow vb zCells.toArray) rb [.slice rsp l3.length rcap, .int .i64 e6] := hS.setRow_other _ (by omega); have hvb2 := hst9.vblk.setRow zCells; have hbel2 : Below w.heap.size w (w9.setRow vb zCells.toArray) := Keep.below (Keep.setRow (Keep.of_below hst9.below) (fun hk => by omega) _); generalize w9.setRow vb zCells.toArray = w10 at hS2 hvb2 hbel2; refine K.di hS2 ?_; refine K.wo 6 ?_; refine WL.pure rfl rfl rfl rfl ?_; refine K.di hS2 ?_; refine K.wo 7 ?_; refine WL.pure rfl rfl rfl rfl ?_; refine K.dl ?_; refine WD.done (by kernel_rfl) ?_; refine K.kgo ?_; refine WQ.retCTT rfl rfl rfl rfl rfl rfl hvb2 ⟨hbel2, zV, zCells, 0, e6, rfl, zV_is _ _ _, ?_⟩; cases hq : readV en l with
    | ok y q => rw [hq] at hout; exact absurd hout.1 h6
    | bad z => rw [hq] at hout; exact ⟨rfl, rfl, hout.1, hout.2⟩

def DecPost (w : World) (l : List Int) (r : Ending) (w' : World) : Prop :=
  Below w.heap.size w w' ∧ ∃ (x : V) (cs : List Value) (e : Int), r = .returned (.tuple #[.agg cs.toArray, .int .i64 e]) ∧ IsVo (fun b => w.heap.size ≤ b) 17 w' x cs ∧
    match readV true l with
    | .ok y _ => x = y ∧ e = 0
    | .bad z => x = zV ∧ e = z ∧ z ≠ 0
theorem decode_any {w : World} {v : Value} {l : List Int} (hs : Sl .u8 w v l) (hb : Byt l) (hl : l.length ≤ 140737488355328) :
    Calls Try.prog 58 #[v] w (DecPost w l) := by
  refine enter (args := [v]) Try.func58 rfl Try.ntmps58 rfl ?_; refine K.kgo ?_; refine WL.alloc (z := .agg zCells.toArray) rfl rfl rfl rfl (fun _ => by kernel_rfl) fun vb w1 hf1 => ?_; have hf1' : Fresh w vb w1 60 zCells := hf1; clear hf1; have hz1 := hf1'.size; have hvb := hf1'.eq; have hb1 := hf1'.below; have hblk1 := hf1'.blk; clear hf1'; refine K.kgo ?_; refine WL.call rfl rfl rfl rfl rfl Try.func73 rfl (by kernel_rfl) (read_any true (hs.of_below hb1) hb hl) ?_; rintro _ w2 ⟨hb2, x, cs, n, e, rfl, hv2, hout⟩; refine ⟨_, rfl, ?_⟩; have hcs := hv2.len; have hblk2 := hblk1.below hb2 hblk1.lt; have hz2 := hb2.size; refine K.kgo ?_; refine WL.alloc (z := .agg zCells.toArray) rfl rfl rfl rfl (fun _ => by kernel_rfl) fun xb w3 hf3 => ?_; have hf3' : Fresh w2 xb w3 60 zCells := hf3; clear hf3; refine WL.storeRow rfl rfl rfl rfl rfl rfl hf3'.blk hcs rfl hv2.one ?_; have hxb := hf3'.eq; have hb4 : Below w2.heap.size w2 (w3.setRow xb cs.toArray) := below_setRow hf3'.below (by omega) _; have hx4 : VBlk 60 (w3.setRow xb cs.toArray) xb cs := hf3'.blk.setRow cs; generalize w3.setRow xb cs.toArray = w4 at hb4 hx4; clear hf3'; have hblk4 := hblk2.below hb4 hblk2.lt; have hw4 : Below w.heap.size w w4 := hb1.trans ((hb2.mono (by omega)).trans (hb4.mono (by omega))); have hv4 : IsVo (fun b => w.heap.size ≤ b ∧ b ≠ vb) 17 w4 x cs := hv2.keep (Keep.of_below hb4) (fun b _ h => h) fun b hb => by omega
  refine K.kgo ?_; refine WL.loadMid rfl rfl rfl rfl rfl rfl (VBlk.rangeAt hx4) hcs ?_; refine K.kgo ?_; refine WL.storeRow rfl rfl rfl rfl rfl rfl hblk4 hcs rfl hv4.one ?_; refine K.kgo ?_; have hset : Keep (fun b => b ≠ vb) w4 (w4.setRow vb cs.toArray) := Keep.setRow (Keep.refl _ w4) (fun hk => hk rfl) _; refine WQ.retCT rfl rfl rfl rfl hcs (hblk4.setRow cs) ⟨Keep.below (Keep.setRow (Keep.of_below hw4) (fun hk => by omega) _), x, cs, e, rfl, hv4.keep hset (fun b hb _ => hb.2) (fun b hb => hb.1), ?_⟩; cases hq : readV true l with
  | ok y q => rw [hq] at hout; exact ⟨hout.1, hout.2.2⟩
  | bad z => rw [hq] at hout; exact ⟨hout.1, hout.2.2⟩
end K
end Go.Proofs.Ytdkkaliiofcflaa
