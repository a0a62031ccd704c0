/- Values that are read (chapter 7): in memory of their own; the reader. -/
import Derived.Test.YtnboloilljlfiaaKg
import Derived.Test.YtnboloilljlfiaaSix
import Derived.Test.YtnboloilljlfiaaCodS
namespace Go.Proofs.Ytnboloilljlfiaa
open Go.RowKit
namespace K
variable {n : Nat} {Q : Exit → Act → World → Prop} {l : Env} {w w' : World} {ops : Array Oper} {o : Oper} {rest : List Oper} {d : Nat}

/-- The cell of a text. -/
def strP (s : ByteArray) (cs : List Value) : Prop := cs = [.string s] ∧ s.size ≤ 140737488355328
/-- The six cells of a value, whose rows lie in blocks of O. -/
def IsVo (O : Nat → Prop) : Nat → World → V → List Value → Prop
  | 0, _, _, _ => False
  | f + 1, w, v, cs => ∃ sn sk, cs = [.int .i64 v.k, .int .i64 v.n, .int .i64 v.s, .string v.t, sn, sk] ∧
      (Lit.int .i64 v.k).wf = true ∧ (Lit.int .i64 v.n).wf = true ∧ (Lit.int .i64 v.s).wf = true ∧ v.t.size ≤ 140737488355328 ∧ Els 1 noT strP O w sn v.names ∧ Els 6 noV (IsVo O f w) O w sk v.kids
theorem IsVo.keep {O O' : Nat → Prop} {K : Nat → Prop} {w w' : World} (hk : Keep K w w') (hK : ∀ b, O b → b < w.heap.size → K b) (hO : ∀ b, O b → O' b) : ∀ {f : Nat} {v : V} {cs : List Value}, IsVo O f w v cs → IsVo O' f w' v cs
  | 0, _, _, h => h
  | _ + 1, _, _, ⟨sn, sk, h1, h2, h3, h4, h5, h6, h7⟩ => ⟨sn, sk, h1, h2, h3, h4, h5, h6.keep hk hK hO fun _ _ h => h, h7.keep hk hK hO fun _ _ h => IsVo.keep hk hK hO h⟩
theorem IsVo.mono {O O' : Nat → Prop} {w : World} (hO : ∀ b, O b → O' b) {f : Nat} {v : V} {cs : List Value} (h : IsVo O f w v cs) : IsVo O' f w v cs := h.keep (Keep.refl (fun _ => True) w) (fun _ _ _ => trivial) hO
/-- The blocks are there. -/
theorem Els.there {α : Type} {m : Nat} {z : α} {P P' : α → List Value → Prop} {O : Nat → Prop} {w : World} {v : Value} {l : List α} (h : Els m z P O w v l) (hP : ∀ x cs, P x cs → P' x cs) : Els m z P' (fun b => O b ∧ b < w.heap.size) w v l := by
  obtain ⟨sp, cap, h1, h2, h3, h5, h4⟩ := h
  refine ⟨sp, cap, h1, h2, h3, h5, fun h0 => ?_⟩
  obtain ⟨b, o, e, hlt, hOb, hr⟩ := h4 h0
  refine ⟨b, o, e, hlt, ⟨hOb, hlt⟩, fun j hj => ?_⟩
  obtain ⟨cs, hc, hp, hat⟩ := hr j hj
  exact ⟨cs, hc, hP _ _ hp, hat⟩
theorem IsVo.there {O : Nat → Prop} {w : World} : ∀ {f : Nat} {v : V} {cs : List Value}, IsVo O f w v cs → IsVo (fun b => O b ∧ b < w.heap.size) f w v cs
  | 0, _, _, h => h
  | _ + 1, _, _, ⟨sn, sk, h1, h2, h3, h4, h5, h6, h7⟩ => ⟨sn, sk, h1, h2, h3, h4, h5, h6.there fun _ _ h => h, h7.there fun _ _ h => IsVo.there h⟩
theorem Els.strs {O : Nat → Prop} {w : World} {v : Value} {l : List ByteArray} (h : Els 1 noT strP O w v l) : Strs w v l := by
  obtain ⟨sp, cap, h1, h2, h3, -, h4⟩ := h
  refine ⟨sp, cap, h1, h2, h3, fun j hj => ?_, fun h0 => ?_⟩
  · obtain ⟨b, o, -, -, -, hr⟩ := h4 (by omega)
    obtain ⟨cs, -, ⟨-, hp⟩, -⟩ := hr j hj
    exact hp
  · obtain ⟨b, o, e, hb, -, hr⟩ := h4 h0
    refine ⟨b, o, e, hb, fun j hj => ?_⟩
    obtain ⟨cs, -, ⟨rfl, -⟩, hat⟩ := hr j hj
    have := hat 0 _ rfl
    rw [Nat.mul_one] at this
    exact this
theorem IsVo.isV {O : Nat → Prop} {w : World} : ∀ {f : Nat} {v : V} {cs : List Value}, IsVo O f w v cs → IsV f w v cs
  | 0, _, _, h => h
  | _ + 1, _, _, ⟨sn, sk, h1, h2, h3, h4, h5, h6, h7⟩ => ⟨sn, sk, h1, h2, h3, h4, h5, h6.strs, by
      obtain ⟨sp, cap, k1, k2, k3, -, k4⟩ := h7
      refine ⟨sp, cap, k1, k2, k3, fun h0 => ?_⟩
      obtain ⟨b, o, e, hb, -, hr⟩ := k4 h0
      refine ⟨b, o, e, hb, fun j hj => ?_⟩
      obtain ⟨cs, hc, hp, hat⟩ := hr j hj
      exact ⟨cs, hc, IsVo.isV hp, hat⟩⟩
theorem IsVo.len {O : Nat → Prop} {f : Nat} {w : World} {v : V} {cs : List Value} (h : IsVo O f w v cs) : cs.length = 6 := h.isV.len
theorem IsVo.one {O : Nat → Prop} {f : Nat} {w : World} {v : V} {cs : List Value} (h : IsVo O f w v cs) : Ones cs := IsV.one h.isV

/-- Bytes, in a block of O. -/
structure SlB (O : Nat → Prop) (w : World) (v : Value) (l : List Int) : Prop where
  sl : Sl .u8 w v l
  lt : 0 < l.length → ∀ b o s n c, v = .slice (some ⟨b, o, s⟩) n c → O b
theorem SlB.keep {O : Nat → Prop} {w w' : World} {v : Value} {l : List Int} (h : SlB O w v l) {K : Nat → Prop} (hk : Keep K w w') (hK : ∀ b, O b → K b) : SlB O w' v l := by
  refine ⟨?_, h.lt⟩
  rcases Nat.eq_zero_or_pos l.length with h0 | h0
  · obtain ⟨sp, cap, rfl, h2, h3, h4, h5⟩ := h.sl
    exact ⟨sp, cap, rfl, h2, h3, fun h1 => absurd h1 (by omega), h5⟩
  · exact h.sl.keep hk fun b o n c e _ => hK b (h.lt h0 b o none n c e)
theorem SlB.mono {O O' : Nat → Prop} {w : World} {v : Value} {l : List Int} (h : SlB O w v l) (hO : ∀ b, O b → O' b) : SlB O' w v l := ⟨h.sl, fun h0 b o s n c e => hO b (h.lt h0 b o s n c e)⟩
theorem SlB.of_sl {w : World} {v : Value} {l : List Int} (h : Sl .u8 w v l) : SlB (fun b => b < w.heap.size) w v l :=
  ⟨h, fun h0 b o s n c e => by
    obtain ⟨sp, cap, rfl, -, -, h3, -⟩ := h
    obtain ⟨b', o', rfl, hb, -⟩ := h3 h0
    injection e with e1 _ _; cases e1; exact hb⟩
/-- A slice from a place on. -/
theorem WL.fromB {O : Nat → Prop} {t e : Nat} {x lo : Operand} {v : Value} {kk : IntKind} {z : Int} {zs : List Int} {w0 : World} (hg : o.guard = none) (hd : o.dst = some d) (hn : Nat.blt d n = true) (ho : o.op = .slice t x (some lo) none none) (ht : tyOf ty t = some (.slice e 1))
    (hx : evl l x = some v) (hlo : evl l lo = some (.int kk z)) (h0 : 0 ≤ z) (h1 : z ≤ zs.length) (hs : SlB O w0 v zs) (h : ∀ v', SlB O w0 v' (zs.drop z.toNat) → WL n ops Q rest ((d, v') :: l) w) : WL n ops Q (o :: rest) l w := by
  have hs0 := hs.sl
  have hlt := hs.lt
  obtain ⟨sp, cap, rfl, hc, hm, hr, hn0⟩ := hs.sl
  refine WL.step hg hd hn (v := sliced sp z.toNat zs.length cap 1) (fun a ha => ?_) (h _ ⟨sl_from hs0 (by omega), fun hl0 b o s m c e => ?_⟩)
  · obtain ⟨hu, hsz⟩ := TyOk.of tyOk ht
    have he : Try.prog.elem t = e := by simp [Program.elem, hu]
    have hu' : Try.prog.underlying t = some (.slice (Try.prog.elem t)) := by rw [he]; exact hu
    have hs : (sizeOf e).run Try.prog w = .ok 1 w := by
      cases hq : Try.prog.info? e with
      | none => rw [hq] at hsz; cases hsz
      | some q => rw [hq] at hsz; simp at hsz; simp [sizeOf, typeInfo, hq, hsz]
    unfold execOp
    rw [ho]
    simp [ha.eval hx, ha.eval hlo, run_sliceAt_slice w t _ _ _ _ hu', run_slice_l w t sp zs.length cap hu' kk z h0 (by omega), he, hs]
  · unfold sliced at e
    injection e with e1 _ _
    cases sp with
    | none => split at e1 <;> cases e1
    | some p =>
      obtain ⟨pb, po, ps⟩ := p
      have := hlt (by rw [List.length_drop] at hl0; omega) pb po ps _ _ rfl
      split at e1
      · cases e1; exact this
      · have e2 := congrArg (fun q => q.map Addr.block) e1
        have e3 : ((⟨pb, po, ps⟩ : Addr).add (z.toNat * 1)).block = pb := by unfold Addr.add; split <;> rfl
        simp only [Option.map_some, Option.some.injEq, e3] at e2
        rw [← e2]; exact this

/-- The reader lies in block rb: what is left, and its error. -/
structure RS (B : Nat) (w : World) (rb : Nat) (l : List Int) (e : Int) : Prop where
  rlt : rb < B
  byt : Byt l
  ex : ∃ sp cap, VBlk 63 w rb [.slice sp l.length cap, .int .i64 e] ∧ SlB (fun b => b < B ∧ b ≠ rb) w (.slice sp l.length cap) l
theorem RS.keep {B : Nat} {w w' : World} {rb : Nat} {l : List Int} {e : Int} (h : RS B w rb l e) {K : Nat → Prop} (hk : Keep K w w') (hK : ∀ b, b < B → K b) : RS B w' rb l e := by
  obtain ⟨sp, cap, h1, h2⟩ := h.ex
  exact ⟨h.rlt, h.byt, sp, cap, h1.keep hk (hK _ h.rlt), h2.keep hk fun b hb => hK b hb.1⟩
theorem RS.mono {B B' : Nat} {w : World} {rb : Nat} {l : List Int} {e : Int} (h : RS B w rb l e) (hB : B ≤ B') : RS B' w rb l e := by
  obtain ⟨sp, cap, h1, h2⟩ := h.ex
  exact ⟨Nat.lt_of_lt_of_le h.rlt hB, h.byt, sp, cap, h1, h2.mono fun b hb => ⟨Nat.lt_of_lt_of_le hb.1 hB, hb.2⟩⟩
/-- Its error becomes another one. -/
theorem RS.setE {B : Nat} {w : World} {rb : Nat} {l : List Int} {e : Int} (h : RS B w rb l e) (x : Int) : RS B (w.setCell ⟨rb, 1, none⟩ (.int .i64 x)) rb l x := by
  obtain ⟨sp, cap, h1, h2⟩ := h.ex
  exact ⟨h.rlt, h.byt, sp, cap, h1.set 1 (.int .i64 x), h2.keep (K := fun b => b ≠ rb) ((Keep.refl _ w).setCell (fun hk => hk rfl) _) fun b hb => hb.2⟩
/-- What is left becomes an end of it. -/
theorem RS.setL {B : Nat} {w : World} {rb : Nat} {l l' : List Int} {e : Int} {v' : Value} (h : RS B w rb l e) (hb : Byt l') (hv : SlB (fun b => b < B ∧ b ≠ rb) w v' l') : RS B (w.setCell ⟨rb, 0, none⟩ v') rb l' e := by
  obtain ⟨sp, cap, h1, h2⟩ := h.ex
  obtain ⟨sp', cap', rfl, -⟩ := hv.sl
  exact ⟨h.rlt, hb, sp', cap', h1.set 0 (.slice sp' l'.length cap'), hv.keep (K := fun b => b ≠ rb) ((Keep.refl _ w).setCell (fun hk => hk rfl) _) fun b hb => hb.2⟩
/-- All stands but a block. -/
def KeepR (rb : Nat) (w w' : World) : Prop := Keep (fun b => b < w.heap.size ∧ b ≠ rb) w w'
theorem KeepR.refl (rb : Nat) (w : World) : KeepR rb w w := Keep.refl _ _
theorem KeepR.trans {rb : Nat} {w w1 w2 : World} (h : KeepR rb w w1) (k : KeepR rb w1 w2) : KeepR rb w w2 := Keep.trans h (Keep.mono k fun _ hb => ⟨Nat.lt_of_lt_of_le hb.1 h.size, hb.2⟩)
theorem KeepR.below {rb : Nat} {w w1 : World} (h : Below w.heap.size w w1) : KeepR rb w w1 := (Keep.of_below h).mono fun _ hb => hb.1
theorem KeepR.set (rb i : Nat) (w : World) (v : Value) : KeepR rb w (w.setCell ⟨rb, i, none⟩ v) := (Keep.refl _ w).setCell (fun h => h.2 rfl) _
/-- What is read, behind a first error nothing. -/
structure Out {α : Type} (f : List Int → Rd α) (l : List Int) (e : Int) (a : α) (l' : List Int) (e' : Int) : Prop where
  len : l'.length ≤ l.length
  bad : e ≠ 0 → e' = e
  ok : e = 0 → match f l with | .ok x r => a = x ∧ l' = r ∧ e' = 0 | .bad x => e' = x ∧ x ≠ 0
end K
end Go.Proofs.Ytnboloilljlfiaa
