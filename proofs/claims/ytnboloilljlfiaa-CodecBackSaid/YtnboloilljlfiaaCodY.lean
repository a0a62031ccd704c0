/- Reading (chapter 7): what stands while a List or a Struct is read; what is read, piece by piece. -/
import Derived.Test.YtnboloilljlfiaaCodX
namespace Go.Proofs.Ytnboloilljlfiaa
open Go.RowKit
namespace K

theorem Keep.setRow {K : Nat → Prop} {a w : World} (h : Keep K a w) {g : Nat} (hg : ¬ K g) (cs : Array Value) : Keep K a (w.setRow g cs) :=
  ⟨h.os, h.tape, h.output, by simpa using h.size, fun k hk => (setRow_other w g k cs (fun e => hg (e ▸ hk))).trans (h.block k hk)⟩

section
variable {α β : Type} {l l1 l2 : List Int} {e e1 e2 : Int}
theorem Out.bind {f : List Int → Rd α} {g : α → List Int → Rd β} {a : α} {b : β} (h1 : Out f l e a l1 e1) (h2 : Out (g a) l1 e1 b l2 e2) : Out (fun l => (f l).bind g) l e b l2 e2 := by
  refine ⟨Nat.le_trans h2.len h1.len, fun h => ?_, fun h => ?_⟩
  · have := h1.bad h
    rw [h2.bad (by rw [this]; exact h), this]
  · have h3 := h1.ok h
    cases hq : f l with
    | bad x =>
      rw [hq] at h3
      obtain ⟨rfl, hx⟩ := h3
      simp only [Rd.bind]
      exact ⟨h2.bad hx, hx⟩
    | ok x r =>
      rw [hq] at h3
      obtain ⟨rfl, rfl, rfl⟩ := h3
      have h4 := h2.ok rfl
      simp only [Rd.bind]
      exact h4
/-- Behind an error. -/
theorem Out.stop {f : List Int → Rd α} {g : α → List Int → Rd β} {a : α} {b : β} (h1 : Out f l e a l1 e1) (hne : ¬ e1 = 0) (hl : l2.length ≤ l1.length) : Out (fun l => (f l).bind g) l e b l2 e1 := by
  refine ⟨Nat.le_trans hl h1.len, h1.bad, fun h => ?_⟩
  have h3 := h1.ok h
  cases hq : f l with
  | bad x =>
    rw [hq] at h3
    simp only [Rd.bind]
    exact h3
  | ok x r => rw [hq] at h3; exact absurd h3.2.2 hne
theorem Out.pure (a : α) : Out (fun l => .ok a l) l e a l e := ⟨Nat.le_refl _, fun _ => rfl, fun h => ⟨rfl, rfl, h⟩⟩
theorem Out.fail {a : α} (x : Int) (hx : x ≠ 0) : Out (fun _ => .bad x) l e a l (if e = 0 then x else e) := ⟨Nat.le_refl _, fun h => if_neg h, fun h => ⟨if_pos h, hx⟩⟩
theorem Out.congr {f g : List Int → Rd α} {a : α} (h : Out f l e a l1 e1) (hfg : f l = g l) : Out g l e a l1 e1 := ⟨h.len, h.bad, fun h0 => by have := h.ok h0; rw [hfg] at this; exact this⟩
end

/-- What stands behind the first byte. -/
def GV (m : Nat) (k : Int) (r : List Int) : Rd V :=
  if k = 1 then .ok (.mk 1 0 0 noT [] []) r
  else if k = 2 then (rdB r).bind fun c r => if 1 < c then .bad 3 else .ok (.mk 2 c 0 noT [] []) r
  else if k = 3 then (rdU r).bind fun u r => .ok (.mk 3 (zag u) 0 noT [] []) r
  else if k = 4 then (rdU r).bind fun u r => (rdB r).bind fun s r => .ok (.mk 4 (zag u) s noT [] []) r
  else if k = 5 then (rdU r).bind fun u r => .ok (.mk 5 (IntKind.i64.wrap (u : Int)) 0 noT [] []) r
  else if k = 6 ∨ k = 7 then (rdT r).bind fun t r => .ok (.mk k 0 0 t [] []) r
  else if k = 8 ∨ k = 9 then (rdC r).bind fun n r => (rdK (rdV m) (decide (k = 9)) n [] [] r).bind fun p r => .ok (.mk k 0 0 noT p.1 p.2) r
  else .bad 3
theorem rdV_GV (m : Nat) : rdV (m + 1) = fun l => (rdB l).bind (GV m) := rfl

theorem wf_i64 {x : Int} (h : -9223372036854775808 ≤ x ∧ x ≤ 9223372036854775807) : (Lit.int .i64 x).wf = true := by
  simp [Lit.wf, IntKind.min, IntKind.max, IntKind.bits, IntKind.signed]; omega
theorem isVo_leaf {O : Nat → Prop} {f : Nat} {w : World} {k n s : Int} {t : ByteArray} (hk : 0 ≤ k ∧ k ≤ 255) (hn : -9223372036854775808 ≤ n ∧ n ≤ 9223372036854775807) (hs : 0 ≤ s ∧ s ≤ 255) (ht : t.size ≤ 140737488355328) :
    IsVo O (f + 1) w (.mk k n s t [] []) [.int .i64 k, .int .i64 n, .int .i64 s, .string t, .slice none 0 0, .slice none 0 0] :=
  ⟨_, _, rfl, wf_i64 (by show -9223372036854775808 ≤ k ∧ k ≤ _; omega), wf_i64 hn, wf_i64 (by show -9223372036854775808 ≤ s ∧ s ≤ _; omega), ht, Els.nil _ _ _ _ _, Els.nil _ _ _ _ _⟩

/-- A List or Struct that is being read, in the box vb. -/
structure KidsW (rb vb f : Nat) (k : Int) (w0 w : World) (ns : List ByteArray) (ks : List V) (sn sk : Value) (q : Nat → Prop) : Prop where
  blk : VBlk 25 w vb [.int .i64 k, .int .i64 0, .int .i64 0, .string ByteArray.empty, sn, sk]
  names : OwnE 9 1 noT strP (fun b => w0.heap.size ≤ b ∧ b ≠ vb) w sn ns
  kids : OwnE 25 6 noV (IsVo q f w) (fun b => w0.heap.size ≤ b ∧ b ≠ vb) w sk ks
  apart : ∀ g, sn.ownBlock = some g → sk.ownBlock ≠ some g
  qs : ∀ b, q b → w0.heap.size ≤ b ∧ b < w.heap.size ∧ b ≠ vb ∧ sn.ownBlock ≠ some b ∧ sk.ownBlock ≠ some b
  keep : KeepR rb w0 w
  vbe : vb = w0.heap.size
  rlt : rb < w0.heap.size
section
variable {rb vb f : Nat} {k : Int} {w0 w w' : World} {ns : List ByteArray} {ks : List V} {sn sk sn' sk' : Value} {q : Nat → Prop}
/-- Something else is read. -/
theorem KidsW.read (h : KidsW rb vb f k w0 w ns ks sn sk q) (hk : KeepR rb w w') : KidsW rb vb f k w0 w' ns ks sn sk q := by
  have hr := h.rlt
  refine ⟨h.blk.keep hk ⟨h.blk.lt, by have := h.vbe; omega⟩, h.names.keep hk (fun g hg => ⟨h.names.lt hg, fun e => by have := (h.names.own hg).1; omega⟩) (fun _ h => h) fun _ _ h => h,
    h.kids.keep hk (fun g hg => ⟨h.kids.lt hg, fun e => by have := (h.kids.own hg).1; omega⟩) (fun _ h => h) fun x cs hx => hx.keep hk (fun b hb _ => ⟨(h.qs b hb).2.1, fun e => by have := (h.qs b hb).1; omega⟩) fun _ h => h,
    h.apart, fun b hb => ?_, h.keep.trans hk, h.vbe, h.rlt⟩
  obtain ⟨h1, h2, h3⟩ := h.qs b hb
  exact ⟨h1, Nat.lt_of_lt_of_le h2 hk.size, h3⟩
theorem KidsW.below (h : KidsW rb vb f k w0 w ns ks sn sk q) (hk : Below w.heap.size w w') : KidsW rb vb f k w0 w' ns ks sn sk q := h.read (KeepR.below hk)
/-- Further blocks. -/
theorem KidsW.widen (h : KidsW rb vb f k w0 w ns ks sn sk q) {S : Nat} (hS : w0.heap.size ≤ S) (h1 : vb < S) (h2 : ∀ g, sn.ownBlock = some g → g < S) (h3 : ∀ g, sk.ownBlock = some g → g < S) : KidsW rb vb f k w0 w ns ks sn sk (fun b => q b ∨ (S ≤ b ∧ b < w.heap.size)) := by
  refine ⟨h.blk, h.names, h.kids.keep (Keep.refl (fun _ => True) w) (fun _ _ => trivial) (fun _ h => h) fun x cs hx => hx.mono fun b hb => .inl hb, h.apart, fun b hb => ?_, h.keep, h.vbe, h.rlt⟩
  rcases hb with hb | ⟨hb1, hb2⟩
  · exact h.qs b hb
  · exact ⟨by omega, hb2, by omega, fun e => by have := h2 b e; omega, fun e => by have := h3 b e; omega⟩
/-- A name is laid. -/
theorem KidsW.setN (h : KidsW rb vb f k w0 w ns ks sn sk q) {s : ByteArray} (ho : OwnE 9 1 noT strP (fun b => (w0.heap.size ≤ b ∧ b ≠ vb) ∨ b = w.heap.size) w' sn' (ns ++ [s])) (hg : Grow w sn w' sn') :
    VBlk 25 w' vb [.int .i64 k, .int .i64 0, .int .i64 0, .string ByteArray.empty, sn, sk] ∧ KidsW rb vb f k w0 (w'.setCell ⟨vb, 4, none⟩ sn') (ns ++ [s]) ks sn' sk q := by
  have hvo : sn.ownBlock ≠ some vb := fun e => (h.names.own e).2 rfl
  have hvb := h.blk.lt
  have hblk : VBlk 25 w' vb [.int .i64 k, .int .i64 0, .int .i64 0, .string ByteArray.empty, sn, sk] := h.blk.keep hg.1 ⟨hvb, hvo⟩
  have hsz := h.keep.size
  have hO : ∀ b, (w0.heap.size ≤ b ∧ b ≠ vb) ∨ b = w.heap.size → w0.heap.size ≤ b ∧ b ≠ vb := fun b hb => hb.elim id fun e => by omega
  have hset : Keep (fun b => b ≠ vb) w' (w'.setCell ⟨vb, 4, none⟩ sn') := (Keep.refl _ w').setCell (fun hk => hk rfl) _
  refine ⟨hblk, hblk.set 4 sn', ho.keep hset (fun g hg2 => (hO g (ho.own hg2)).2) hO fun _ _ h => h,
    (h.kids.keep hg.1 (fun g hg2 => ⟨h.kids.lt hg2, fun e => h.apart g e hg2⟩) (fun _ h => h) fun x cs hx => hx.keep hg.1 (fun b hb _ => ⟨(h.qs b hb).2.1, (h.qs b hb).2.2.2.1⟩) fun _ h => h).keep hset (fun g hg2 => (h.kids.own hg2).2) (fun _ h => h) fun x cs hx => hx.keep hset (fun b hb _ => (h.qs b hb).2.2.1) fun _ h => h,
    fun g hg2 e => (hg.2 g hg2).elim (fun h2 => h.apart g h2 e) fun h2 => by have := h.kids.lt e; omega, fun b hb => ?_, ?_, h.vbe, h.rlt⟩
  · obtain ⟨h1, h2, h3, h4, h5⟩ := h.qs b hb
    exact ⟨h1, Nat.lt_of_lt_of_le h2 (Nat.le_trans hg.1.size hset.size), h3, fun e => (hg.2 b e).elim h4 fun h6 => by omega, h5⟩
  · have hvb2 := h.vbe
    exact (Keep.trans h.keep ((Keep.mono hg.1 fun b hb => ⟨Nat.lt_of_lt_of_le hb.1 hsz, fun e => by have := (h.names.own e).1; omega⟩))).setCell (p := ⟨vb, 4, none⟩) (fun hk => by have := hk.1; simp only at this; omega) _
/-- A kid is laid. -/
theorem KidsW.setK (h : KidsW rb vb f k w0 w ns ks sn sk q) {v : V} (ho : OwnE 25 6 noV (IsVo q f w) (fun b => (w0.heap.size ≤ b ∧ b ≠ vb) ∨ b = w.heap.size) w' sk' (ks ++ [v])) (hg : Grow w sk w' sk') :
    VBlk 25 w' vb [.int .i64 k, .int .i64 0, .int .i64 0, .string ByteArray.empty, sn, sk] ∧ KidsW rb vb f k w0 (w'.setCell ⟨vb, 5, none⟩ sk') ns (ks ++ [v]) sn sk' q := by
  have hvo : sk.ownBlock ≠ some vb := fun e => (h.kids.own e).2 rfl
  have hvb := h.blk.lt
  have hblk : VBlk 25 w' vb [.int .i64 k, .int .i64 0, .int .i64 0, .string ByteArray.empty, sn, sk] := h.blk.keep hg.1 ⟨hvb, hvo⟩
  have hsz := h.keep.size
  have hO : ∀ b, (w0.heap.size ≤ b ∧ b ≠ vb) ∨ b = w.heap.size → w0.heap.size ≤ b ∧ b ≠ vb := fun b hb => hb.elim id fun e => by omega
  have hset : Keep (fun b => b ≠ vb) w' (w'.setCell ⟨vb, 5, none⟩ sk') := (Keep.refl _ w').setCell (fun hk => hk rfl) _
  have hP : ∀ x cs, IsVo q f w x cs → IsVo q f (w'.setCell ⟨vb, 5, none⟩ sk') x cs := fun x cs hx =>
    (hx.keep (O' := q) hg.1 (fun b hb _ => ⟨(h.qs b hb).2.1, (h.qs b hb).2.2.2.2⟩) fun _ h => h).keep hset (fun b hb _ => (h.qs b hb).2.2.1) fun _ h => h
  refine ⟨hblk, hblk.set 5 sk', (h.names.keep hg.1 (fun g hg2 => ⟨h.names.lt hg2, fun e => h.apart g hg2 e⟩) (fun _ h => h) fun _ _ h => h).keep hset (fun g hg2 => (h.names.own hg2).2) (fun _ h => h) fun _ _ h => h,
    ho.keep hset (fun g hg2 => (hO g (ho.own hg2)).2) hO hP, fun g hg2 e => (hg.2 g e).elim (fun h2 => h.apart g hg2 h2) fun h2 => by have := h.names.lt hg2; omega, fun b hb => ?_, ?_, h.vbe, h.rlt⟩
  · obtain ⟨h1, h2, h3, h4, h5⟩ := h.qs b hb
    exact ⟨h1, Nat.lt_of_lt_of_le h2 (Nat.le_trans hg.1.size hset.size), h3, h4, fun e => (hg.2 b e).elim h5 fun h6 => by omega⟩
  · have hvb2 := h.vbe
    exact (Keep.trans h.keep ((Keep.mono hg.1 fun b hb => ⟨Nat.lt_of_lt_of_le hb.1 hsz, fun e => by have := (h.kids.own e).1; omega⟩))).setCell (p := ⟨vb, 5, none⟩) (fun hk => by have := hk.1; simp only at this; omega) _
end
end K
end Go.Proofs.Ytnboloilljlfiaa
