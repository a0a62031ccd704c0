/- Texts for LawBlkChecks, part 2 of 5. -/
import Derived.Test.YtlamdhekjlnccaaGreatDoorZLawBlkChecks1
import Derived.StillTailTactics
import Derived.Deep.RegionLaw
import Derived.DeepKeys
/- Reading (chapter 7): what stands while a List or a Struct is read; what is read, piece by piece. -/
namespace Go.Proofs.YtlamdhekjlnccaaGreatDoor
open Go.RowKit
namespace K

theorem Keep.setRow {K : Nat → Prop} {a w : World} (h : Keep K a w) {g : Nat} (hg : ¬ K g) (cs : Array Value) : Keep K a (w.setRow g cs) :=
  ⟨h.os, h.tape, h.output, by simpa using h.size, fun k hk => (setRow_other w g k cs (fun e => hg (e ▸ hk))).trans (h.block k hk)⟩

section
variable {α β : Type} {l l1 l2 : List Int} {e e1 e2 : Int}
theorem Out.bind {f : List Int → Rd α} {g : α → List Int → Rd β} {a : α} {b : β} (h1 : Out f l e a l1 e1) (h2 : Out (g a) l1 e1 b l2 e2) : Out (fun l => (f l).bind g) l e b l2 e2 := by
  refine ⟨Nat.le_trans h2.len h1.len, fun h => ?_, fun h => ?_⟩
  · have := h1.bad h
    rw [h2.bad (by rw [this]; exact h), this]
  · have h3 := h1.ok h
    cases hq : f l with
    | bad x =>
      rw [hq] at h3
      obtain ⟨rfl, hx⟩ := h3
      simp only [Rd.bind]
      exact ⟨h2.bad hx, hx⟩
    | ok x r =>
      rw [hq] at h3
      obtain ⟨rfl, rfl, rfl⟩ := h3
      have h4 := h2.ok rfl
      simp only [Rd.bind]
      exact h4
/-- Behind an error. -/
theorem Out.stop {f : List Int → Rd α} {g : α → List Int → Rd β} {a : α} {b : β} (h1 : Out f l e a l1 e1) (hne : ¬ e1 = 0) (hl : l2.length ≤ l1.length) : Out (fun l => (f l).bind g) l e b l2 e1 := by
  refine ⟨Nat.le_trans hl h1.len, h1.bad, fun h => ?_⟩
  have h3 := h1.ok h
  cases hq : f l with
  | bad x =>
    rw [hq] at h3
    simp only [Rd.bind]
    exact h3
  | ok x r => rw [hq] at h3; exact absurd h3.2.2 hne
theorem Out.pure (a : α) : Out (fun l => .ok a l) l e a l e := ⟨Nat.le_refl _, fun _ => rfl, fun h => ⟨rfl, rfl, h⟩⟩
theorem Out.fail {a : α} (x : Int) (hx : x ≠ 0) : Out (fun _ => .bad x) l e a l (if e = 0 then x else e) := ⟨Nat.le_refl _, fun h => if_neg h, fun h => ⟨if_pos h, hx⟩⟩
theorem Out.congr {f g : List Int → Rd α} {a : α} (h : Out f l e a l1 e1) (hfg : f l = g l) : Out g l e a l1 e1 := ⟨h.len, h.bad, fun h0 => by have := h.ok h0; rw [hfg] at this; exact this⟩
end

/-- What stands behind the first byte. -/
def GV (m : Nat) (k : Int) (r : List Int) : Rd V :=
  if k = 1 then .ok (.mk 1 0 0 noT [] []) r
  else if k = 2 then (rdB r).bind fun c r => if 1 < c then .bad 3 else .ok (.mk 2 c 0 noT [] []) r
  else if k = 3 then (rdU r).bind fun u r => .ok (.mk 3 (zag u) 0 noT [] []) r
  else if k = 4 then (rdU r).bind fun u r => (rdB r).bind fun s r => .ok (.mk 4 (zag u) s noT [] []) r
  else if k = 5 then (rdU r).bind fun u r => .ok (.mk 5 (IntKind.i64.wrap (u : Int)) 0 noT [] []) r
  else if k = 6 ∨ k = 7 then (rdT r).bind fun t r => .ok (.mk k 0 0 t [] []) r
  else if k = 8 ∨ k = 9 then (rdC r).bind fun n r => (rdK (rdV m) (decide (k = 9)) n [] [] r).bind fun p r => .ok (.mk k 0 0 noT p.1 p.2) r
  else .bad 3
theorem rdV_GV (m : Nat) : rdV (m + 1) = fun l => (rdB l).bind (GV m) := rfl

theorem wf_i64 {x : Int} (h : -9223372036854775808 ≤ x ∧ x ≤ 9223372036854775807) : (Lit.int .i64 x).wf = true := by
  simp [Lit.wf, IntKind.min, IntKind.max, IntKind.bits, IntKind.signed]; omega
theorem isVo_leaf {O : Nat → Prop} {f : Nat} {w : World} {k n s : Int} {t : ByteArray} (hk : 0 ≤ k ∧ k ≤ 255) (hn : -9223372036854775808 ≤ n ∧ n ≤ 9223372036854775807) (hs : 0 ≤ s ∧ s ≤ 255) (ht : t.size ≤ 140737488355328) :
    IsVo O (f + 1) w (.mk k n s t [] []) [.int .i64 k, .int .i64 n, .int .i64 s, .string t, .slice none 0 0, .slice none 0 0] :=
  ⟨_, _, rfl, wf_i64 (by show -9223372036854775808 ≤ k ∧ k ≤ _; omega), wf_i64 hn, wf_i64 (by show -9223372036854775808 ≤ s ∧ s ≤ _; omega), ht, Els.nil _ _ _ _ _, Els.nil _ _ _ _ _⟩

/-- A List or Struct that is being read, in the box vb. -/
structure KidsW (rb vb f : Nat) (k : Int) (w0 w : World) (ns : List ByteArray) (ks : List V) (sn sk : Value) (q : Nat → Prop) : Prop where
  blk : VBlk 41 w vb [.int .i64 k, .int .i64 0, .int .i64 0, .string ByteArray.empty, sn, sk]
  names : OwnE 9 1 noT strP (fun b => w0.heap.size ≤ b ∧ b ≠ vb) w sn ns
  kids : OwnE 41 6 noV (IsVo q f w) (fun b => w0.heap.size ≤ b ∧ b ≠ vb) w sk ks
  apart : ∀ g, sn.ownBlock = some g → sk.ownBlock ≠ some g
  qs : ∀ b, q b → w0.heap.size ≤ b ∧ b < w.heap.size ∧ b ≠ vb ∧ sn.ownBlock ≠ some b ∧ sk.ownBlock ≠ some b
  keep : KeepR rb w0 w
  vbe : vb = w0.heap.size
  rlt : rb < w0.heap.size
section
variable {rb vb f : Nat} {k : Int} {w0 w w' : World} {ns : List ByteArray} {ks : List V} {sn sk sn' sk' : Value} {q : Nat → Prop}
/-- Something else is read. -/
theorem KidsW.read (h : KidsW rb vb f k w0 w ns ks sn sk q) (hk : KeepR rb w w') : KidsW rb vb f k w0 w' ns ks sn sk q := by
  have hr := h.rlt
  refine ⟨h.blk.keep hk ⟨h.blk.lt, by have := h.vbe; omega⟩, h.names.keep hk (fun g hg => ⟨h.names.lt hg, fun e => by have := (h.names.own hg).1; omega⟩) (fun _ h => h) fun _ _ h => h,
    h.kids.keep hk (fun g hg => ⟨h.kids.lt hg, fun e => by have := (h.kids.own hg).1; omega⟩) (fun _ h => h) fun x cs hx => hx.keep hk (fun b hb _ => ⟨(h.qs b hb).2.1, fun e => by have := (h.qs b hb).1; omega⟩) fun _ h => h,
    h.apart, fun b hb => ?_, h.keep.trans hk, h.vbe, h.rlt⟩
  obtain ⟨h1, h2, h3⟩ := h.qs b hb
  exact ⟨h1, Nat.lt_of_lt_of_le h2 hk.size, h3⟩
theorem KidsW.below (h : KidsW rb vb f k w0 w ns ks sn sk q) (hk : Below w.heap.size w w') : KidsW rb vb f k w0 w' ns ks sn sk q := h.read (KeepR.below hk)
/-- Further blocks. -/
theorem KidsW.widen (h : KidsW rb vb f k w0 w ns ks sn sk q) {S : Nat} (hS : w0.heap.size ≤ S) (h1 : vb < S) (h2 : ∀ g, sn.ownBlock = some g → g < S) (h3 : ∀ g, sk.ownBlock = some g → g < S) : KidsW rb vb f k w0 w ns ks sn sk (fun b => q b ∨ (S ≤ b ∧ b < w.heap.size)) := by
  refine ⟨h.blk, h.names, h.kids.keep (Keep.refl (fun _ => True) w) (fun _ _ => trivial) (fun _ h => h) fun x cs hx => hx.mono fun b hb => .inl hb, h.apart, fun b hb => ?_, h.keep, h.vbe, h.rlt⟩
  rcases hb with hb | ⟨hb1, hb2⟩
  · exact h.qs b hb
  · exact ⟨by omega, hb2, by omega, fun e => by have := h2 b e; omega, fun e => by have := h3 b e; omega⟩
/-- A name is laid. -/
theorem KidsW.setN (h : KidsW rb vb f k w0 w ns ks sn sk q) {s : ByteArray} (ho : OwnE 9 1 noT strP (fun b => (w0.heap.size ≤ b ∧ b ≠ vb) ∨ b = w.heap.size) w' sn' (ns ++ [s])) (hg : Grow w sn w' sn') :
    VBlk 41 w' vb [.int .i64 k, .int .i64 0, .int .i64 0, .string ByteArray.empty, sn, sk] ∧ KidsW rb vb f k w0 (w'.setCell ⟨vb, 4, none⟩ sn') (ns ++ [s]) ks sn' sk q := by
  have hvo : sn.ownBlock ≠ some vb := fun e => (h.names.own e).2 rfl
  have hvb := h.blk.lt
  have hblk : VBlk 41 w' vb [.int .i64 k, .int .i64 0, .int .i64 0, .string ByteArray.empty, sn, sk] := h.blk.keep hg.1 ⟨hvb, hvo⟩
  have hsz := h.keep.size
  have hO : ∀ b, (w0.heap.size ≤ b ∧ b ≠ vb) ∨ b = w.heap.size → w0.heap.size ≤ b ∧ b ≠ vb := fun b hb => hb.elim id fun e => by omega
  have hset : Keep (fun b => b ≠ vb) w' (w'.setCell ⟨vb, 4, none⟩ sn') := (Keep.refl _ w').setCell (fun hk => hk rfl) _
  refine ⟨hblk, hblk.set 4 sn', ho.keep hset (fun g hg2 => (hO g (ho.own hg2)).2) hO fun _ _ h => h,
    (h.kids.keep hg.1 (fun g hg2 => ⟨h.kids.lt hg2, fun e => h.apart g e hg2⟩) (fun _ h => h) fun x cs hx => hx.keep hg.1 (fun b hb _ => ⟨(h.qs b hb).2.1, (h.qs b hb).2.2.2.1⟩) fun _ h => h).keep hset (fun g hg2 => (h.kids.own hg2).2) (fun _ h => h) fun x cs hx => hx.keep hset (fun b hb _ => (h.qs b hb).2.2.1) fun _ h => h,
    fun g hg2 e => (hg.2 g hg2).elim (fun h2 => h.apart g h2 e) fun h2 => by have := h.kids.lt e; omega, fun b hb => ?_, ?_, h.vbe, h.rlt⟩
  · obtain ⟨h1, h2, h3, h4, h5⟩ := h.qs b hb
    exact ⟨h1, Nat.lt_of_lt_of_le h2 (Nat.le_trans hg.1.size hset.size), h3, fun e => (hg.2 b e).elim h4 fun h6 => by omega, h5⟩
  · have hvb2 := h.vbe
    exact (Keep.trans h.keep ((Keep.mono hg.1 fun b hb => ⟨Nat.lt_of_lt_of_le hb.1 hsz, fun e => by have := (h.names.own e).1; omega⟩))).setCell (p := ⟨vb, 4, none⟩) (fun hk => by have := hk.1; simp only at this; omega) _
/-- A kid is laid. -/
theorem KidsW.setK (h : KidsW rb vb f k w0 w ns ks sn sk q) {v : V} (ho : OwnE 41 6 noV (IsVo q f w) (fun b => (w0.heap.size ≤ b ∧ b ≠ vb) ∨ b = w.heap.size) w' sk' (ks ++ [v])) (hg : Grow w sk w' sk') :
    VBlk 41 w' vb [.int .i64 k, .int .i64 0, .int .i64 0, .string ByteArray.empty, sn, sk] ∧ KidsW rb vb f k w0 (w'.setCell ⟨vb, 5, none⟩ sk') ns (ks ++ [v]) sn sk' q := by
  have hvo : sk.ownBlock ≠ some vb := fun e => (h.kids.own e).2 rfl
  have hvb := h.blk.lt
  have hblk : VBlk 41 w' vb [.int .i64 k, .int .i64 0, .int .i64 0, .string ByteArray.empty, sn, sk] := h.blk.keep hg.1 ⟨hvb, hvo⟩
  have hsz := h.keep.size
  have hO : ∀ b, (w0.heap.size ≤ b ∧ b ≠ vb) ∨ b = w.heap.size → w0.heap.size ≤ b ∧ b ≠ vb := fun b hb => hb.elim id fun e => by omega
  have hset : Keep (fun b => b ≠ vb) w' (w'.setCell ⟨vb, 5, none⟩ sk') := (Keep.refl _ w').setCell (fun hk => hk rfl) _
  have hP : ∀ x cs, IsVo q f w x cs → IsVo q f (w'.setCell ⟨vb, 5, none⟩ sk') x cs := fun x cs hx =>
    (hx.keep (O' := q) hg.1 (fun b hb _ => ⟨(h.qs b hb).2.1, (h.qs b hb).2.2.2.2⟩) fun _ h => h).keep hset (fun b hb _ => (h.qs b hb).2.2.1) fun _ h => h
  refine ⟨hblk, hblk.set 5 sk', (h.names.keep hg.1 (fun g hg2 => ⟨h.names.lt hg2, fun e => h.apart g hg2 e⟩) (fun _ h => h) fun _ _ h => h).keep hset (fun g hg2 => (h.names.own hg2).2) (fun _ h => h) fun _ _ h => h,
    ho.keep hset (fun g hg2 => (hO g (ho.own hg2)).2) hO hP, fun g hg2 e => (hg.2 g e).elim (fun h2 => h.apart g hg2 h2) fun h2 => by have := h.names.lt hg2; omega, fun b hb => ?_, ?_, h.vbe, h.rlt⟩
  · obtain ⟨h1, h2, h3, h4, h5⟩ := h.qs b hb
    exact ⟨h1, Nat.lt_of_lt_of_le h2 (Nat.le_trans hg.1.size hset.size), h3, h4, fun e => (hg.2 b e).elim h5 fun h6 => by omega⟩
  · have hvb2 := h.vbe
    exact (Keep.trans h.keep ((Keep.mono hg.1 fun b hb => ⟨Nat.lt_of_lt_of_le hb.1 hsz, fun e => by have := (h.kids.own e).1; omega⟩))).setCell (p := ⟨vb, 5, none⟩) (fun hk => by have := hk.1; simp only at this; omega) _
end
end K
end Go.Proofs.YtlamdhekjlnccaaGreatDoor

/- Reading (chapter 7): the reader's value. -/
namespace Go.Proofs.YtlamdhekjlnccaaGreatDoor
open Go.RowKit
namespace K
theorem elemV6 : ElemV Tryz.prog 39 41 6 88 := ElemV.mk' (z := .agg #[.int .i64 0, .int .i64 0, .int .i64 0, .string ByteArray.empty, .slice none 0 0, .slice none 0 0]) Tryz.underlying39 (by kernel_rfl) rfl (by omega)
theorem elemS1 : ElemV Tryz.prog 38 9 1 16 := ElemV.mk' (z := .string ByteArray.empty) Tryz.underlying38 (by kernel_rfl) rfl (by omega)

theorem zag_range {u : Nat} (h : u < 18446744073709551616) : -9223372036854775808 ≤ zag u ∧ zag u ≤ 9223372036854775807 := by unfold zag; split <;> omega
/-- What value promises. -/
def ValPost (m B rb : Nat) (w : World) (l : List Int) (e : Int) (r : Ending) (w' : World) : Prop :=
  ∃ v cs l' e', r = .returned (.agg cs.toArray) ∧ IsVo (fun b => w.heap.size ≤ b) (m + 1) w' v cs ∧ RS B w' rb l' e' ∧ KeepR rb w w' ∧ Out (rdV m) l e v l' e'

theorem Out.gv {m : Nat} {l l1 l2 : List Int} {e e1 e2 c : Int} {v : V} (h1 : Out rdB l e c l1 e1) (h2 : Out (GV m c) l1 e1 v l2 e2) : Out (rdV (m + 1)) l e v l2 e2 := by rw [rdV_GV]; exact h1.bind h2

set_option maxHeartbeats 16000000 in
theorem value_step (m : Nat) (ih : ∀ {B rb : Nat} {w : World} {l : List Int} {e : Int} (d : Int), d = 17 - (m : Int) → RS B w rb l e → B ≤ w.heap.size → Calls Tryz.prog 104 #[.pointer (some ⟨rb, 0, none⟩), .int .i64 d] w (ValPost m B rb w l e))
    {B rb : Nat} {w : World} {l : List Int} {e : Int} (d : Int) (hd : d = 17 - ((m + 1 : Nat) : Int)) (hm : m + 1 ≤ 16) (h : RS B w rb l e) (hB : B ≤ w.heap.size) :
    Calls Tryz.prog 104 #[.pointer (some ⟨rb, 0, none⟩), .int .i64 d] w (ValPost (m + 1) B rb w l e) := by
  refine enter (args := [.pointer (some ⟨rb, 0, none⟩), .int .i64 d]) Tryz.func104 rfl Tryz.ntmps104 rfl ?_
  refine kgo ?_
  refine WL.alloc (z := .agg #[.int .i64 0, .int .i64 0, .int .i64 0, .string ByteArray.empty, .slice none 0 0, .slice none 0 0]) rfl rfl rfl rfl (fun _ => by kernel_rfl) fun vb w1 hf => ?_
  have hf' : Fresh w vb w1 41 [.int .i64 0, .int .i64 0, .int .i64 0, .string ByteArray.empty, .slice none 0 0, .slice none 0 0] := hf
  clear hf
  have hvbe := hf'.eq
  have hrB := h.rlt
  have h1 : RS B w1 rb l e := h.keep (Keep.of_below hf'.below) fun b hb => Nat.lt_of_lt_of_le hb hB
  have hk1 : KeepR rb w w1 := KeepR.below hf'.below
  have hblk1 := hf'.blk
  have hsz1 := hf'.size
  clear hf'
  refine kgo ?_
  refine WL.call rfl rfl rfl rfl rfl Tryz.func107 rfl (by kernel_rfl) (byte_any h1) ?_
  rintro _ w2 ⟨c, l2, e2, rfl, hc0, hc1, h2, hk2, ho2⟩
  refine ⟨_, rfl, ?_⟩
  have hblk2 := hblk1.keep hk2 ⟨hblk1.lt, by omega⟩
  refine kgo ?_
  refine WL.store (v := .int .i64 c) rfl rfl rfl rfl rfl rfl (by kernel_rfl) (hblk2.cell 0 (by simp)) (hblk2.free 0) ?_
  -- the store into the box
  have stB : ∀ {wx : World} {i : Nat} (u : Value) {lx : List Int} {ex : Int}, RS B wx rb lx ex → KeepR rb w wx → RS B (wx.setCell ⟨vb, i, none⟩ u) rb lx ex ∧ KeepR rb w (wx.setCell ⟨vb, i, none⟩ u) := fun {wx i} u {lx ex} hr hk =>
    ⟨hr.keep (K := fun b => b ≠ vb) ((Keep.refl _ wx).setCell (fun hk => hk rfl) _) (fun b hb => by omega), Keep.setCell hk (fun hk => by have := hk.1; simp only at this; omega) _⟩
  obtain ⟨h3, hk3⟩ := stB (i := 0) (.int .i64 c) h2 (hk1.trans hk2)
  have hblk3 := hblk2.set 0 (.int .i64 c)
  generalize w2.setCell ⟨vb, 0, none⟩ (.int .i64 c) = w3 at h3 hk3 hblk3
  clear hblk2 h2 hk2 hblk1 hk1 h1
  simp only [List.set_cons_zero] at hblk3
  repeat (first | ((with_reducible refine WL.topT ?_ ?_); omega) | ((with_reducible refine WL.topF ?_ ?_); omega) | ((with_reducible refine WL.top64 ?_ ?_); omega) | refine WC.seq ?_ | refine WC.region ?_ | refine WL.nil ?_ | refine WC.skip ?_ | refine WC.exit ?_ | refine WC.ret ?_ | refine WQ.then rfl ?_ | refine WQ.thenExit ?_ | refine WQ.thenRet ?_ | refine WQ.blk ?_ | refine WQ.blkRet ?_ | refine WQ.blkHere rfl ?_ | refine WQ.blkOther rfl ?_ | refine WL.pure rfl rfl rfl rfl ?_ | refine WL.on rfl rfl ?_ | refine WL.off rfl rfl rfl ?_ | refine WL.load rfl rfl rfl rfl rfl rfl (by assumption) ?_ | refine WC.condTrue rfl ?_ | refine WC.condFalse rfl ?_)
  refine WL.load rfl rfl rfl rfl rfl rfl (hblk3.cell 0 (by simp)) ?_
  repeat (first | ((with_reducible refine WL.topT ?_ ?_); omega) | ((with_reducible refine WL.topF ?_ ?_); omega) | ((with_reducible refine WL.top64 ?_ ?_); omega) | refine WC.seq ?_ | refine WC.region ?_ | refine WL.nil ?_ | refine WC.skip ?_ | refine WC.exit ?_ | refine WC.ret ?_ | refine WQ.then rfl ?_ | refine WQ.thenExit ?_ | refine WQ.thenRet ?_ | refine WQ.blk ?_ | refine WQ.blkRet ?_ | refine WQ.blkHere rfl ?_ | refine WQ.blkOther rfl ?_ | refine WL.pure rfl rfl rfl rfl ?_ | refine WL.on rfl rfl ?_ | refine WL.off rfl rfl rfl ?_ | refine WL.load rfl rfl rfl rfl rfl rfl (by assumption) ?_ | refine WC.condTrue rfl ?_ | refine WC.condFalse rfl ?_)
  refine WC.mid (fun _ : V × List Value × List Int × Int => [(4, .pointer (some ⟨vb, 0, none⟩))])
    (fun i w' => VBlk 41 w' vb i.2.1 ∧ IsVo (fun b => w.heap.size ≤ b ∧ b ≠ vb) (m + 1 + 1) w' i.1 i.2.1 ∧ RS B w' rb i.2.2.1 i.2.2.2 ∧ KeepR rb w w' ∧ Out (rdV (m + 1)) l e i.1 i.2.2.1 i.2.2.2) rfl ?_ ?_
  rotate_left
  · rintro ⟨v, cs, l4, e4⟩ w4 ⟨hb4, hv4, hr4, hk4, ho4⟩
    simp only at hb4 hv4 hr4 hk4 ho4 ⊢
    have hcs := hv4.len
    refine kgo ?_
    refine WL.loadMid rfl rfl rfl rfl rfl rfl (VBlk.rangeAt hb4) hcs ?_
    refine WL.storeRow rfl rfl rfl rfl rfl rfl hb4 hcs hcs hv4.one ?_
    refine kgo ?_
    have hset : Keep (fun b => b ≠ vb) w4 (w4.setRow vb cs.toArray) := Keep.setRow (Keep.refl _ w4) (fun hk => hk rfl) _
    exact WQ.retC rfl rfl rfl hcs (hb4.setRow cs) ⟨v, cs, l4, e4, rfl, hv4.keep hset (fun b hb _ => hb.2) (fun b hb => hb.1), hr4.keep hset (fun b hb => by omega), Keep.setRow hk4 (fun hk => by have := hk.1; omega) _, ho4⟩
  by_cases k1 : c = 1
  · subst k1
    refine kgo ?_
    exact WQ.meet (.mk 1 0 0 noT [] [], _, l2, e2) ⟨rfl, trivial⟩ ⟨hblk3, isVo_leaf (by omega) (by omega) (by omega) (by decide), h3, hk3, ho2.gv (Out.congr (Out.pure _) (by unfold GV; rw [if_pos rfl]))⟩
  by_cases k2 : c = 2
  · subst k2
    refine kgo ?_
    refine WL.call rfl rfl rfl rfl rfl Tryz.func107 rfl (by kernel_rfl) (byte_any h3) ?_
    rintro _ w4 ⟨c2, l4, e4, rfl, hc20, hc21, h4, hk4, ho4⟩
    refine ⟨_, rfl, ?_⟩
    have hblk4 := hblk3.keep hk4 ⟨hblk3.lt, by omega⟩
    refine kgo ?_
    refine WL.store (v := .int .i64 c2) rfl rfl rfl rfl rfl rfl (by kernel_rfl) (hblk4.cell 1 (by simp)) (hblk4.free 1) ?_
    obtain ⟨h5, hk5⟩ := stB (i := 1) (.int .i64 c2) h4 (hk3.trans hk4)
    have hblk5 := hblk4.set 1 (.int .i64 c2)
    generalize w4.setCell ⟨vb, 1, none⟩ (.int .i64 c2) = w5 at h5 hk5 hblk5
    simp only [List.set_cons_zero, List.set_cons_succ] at hblk5
    refine kgo ?_
    refine WL.load rfl rfl rfl rfl rfl rfl (hblk5.cell 1 (by simp)) ?_
    by_cases hb2 : 1 < c2
    · refine kgo ?_
      refine WL.call rfl rfl rfl rfl rfl Tryz.func105 rfl (by kernel_rfl) (fail_any h5 3) ?_
      rintro _ w6 ⟨rfl, h6, hk6⟩
      refine ⟨_, rfl, ?_⟩
      refine kgo ?_
      refine WQ.meet (.mk 2 c2 0 noT [] [], _, l4, _) ⟨rfl, trivial⟩ ⟨hblk5.keep hk6 ⟨hblk5.lt, by omega⟩, isVo_leaf (by omega) (by omega) (by omega) (by decide), h6, hk5.trans hk6, ho2.gv (Out.congr (ho4.bind (Out.congr (Out.fail 3 (by omega)) ?_)) (by unfold GV; rw [if_neg k1, if_pos rfl]))⟩
      rw [if_pos hb2]
    · refine kgo ?_
      refine WQ.meet (.mk 2 c2 0 noT [] [], _, l4, _) ⟨rfl, trivial⟩ ⟨hblk5, isVo_leaf (by omega) (by omega) (by omega) (by decide), h5, hk5, ho2.gv (Out.congr (ho4.bind (Out.congr (Out.pure _) ?_)) (by unfold GV; rw [if_neg k1, if_pos rfl]))⟩
      rw [if_neg hb2]
  by_cases k3 : c = 3
  · subst k3
    refine kgo ?_
    refine WL.call rfl rfl rfl rfl rfl Tryz.func109 rfl (by kernel_rfl) (number_any h3) ?_
    rintro _ w4 ⟨u, l4, e4, rfl, hu, h4, hk4, ho4⟩
    refine ⟨_, rfl, ?_⟩
    refine WL.call rfl rfl rfl rfl rfl Tryz.func108 rfl (by kernel_rfl) (zag_any u hu w4) ?_
    rintro _ w4 ⟨rfl, rfl⟩
    refine ⟨_, rfl, ?_⟩
    have hz := zag_range hu
    have hblk4 := hblk3.keep hk4 ⟨hblk3.lt, by omega⟩
    refine kgo ?_
    refine WL.store (v := .int .i64 (zag u)) rfl rfl rfl rfl rfl rfl (by kernel_rfl) (hblk4.cell 1 (by simp)) (hblk4.free 1) ?_
    obtain ⟨h5, hk5⟩ := stB (i := 1) (.int .i64 (zag u)) h4 (hk3.trans hk4)
    have hblk5 := hblk4.set 1 (.int .i64 (zag u))
    refine kgo ?_
    exact WQ.meet (.mk 3 (zag u) 0 noT [] [], _, l4, _) ⟨rfl, trivial⟩ ⟨hblk5, isVo_leaf (by omega) hz (by omega) (by decide), h5, hk5, ho2.gv (Out.congr (ho4.bind (Out.pure (V.mk 3 (zag u) 0 noT [] []))) (by unfold GV; rw [if_neg k1, if_neg k2, if_pos rfl]))⟩
  by_cases k4 : c = 4
  · subst k4
    refine kgo ?_
    refine WL.call rfl rfl rfl rfl rfl Tryz.func109 rfl (by kernel_rfl) (number_any h3) ?_
    rintro _ w4 ⟨u, l4, e4, rfl, hu, h4, hk4, ho4⟩
    refine ⟨_, rfl, ?_⟩
    refine WL.call rfl rfl rfl rfl rfl Tryz.func108 rfl (by kernel_rfl) (zag_any u hu w4) ?_
    rintro _ w4 ⟨rfl, rfl⟩
    refine ⟨_, rfl, ?_⟩
    have hz := zag_range hu
    have hblk4 := hblk3.keep hk4 ⟨hblk3.lt, by omega⟩
    refine kgo ?_
    refine WL.store (v := .int .i64 (zag u)) rfl rfl rfl rfl rfl rfl (by kernel_rfl) (hblk4.cell 1 (by simp)) (hblk4.free 1) ?_
    obtain ⟨h5, hk5⟩ := stB (i := 1) (.int .i64 (zag u)) h4 (hk3.trans hk4)
    have hblk5 := hblk4.set 1 (.int .i64 (zag u))
    generalize w4.setCell ⟨vb, 1, none⟩ (.int .i64 (zag u)) = w5 at h5 hk5 hblk5
    simp only [List.set_cons_zero, List.set_cons_succ] at hblk5
    refine kgo ?_
    refine WL.call rfl rfl rfl rfl rfl Tryz.func107 rfl (by kernel_rfl) (byte_any h5) ?_
    rintro _ w6 ⟨c2, l6, e6, rfl, hc20, hc21, h6, hk6, ho6⟩
    refine ⟨_, rfl, ?_⟩
    have hblk6 := hblk5.keep hk6 ⟨hblk5.lt, by omega⟩
    refine kgo ?_
    refine WL.store (v := .int .i64 c2) rfl rfl rfl rfl rfl rfl (by kernel_rfl) (hblk6.cell 2 (by simp)) (hblk6.free 2) ?_
    obtain ⟨h7, hk7⟩ := stB (i := 2) (.int .i64 c2) h6 (hk5.trans hk6)
    have hblk7 := hblk6.set 2 (.int .i64 c2)
    refine kgo ?_
    exact WQ.meet (.mk 4 (zag u) c2 noT [] [], _, l6, _) ⟨rfl, trivial⟩ ⟨hblk7, isVo_leaf (by omega) hz (by omega) (by decide), h7, hk7, ho2.gv (Out.congr (ho4.bind (ho6.bind (Out.pure (V.mk 4 (zag u) c2 noT [] [])))) (by unfold GV; rw [if_neg k1, if_neg k2, if_neg k3, if_pos rfl]))⟩
  by_cases k5 : c = 5
  · subst k5
    refine kgo ?_
    refine WL.call rfl rfl rfl rfl rfl Tryz.func109 rfl (by kernel_rfl) (number_any h3) ?_
    rintro _ w4 ⟨u, l4, e4, rfl, hu, h4, hk4, ho4⟩
    refine ⟨_, rfl, ?_⟩
    have hz : -9223372036854775808 ≤ IntKind.i64.wrap (u : Int) ∧ IntKind.i64.wrap (u : Int) ≤ 9223372036854775807 := by rw [IntKind.wrap_i64]; omega
    have hblk4 := hblk3.keep hk4 ⟨hblk3.lt, by omega⟩
    refine WL.pure rfl rfl rfl rfl ?_
    refine WL.pure rfl rfl rfl rfl ?_
    refine WL.store (v := .int .i64 (IntKind.i64.wrap (u : Int))) rfl rfl rfl rfl rfl rfl (by kernel_rfl) (hblk4.cell 1 (by simp)) (hblk4.free 1) ?_
    obtain ⟨h5, hk5⟩ := stB (i := 1) (.int .i64 (IntKind.i64.wrap (u : Int))) h4 (hk3.trans hk4)
    have hblk5 := hblk4.set 1 (.int .i64 (IntKind.i64.wrap (u : Int)))
    refine kgo ?_
    exact WQ.meet (.mk 5 (IntKind.i64.wrap (u : Int)) 0 noT [] [], _, l4, _) ⟨rfl, trivial⟩ ⟨hblk5, isVo_leaf (by omega) hz (by omega) (by decide), h5, hk5, ho2.gv (Out.congr (ho4.bind (Out.pure (V.mk 5 (IntKind.i64.wrap (u : Int)) 0 noT [] []))) (by unfold GV; rw [if_neg k1, if_neg k2, if_neg k3, if_neg k4, if_pos rfl]))⟩
  by_cases k67 : c = 6 ∨ c = 7
  · have hg : GV m c = fun r => (rdT r).bind fun t r => .ok (.mk c 0 0 t [] []) r := by funext r; unfold GV; rw [if_neg k1, if_neg k2, if_neg k3, if_neg k4, if_neg k5, if_pos k67]
    rcases k67 with k6 | k7
    all_goals
      refine kgo ?_
      refine WL.call rfl rfl rfl rfl rfl Tryz.func110 rfl (by kernel_rfl) (text_any h3) ?_
      rintro _ w4 ⟨t, l4, e4, rfl, ht, h4, hk4, ho4⟩
      refine ⟨_, rfl, ?_⟩
      have hblk4 := hblk3.keep hk4 ⟨hblk3.lt, by omega⟩
      refine kgo ?_
      refine WL.store (v := .string t) rfl rfl rfl rfl rfl rfl (by kernel_rfl) (hblk4.cell 3 (by simp)) (hblk4.free 3) ?_
      obtain ⟨h5, hk5⟩ := stB (i := 3) (.string t) h4 (hk3.trans hk4)
      have hblk5 := hblk4.set 3 (.string t)
      refine kgo ?_
      exact WQ.meet (.mk c 0 0 t [] [], _, l4, _) ⟨rfl, trivial⟩ ⟨hblk5, isVo_leaf (by omega) (by omega) (by omega) (by omega), h5, hk5, ho2.gv (by rw [hg]; exact ho4.bind (Out.pure (V.mk c 0 0 t [] [])))⟩
  by_cases k89 : c = 8 ∨ c = 9
  · have hg : GV m c = fun r => (rdC r).bind fun n r => (rdK (rdV m) (decide (c = 9)) n [] [] r).bind fun p r => .ok (.mk c 0 0 noT p.1 p.2) r := by
      funext r; unfold GV; rw [if_neg k1, if_neg k2, if_neg k3, if_neg k4, if_neg k5, if_neg k67, if_pos k89]
    rcases k89 with k8 | k9
    · refine kgo ?_
      refine WL.call rfl rfl rfl rfl rfl Tryz.func111 rfl (by kernel_rfl) (count_any h3) ?_
      rintro _ w4 ⟨n, l4, e4, rfl, hn, h4, hk4, ho4⟩
      refine ⟨_, rfl, ?_⟩
      have hblk4 := hblk3.keep hk4 ⟨hblk3.lt, by omega⟩
      rw [show decide (c = 9) = false by simp [k8]] at hg
      refine kgo ?_
      refine WC.loop (fun i : Nat × List ByteArray × List V × List Int × Int => [(0, .pointer (some ⟨rb, 0, none⟩)), (1, .int .i64 d), (4, .pointer (some ⟨vb, 0, none⟩)), (63, .int .i64 n), (64, .int .i64 i.1)])
        (fun i wr => i.1 ≤ n ∧ i.2.1.length ≤ i.1 ∧ i.2.2.1.length ≤ i.1 ∧ (∃ sn sk q, KidsW rb vb (m + 1) c w wr i.2.1 i.2.2.1 sn sk q) ∧ RS B wr rb i.2.2.2.1 i.2.2.2.2 ∧
          ∀ p l' e', Out (rdK (rdV m) false (n - i.1) i.2.1 i.2.2.1) i.2.2.2.1 i.2.2.2.2 p l' e' → Out (rdK (rdV m) false n [] []) l4 e4 p l' e') (fun i => n - i.1) (0, [], [], l4, e4)
        ⟨rfl, rfl, rfl, rfl, rfl, trivial⟩ ⟨Nat.zero_le _, Nat.le_refl _, Nat.le_refl _, ⟨_, _, fun _ => False, hblk4, OwnE.nil _ _ _ _ _ _, OwnE.nil _ _ _ _ _ _, (fun g hg => by cases hg), (fun b hb => hb.elim), hk3.trans hk4, hvbe, by omega⟩, h4, fun _ _ _ h => h⟩ ?_
      rintro ⟨i, ns, ks, li, ei⟩ wr ⟨hi, hnl, hkl, ⟨sn, sk, q, hK⟩, hr, hcont⟩
      simp only at hi hnl hkl hK hr hcont ⊢
      have hend : ∀ {wx : World} {sn sk : Value} {ns : List ByteArray} {ks : List V} {q : Nat → Prop} {li : List Int} {ei : Int}, KidsW rb vb (m + 1) c w wx ns ks sn sk q → RS B wx rb li ei → Out (rdK (rdV m) false n [] []) l4 e4 (ns, ks) li ei →
          VBlk 41 wx vb [.int .i64 c, .int .i64 0, .int .i64 0, .string ByteArray.empty, sn, sk] ∧ IsVo (fun b => w.heap.size ≤ b ∧ b ≠ vb) (m + 1 + 1) wx (.mk c 0 0 noT ns ks) [.int .i64 c, .int .i64 0, .int .i64 0, .string ByteArray.empty, sn, sk] ∧ RS B wx rb li ei ∧ KeepR rb w wx ∧ Out (rdV (m + 1)) l e (.mk c 0 0 noT ns ks) li ei :=
        fun {wx sn sk ns ks q li ei} h1 h2 h3 => ⟨h1.blk, ⟨sn, sk, rfl, wf_i64 (by show -9223372036854775808 ≤ c ∧ c ≤ _; omega), wf_i64 (by show -9223372036854775808 ≤ (0 : Int) ∧ (0 : Int) ≤ _; omega), wf_i64 (by show -9223372036854775808 ≤ (0 : Int) ∧ (0 : Int) ≤ _; omega), by show ByteArray.empty.size ≤ _; decide, h1.names.els, h1.kids.els.mono (fun _ h => h) fun x cs hx => hx.mono fun b hb => ⟨(h1.qs b hb).1, (h1.qs b hb).2.2.1⟩⟩, h2, h1.keep,
          ho2.gv (by rw [hg]; exact ho4.bind (h3.bind (Out.pure (V.mk c 0 0 noT ns ks))))⟩
      by_cases hin : i < n
      · obtain ⟨rsp, rcap, hrb, -⟩ := hr.ex
        refine kgo ?_
        refine WL.load rfl rfl rfl rfl rfl rfl (hrb.cell 1 (by simp)) ?_
        by_cases hei : ei = 0
        · subst hei
          have hni : n - i = (n - (i + 1)) + 1 := by omega
          rw [hni] at hcont
          have hwr := hK.keep.size
          refine kgo ?_
          refine WL.load rfl rfl rfl rfl rfl rfl (hK.blk.cell 0 (by simp)) ?_
          refine kgo ?_
          refine WL.load rfl rfl rfl rfl rfl rfl (hrb.cell 1 (by simp)) ?_
          refine kgo ?_
          refine WC.drawn 9 (fun wx => VBlk 41 wx vb [.int .i64 c, .int .i64 0, .int .i64 0, .string ByteArray.empty, sn, sk]) fun w5 hd5 => ?_
          have hK5 := hK.below (hd5.below _)
          have hr5 := hr.keep (Keep.of_below (hd5.below wr.heap.size)) fun b hb => by omega
          have hsz5 : wr.heap.size ≤ w5.heap.size := (hd5.below 0).size
          have hS := hK5.blk
          (((first | refine WD.free 0 rfl (by kernel_rfl) rfl rfl (fun _ _ _ _ _ h => h) rfl rfl (.inr hS) ?_ | refine WD.skip 0 rfl (by kernel_rfl) rfl rfl (fun _ _ _ _ _ h => h) rfl (.inr hS) ?_); try (first | ((with_reducible refine WD.topT ?_ ?_); omega) | ((with_reducible refine WD.topF ?_ ?_); omega) | ((with_reducible refine WD.top64 ?_ ?_); omega))))
          refine WD.load 1 [7, 8, 9] rfl (by kernel_rfl) rfl rfl (fun _ _ _ _ _ h => h) rfl rfl rfl rfl (fun wx hx => hx.cell 5 (by simp)) hS ?_
          (((first | refine WD.free 2 rfl (by kernel_rfl) rfl rfl (fun _ _ _ _ _ h => h) rfl rfl (.inr hS) ?_ | refine WD.skip 2 rfl (by kernel_rfl) rfl rfl (fun _ _ _ _ _ h => h) rfl (.inr hS) ?_); try (first | ((with_reducible refine WD.topT ?_ ?_); omega) | ((with_reducible refine WD.topF ?_ ?_); omega) | ((with_reducible refine WD.top64 ?_ ?_); omega))); ((first | refine WD.free 3 rfl (by kernel_rfl) rfl rfl (fun _ _ _ _ _ h => h) rfl rfl (.inr hS) ?_ | refine WD.skip 3 rfl (by kernel_rfl) rfl rfl (fun _ _ _ _ _ h => h) rfl (.inr hS) ?_); try (first | ((with_reducible refine WD.topT ?_ ?_); omega) | ((with_reducible refine WD.topF ?_ ?_); omega) | ((with_reducible refine WD.top64 ?_ ?_); omega))); ((first | refine WD.free 4 rfl (by kernel_rfl) rfl rfl (fun _ _ _ _ _ h => h) rfl rfl (.inr hS) ?_ | refine WD.skip 4 rfl (by kernel_rfl) rfl rfl (fun _ _ _ _ _ h => h) rfl (.inr hS) ?_); try (first | ((with_reducible refine WD.topT ?_ ?_); omega) | ((with_reducible refine WD.topF ?_ ?_); omega) | ((with_reducible refine WD.top64 ?_ ?_); omega))))
          refine WD.one 5 (by kernel_rfl) rfl ?_
          refine WL.call rfl rfl rfl rfl rfl Tryz.func104 rfl (by kernel_rfl) (ih (d + 1) (by omega) hr5 (by omega)) ?_
          rintro _ w6 ⟨v, cs, l6, e6, rfl, hv6, hr6, hk6, ho6⟩
          refine ⟨_, rfl, ?_⟩
          have hvb5 := hK5.blk.lt
          have hsn5 : ∀ g, (sn).ownBlock = some g → g < w5.heap.size := fun g hg => hK5.names.lt hg
          have hsk5 : ∀ g, sk.ownBlock = some g → g < w5.heap.size := fun g hg => hK5.kids.lt hg
          have hK6 := hK5.read hk6
          refine WL.nil (WQ.dk (.inr hK6.blk) ?_)
          refine WD.one 6 (by kernel_rfl) rfl ?_
          refine WL.lit1 rfl rfl rfl rfl rfl rfl rfl hv6.len ⟨by omega, by omega⟩ (by kernel_rfl) fun g7 w7 hf7 => ?_
          have hK7 := (hK6.below hf7.below).widen (S := w5.heap.size) (by have := hK5.keep.size; omega) hvb5 hsn5 hsk5
          have hr7 := hr6.keep (Keep.of_below hf7.below) fun b hb => by have := hk6.size; omega
          have hv7 := hv6.there.keep (O' := fun b => q b ∨ (w5.heap.size ≤ b ∧ b < w7.heap.size)) (Keep.of_below hf7.below) (fun b _ h => h) fun b hb => .inr ⟨hb.1, by have := hf7.size; omega⟩
          refine WL.nil (WQ.dk (.inr hK7.blk) ?_)
          refine WD.one 7 (by kernel_rfl) rfl ?_
          refine WL.snoc rfl rfl rfl rfl elemV6 rfl hK7.kids rfl hf7.blk hv6.one hv6.len hv7 (by omega) (by omega) fun sk8 w8 ho8 hg8 => ?_
          obtain ⟨hb8, hK9⟩ := hK7.setK ho8 hg8
          refine WL.nil (WQ.dk (.inr hb8) ?_)
          have hsk8 : sk8.oneCell' = true := ho8.one
          refine WD.one 8 (by kernel_rfl) rfl ?_
          refine WL.pure rfl rfl rfl rfl ?_
          refine WL.nil (WQ.dk (.inr hb8) ?_)
          refine WD.one 9 (by kernel_rfl) rfl ?_
          refine WL.store rfl rfl rfl rfl rfl hsk8 (by kernel_rfl) (hb8.cell 5 (by simp)) (hb8.free 5) ?_
          have hr9 : RS B (w8.setCell ⟨vb, 5, none⟩ sk8) rb l6 e6 := (hr7.keep hg8.1 fun b hb => ⟨by have := hr7.ex; have := hf7.size; have := hk6.size; omega, fun e => by have := (hK7.kids.own e).1; omega⟩).keep (K := fun b => b ≠ vb) ((Keep.refl _ w8).setCell (fun hk => hk rfl) _) fun b hb => by omega
          generalize w8.setCell ⟨vb, 5, none⟩ sk8 = w9 at hK9 hr9
          refine WL.nil (WQ.dk (.inl rfl) ?_)
          refine WD.done (by kernel_rfl) ?_
          refine kgo ?_
          refine WQ.again (i + 1, ns, ks ++ [v], l6, e6) ⟨rfl, rfl, rfl, rfl, rfl, trivial⟩ ⟨hin, by show ns.length ≤ i + 1; omega, by simp only [List.length_append, List.length_cons, List.length_nil]; omega, ⟨sn, sk8, _, hK9⟩, hr9, fun p l' e' ho => ?_⟩ (by show n - (i + 1) < n - i; omega)
          refine hcont p l' e' (Out.congr (ho6.bind (g := fun v r' => rdK (rdV m) false (n - (i + 1)) ns (ks ++ [v]) r') ho) ?_)
          rw [rdK, if_neg (by simp)]
        · refine kgo ?_
          exact WQ.meet (.mk c 0 0 noT ns ks, _, li, ei) ⟨rfl, trivial⟩ (hend hK hr (hcont _ _ _ (.ofBad hei)))
      · obtain rfl : i = n := by omega
        refine kgo ?_
        exact WQ.meet (.mk c 0 0 noT ns ks, _, li, ei) ⟨rfl, trivial⟩ (hend hK hr (hcont _ _ _ (Out.congr (Out.pure _) (by rw [Nat.sub_self]; rfl))))
    · refine kgo ?_
      refine WL.call rfl rfl rfl rfl rfl Tryz.func111 rfl (by kernel_rfl) (count_any h3) ?_
      rintro _ w4 ⟨n, l4, e4, rfl, hn, h4, hk4, ho4⟩
      refine ⟨_, rfl, ?_⟩
      have hblk4 := hblk3.keep hk4 ⟨hblk3.lt, by omega⟩
      rw [show decide (c = 9) = true by simp [k9]] at hg
      refine kgo ?_
      refine WC.loop (fun i : Nat × List ByteArray × List V × List Int × Int => [(0, .pointer (some ⟨rb, 0, none⟩)), (1, .int .i64 d), (4, .pointer (some ⟨vb, 0, none⟩)), (63, .int .i64 n), (64, .int .i64 i.1)])
        (fun i wr => i.1 ≤ n ∧ i.2.1.length ≤ i.1 ∧ i.2.2.1.length ≤ i.1 ∧ (∃ sn sk q, KidsW rb vb (m + 1) c w wr i.2.1 i.2.2.1 sn sk q) ∧ RS B wr rb i.2.2.2.1 i.2.2.2.2 ∧
          ∀ p l' e', Out (rdK (rdV m) true (n - i.1) i.2.1 i.2.2.1) i.2.2.2.1 i.2.2.2.2 p l' e' → Out (rdK (rdV m) true n [] []) l4 e4 p l' e') (fun i => n - i.1) (0, [], [], l4, e4)
        ⟨rfl, rfl, rfl, rfl, rfl, trivial⟩ ⟨Nat.zero_le _, Nat.le_refl _, Nat.le_refl _, ⟨_, _, fun _ => False, hblk4, OwnE.nil _ _ _ _ _ _, OwnE.nil _ _ _ _ _ _, (fun g hg => by cases hg), (fun b hb => hb.elim), hk3.trans hk4, hvbe, by omega⟩, h4, fun _ _ _ h => h⟩ ?_
      rintro ⟨i, ns, ks, li, ei⟩ wr ⟨hi, hnl, hkl, ⟨sn, sk, q, hK⟩, hr, hcont⟩
      simp only at hi hnl hkl hK hr hcont ⊢
      have hend : ∀ {wx : World} {sn sk : Value} {ns : List ByteArray} {ks : List V} {q : Nat → Prop} {li : List Int} {ei : Int}, KidsW rb vb (m + 1) c w wx ns ks sn sk q → RS B wx rb li ei → Out (rdK (rdV m) true n [] []) l4 e4 (ns, ks) li ei →
          VBlk 41 wx vb [.int .i64 c, .int .i64 0, .int .i64 0, .string ByteArray.empty, sn, sk] ∧ IsVo (fun b => w.heap.size ≤ b ∧ b ≠ vb) (m + 1 + 1) wx (.mk c 0 0 noT ns ks) [.int .i64 c, .int .i64 0, .int .i64 0, .string ByteArray.empty, sn, sk] ∧ RS B wx rb li ei ∧ KeepR rb w wx ∧ Out (rdV (m + 1)) l e (.mk c 0 0 noT ns ks) li ei :=
        fun {wx sn sk ns ks q li ei} h1 h2 h3 => ⟨h1.blk, ⟨sn, sk, rfl, wf_i64 (by show -9223372036854775808 ≤ c ∧ c ≤ _; omega), wf_i64 (by show -9223372036854775808 ≤ (0 : Int) ∧ (0 : Int) ≤ _; omega), wf_i64 (by show -9223372036854775808 ≤ (0 : Int) ∧ (0 : Int) ≤ _; omega), by show ByteArray.empty.size ≤ _; decide, h1.names.els, h1.kids.els.mono (fun _ h => h) fun x cs hx => hx.mono fun b hb => ⟨(h1.qs b hb).1, (h1.qs b hb).2.2.1⟩⟩, h2, h1.keep,
          ho2.gv (by rw [hg]; exact ho4.bind (h3.bind (Out.pure (V.mk c 0 0 noT ns ks))))⟩
      by_cases hin : i < n
      · obtain ⟨rsp, rcap, hrb, -⟩ := hr.ex
        refine kgo ?_
        refine WL.load rfl rfl rfl rfl rfl rfl (hrb.cell 1 (by simp)) ?_
        by_cases hei : ei = 0
        · subst hei
          have hni : n - i = (n - (i + 1)) + 1 := by omega
          rw [hni] at hcont
          have hwr := hK.keep.size
          refine kgo ?_
          refine WL.load rfl rfl rfl rfl rfl rfl (hK.blk.cell 0 (by simp)) ?_
          refine kgo ?_
          refine WC.drawn 7 (fun wx => VBlk 41 wx vb [.int .i64 c, .int .i64 0, .int .i64 0, .string ByteArray.empty, sn, sk]) fun w5 hd5 => ?_
          have hK5 := hK.below (hd5.below _)
          have hr5 := hr.keep (Keep.of_below (hd5.below wr.heap.size)) fun b hb => by omega
          have hsz5 : wr.heap.size ≤ w5.heap.size := (hd5.below 0).size
          have hS := hK5.blk
          (((first | refine WD.free 0 rfl (by kernel_rfl) rfl rfl (fun _ _ _ _ _ h => h) rfl rfl (.inr hS) ?_ | refine WD.skip 0 rfl (by kernel_rfl) rfl rfl (fun _ _ _ _ _ h => h) rfl (.inr hS) ?_); try (first | ((with_reducible refine WD.topT ?_ ?_); omega) | ((with_reducible refine WD.topF ?_ ?_); omega) | ((with_reducible refine WD.top64 ?_ ?_); omega))))
          refine WD.load 1 [5, 6, 7] rfl (by kernel_rfl) rfl rfl (fun _ _ _ _ _ h => h) rfl rfl rfl rfl (fun wx hx => hx.cell 4 (by simp)) hS ?_
          (((first | refine WD.free 2 rfl (by kernel_rfl) rfl rfl (fun _ _ _ _ _ h => h) rfl rfl (.inr hS) ?_ | refine WD.skip 2 rfl (by kernel_rfl) rfl rfl (fun _ _ _ _ _ h => h) rfl (.inr hS) ?_); try (first | ((with_reducible refine WD.topT ?_ ?_); omega) | ((with_reducible refine WD.topF ?_ ?_); omega) | ((with_reducible refine WD.top64 ?_ ?_); omega))))
          refine WD.one 3 (by kernel_rfl) rfl ?_
          refine WL.call rfl rfl rfl rfl rfl Tryz.func110 rfl (by kernel_rfl) (text_any hr5) ?_
          rintro _ w6 ⟨t, lt, et, rfl, ht, hr6, hk6, hot⟩
          refine ⟨_, rfl, ?_⟩
          have hK6 := hK5.read hk6
          refine WL.nil (WQ.dk (.inr hK6.blk) ?_)
          refine WD.one 4 (by kernel_rfl) rfl ?_
          refine WL.lit1 (cs := [.string t]) rfl rfl rfl rfl rfl rfl rfl rfl ⟨by omega, by omega⟩ (by kernel_rfl) fun g7 w7 hf7 => ?_
          have hK7 := hK6.below hf7.below
          have hr7 := hr6.keep (Keep.of_below hf7.below) fun b hb => by have := hk6.size; omega
          refine WL.nil (WQ.dk (.inr hK7.blk) ?_)
          refine WD.one 5 (by kernel_rfl) rfl ?_
          refine WL.snoc (y := t) rfl rfl rfl rfl elemS1 rfl hK7.names rfl hf7.blk (by intro u hu; simp at hu; rw [hu]; rfl) rfl ⟨rfl, by omega⟩ (by omega) (by omega) fun sn8 w8 ho8 hg8 => ?_
          obtain ⟨hb8, hK9⟩ := hK7.setN ho8 hg8
          refine WL.nil (WQ.dk (.inr hb8) ?_)
          have hsn8 : sn8.oneCell' = true := ho8.one
          refine WD.one 6 (by kernel_rfl) rfl ?_
          refine WL.pure rfl rfl rfl rfl ?_
          refine WL.nil (WQ.dk (.inr hb8) ?_)
          refine WD.one 7 (by kernel_rfl) rfl ?_
          refine WL.store rfl rfl rfl rfl rfl hsn8 (by kernel_rfl) (hb8.cell 4 (by simp)) (hb8.free 4) ?_
          have hr9 : RS B (w8.setCell ⟨vb, 4, none⟩ sn8) rb lt et := (hr7.keep hg8.1 fun b hb => ⟨by have := hf7.size; have := hk6.size; omega, fun e => by have := (hK7.names.own e).1; omega⟩).keep (K := fun b => b ≠ vb) ((Keep.refl _ w8).setCell (fun hk => hk rfl) _) fun b hb => by omega
          generalize w8.setCell ⟨vb, 4, none⟩ sn8 = w9 at hK9 hr9
          refine WL.nil (WQ.dk (.inl rfl) ?_)
          refine WD.done (by kernel_rfl) ?_
          obtain ⟨rsp9, rcap9, hrb9, -⟩ := hr9.ex
          clear hK7 hr7 hb8 hK6 hr6 hK5 hr5 hS hk6 ho8 hg8
          refine kgo ?_
          refine WL.load rfl rfl rfl rfl rfl rfl (hrb9.cell 1 (by simp)) ?_
          by_cases het : et = 0
          · subst het
            have hwr := hK9.keep.size
            refine kgo ?_
            refine WC.drawn 9 (fun wx => VBlk 41 wx vb [.int .i64 c, .int .i64 0, .int .i64 0, .string ByteArray.empty, sn8, sk]) fun w15 hd5 => ?_
            have hK5 := hK9.below (hd5.below _)
            have hr5 := hr9.keep (Keep.of_below (hd5.below w9.heap.size)) fun b hb => by omega
            have hsz5 : w9.heap.size ≤ w15.heap.size := (hd5.below 0).size
            have hS := hK5.blk
            (((first | refine WD.free 0 rfl (by kernel_rfl) rfl rfl (fun _ _ _ _ _ h => h) rfl rfl (.inr hS) ?_ | refine WD.skip 0 rfl (by kernel_rfl) rfl rfl (fun _ _ _ _ _ h => h) rfl (.inr hS) ?_); try (first | ((with_reducible refine WD.topT ?_ ?_); omega) | ((with_reducible refine WD.topF ?_ ?_); omega) | ((with_reducible refine WD.top64 ?_ ?_); omega))))
            refine WD.load 1 [7, 8, 9] rfl (by kernel_rfl) rfl rfl (fun _ _ _ _ _ h => h) rfl rfl rfl rfl (fun wx hx => hx.cell 5 (by simp)) hS ?_
            (((first | refine WD.free 2 rfl (by kernel_rfl) rfl rfl (fun _ _ _ _ _ h => h) rfl rfl (.inr hS) ?_ | refine WD.skip 2 rfl (by kernel_rfl) rfl rfl (fun _ _ _ _ _ h => h) rfl (.inr hS) ?_); try (first | ((with_reducible refine WD.topT ?_ ?_); omega) | ((with_reducible refine WD.topF ?_ ?_); omega) | ((with_reducible refine WD.top64 ?_ ?_); omega))); ((first | refine WD.free 3 rfl (by kernel_rfl) rfl rfl (fun _ _ _ _ _ h => h) rfl rfl (.inr hS) ?_ | refine WD.skip 3 rfl (by kernel_rfl) rfl rfl (fun _ _ _ _ _ h => h) rfl (.inr hS) ?_); try (first | ((with_reducible refine WD.topT ?_ ?_); omega) | ((with_reducible refine WD.topF ?_ ?_); omega) | ((with_reducible refine WD.top64 ?_ ?_); omega))); ((first | refine WD.free 4 rfl (by kernel_rfl) rfl rfl (fun _ _ _ _ _ h => h) rfl rfl (.inr hS) ?_ | refine WD.skip 4 rfl (by kernel_rfl) rfl rfl (fun _ _ _ _ _ h => h) rfl (.inr hS) ?_); try (first | ((with_reducible refine WD.topT ?_ ?_); omega) | ((with_reducible refine WD.topF ?_ ?_); omega) | ((with_reducible refine WD.top64 ?_ ?_); omega))))
            refine WD.one 5 (by kernel_rfl) rfl ?_
            refine WL.call rfl rfl rfl rfl rfl Tryz.func104 rfl (by kernel_rfl) (ih (d + 1) (by omega) hr5 (by omega)) ?_
            rintro _ w16 ⟨v, cs, l6, e6, rfl, hv6, hr6, hk6, ho6⟩
            refine ⟨_, rfl, ?_⟩
            have hvb5 := hK5.blk.lt
            have hsn5 : ∀ g, (sn8).ownBlock = some g → g < w15.heap.size := fun g hg => hK5.names.lt hg
            have hsk5 : ∀ g, sk.ownBlock = some g → g < w15.heap.size := fun g hg => hK5.kids.lt hg
            have hK6 := hK5.read hk6
            refine WL.nil (WQ.dk (.inr hK6.blk) ?_)
            refine WD.one 6 (by kernel_rfl) rfl ?_
            refine WL.lit1 rfl rfl rfl rfl rfl rfl rfl hv6.len ⟨by omega, by omega⟩ (by kernel_rfl) fun g7 w17 hf7 => ?_
            have hK7 := (hK6.below hf7.below).widen (S := w15.heap.size) (by have := hK5.keep.size; omega) hvb5 hsn5 hsk5
            have hr7 := hr6.keep (Keep.of_below hf7.below) fun b hb => by have := hk6.size; omega
            have hv7 := hv6.there.keep (O' := fun b => q b ∨ (w15.heap.size ≤ b ∧ b < w17.heap.size)) (Keep.of_below hf7.below) (fun b _ h => h) fun b hb => .inr ⟨hb.1, by have := hf7.size; omega⟩
            refine WL.nil (WQ.dk (.inr hK7.blk) ?_)
            refine WD.one 7 (by kernel_rfl) rfl ?_
            refine WL.snoc rfl rfl rfl rfl elemV6 rfl hK7.kids rfl hf7.blk hv6.one hv6.len hv7 (by omega) (by omega) fun sk8 w18 ho8 hg8 => ?_
            obtain ⟨hb8, hK9⟩ := hK7.setK ho8 hg8
            refine WL.nil (WQ.dk (.inr hb8) ?_)
            have hsk8 : sk8.oneCell' = true := ho8.one
            refine WD.one 8 (by kernel_rfl) rfl ?_
            refine WL.pure rfl rfl rfl rfl ?_
            refine WL.nil (WQ.dk (.inr hb8) ?_)
            refine WD.one 9 (by kernel_rfl) rfl ?_
            refine WL.store rfl rfl rfl rfl rfl hsk8 (by kernel_rfl) (hb8.cell 5 (by simp)) (hb8.free 5) ?_
            have hr9 : RS B (w18.setCell ⟨vb, 5, none⟩ sk8) rb l6 e6 := (hr7.keep hg8.1 fun b hb => ⟨by have := hr7.ex; have := hf7.size; have := hk6.size; omega, fun e => by have := (hK7.kids.own e).1; omega⟩).keep (K := fun b => b ≠ vb) ((Keep.refl _ w18).setCell (fun hk => hk rfl) _) fun b hb => by omega
            generalize w18.setCell ⟨vb, 5, none⟩ sk8 = w19 at hK9 hr9
            refine WL.nil (WQ.dk (.inl rfl) ?_)
            refine WD.done (by kernel_rfl) ?_
            refine kgo ?_
            refine WQ.again (i + 1, (ns ++ [t]), ks ++ [v], l6, e6) ⟨rfl, rfl, rfl, rfl, rfl, trivial⟩ ⟨hin, by simp only [List.length_append, List.length_cons, List.length_nil]; omega, by simp only [List.length_append, List.length_cons, List.length_nil]; omega, ⟨sn8, sk8, _, hK9⟩, hr9, fun p l' e' ho => ?_⟩ (by show n - (i + 1) < n - i; omega)
            refine hcont p l' e' (Out.congr (hot.bind (g := fun s r => (rdV m r).bind fun v r' => rdK (rdV m) true (n - (i + 1)) (ns ++ [s]) (ks ++ [v]) r') (ho6.bind (g := fun v r' => rdK (rdV m) true (n - (i + 1)) (ns ++ [t]) (ks ++ [v]) r') ho)) ?_)
            rw [rdK, if_pos rfl]
          · refine kgo ?_
            refine WQ.again (i + 1, ns ++ [t], ks, lt, et) ⟨rfl, rfl, rfl, rfl, rfl, trivial⟩ ⟨hin, by simp only [List.length_append, List.length_cons, List.length_nil]; omega, by show ks.length ≤ i + 1; omega, ⟨sn8, sk, q, hK9⟩, hr9, fun p l' e' ho => ?_⟩ (by show n - (i + 1) < n - i; omega)
            obtain rfl : e' = et := ho.bad het
            refine hcont p l' e' (Out.congr (Out.stop (g := fun s r => (rdV m r).bind fun v r' => rdK (rdV m) true (n - (i + 1)) (ns ++ [s]) (ks ++ [v]) r') hot het ho.len) ?_)
            rw [rdK, if_pos rfl]
        · refine kgo ?_
          exact WQ.meet (.mk c 0 0 noT ns ks, _, li, ei) ⟨rfl, trivial⟩ (hend hK hr (hcont _ _ _ (.ofBad hei)))
      · obtain rfl : i = n := by omega
        refine kgo ?_
        exact WQ.meet (.mk c 0 0 noT ns ks, _, li, ei) ⟨rfl, trivial⟩ (hend hK hr (hcont _ _ _ (Out.congr (Out.pure _) (by rw [Nat.sub_self]; rfl))))
  · have hg : GV m c = fun _ => .bad 3 := by
      funext r; unfold GV; rw [if_neg k1, if_neg k2, if_neg k3, if_neg k4, if_neg k5, if_neg k67, if_neg k89]
    refine kgo ?_
    refine WL.call rfl rfl rfl rfl rfl Tryz.func105 rfl (by kernel_rfl) (fail_any h3 3) ?_
    rintro _ w4 ⟨rfl, h4, hk4⟩
    refine ⟨_, rfl, ?_⟩
    refine kgo ?_
    exact WQ.meet (.mk c 0 0 noT [] [], _, l2, _) ⟨rfl, trivial⟩ ⟨hblk3.keep hk4 ⟨hblk3.lt, by omega⟩, isVo_leaf (by omega) (by omega) (by omega) (by decide), h4, hk3.trans hk4, ho2.gv (by rw [hg]; exact Out.fail 3 (by omega))⟩

/-- The reader's value, so many levels deep. -/
theorem value_any : ∀ (m : Nat) {B rb : Nat} {w : World} {l : List Int} {e : Int} (d : Int), d = 17 - (m : Int) → m ≤ 16 → RS B w rb l e → B ≤ w.heap.size → Calls Tryz.prog 104 #[.pointer (some ⟨rb, 0, none⟩), .int .i64 d] w (ValPost m B rb w l e)
  | 0, B, rb, w, l, e, d, hd, _, h, hB => by
    refine enter (args := [.pointer (some ⟨rb, 0, none⟩), .int .i64 d]) Tryz.func104 rfl Tryz.ntmps104 rfl ?_
    refine kgo ?_
    refine WL.alloc (z := .agg #[.int .i64 0, .int .i64 0, .int .i64 0, .string ByteArray.empty, .slice none 0 0, .slice none 0 0]) rfl rfl rfl rfl (fun _ => by kernel_rfl) fun vb w1 hf => ?_
    have hf' : Fresh w vb w1 41 [.int .i64 0, .int .i64 0, .int .i64 0, .string ByteArray.empty, .slice none 0 0, .slice none 0 0] := hf
    clear hf
    have hvbe := hf'.eq
    have hrB := h.rlt
    have h1 : RS B w1 rb l e := h.keep (Keep.of_below hf'.below) fun b hb => Nat.lt_of_lt_of_le hb hB
    have hk1 : KeepR rb w w1 := KeepR.below hf'.below
    refine kgo ?_
    refine WL.call rfl rfl rfl rfl rfl Tryz.func105 rfl (by kernel_rfl) (fail_any h1 9) ?_
    rintro _ w2 ⟨rfl, h2, hk2⟩
    refine ⟨_, rfl, ?_⟩
    have hblk := hf'.blk.keep hk2 ⟨hf'.blk.lt, by omega⟩
    have hv : IsVo (fun b => w.heap.size ≤ b) 1 w2 (.mk 0 0 0 noT [] []) _ := isVo_leaf (k := 0) (n := 0) (s := 0) (t := noT) (by omega) (by omega) (by omega) (by decide)
    refine kgo ?_
    refine WL.loadMid rfl rfl rfl rfl rfl rfl (VBlk.rangeAt hblk) rfl ?_
    refine WL.storeRow rfl rfl rfl rfl rfl rfl hblk rfl rfl hv.one ?_
    refine kgo ?_
    have hset : ∀ a, Keep (fun b => b ≠ vb) w2 (w2.setRow vb a) := fun a => Keep.setRow (Keep.refl _ w2) (fun hk => hk rfl) a
    exact WQ.retC rfl rfl rfl rfl (hblk.setRow _) ⟨.mk 0 0 0 noT [] [], _, l, _, rfl, isVo_leaf (k := 0) (n := 0) (s := 0) (t := noT) (by omega) (by omega) (by omega) (by decide), h2.keep (hset _) (fun b hb => by omega), Keep.setRow (hk1.trans hk2) (fun hk => by have := hk.1; omega) _, Out.fail 9 (by omega)⟩
  | m + 1, _, _, _, _, _, d, hd, hm, h, hB => value_step m (fun d hd h hB => value_any m d hd (by omega) h hB) d hd hm h hB
end K
end Go.Proofs.YtlamdhekjlnccaaGreatDoor

/- Values: isName, fields. -/
namespace Go.Proofs.YtlamdhekjlnccaaGreatDoor
open Go.RowKit
namespace Vl

set_option maxHeartbeats 400000 in
theorem isName_any (s : ByteArray) (w : World) : Calls Tryz.prog 112 #[.string s] w fun e w' => e = .returned (.bool (isNameB s)) ∧ w = w' := by
  by_cases h1 : 1 ≤ s.size
  · have h1' : (1 : Int) ≤ s.size := by omega
    go_enter Tryz.func112, Tryz.ntmps112
    go_wp2
    go_ret
    exact ⟨by simp [isNameB, h1]; omega, rfl⟩
  · have h1' : decide ((1 : Int) ≤ s.size) = false := decide_eq_false (by omega)
    go_enter Tryz.func112, Tryz.ntmps112
    go_wp2
    go_ret
    exact ⟨by simp [isNameB, h1], rfl⟩

theorem leq_not : ∀ (a p : List UInt8), (Op.bytesLess a p || a == p) = !Op.bytesLess p a
  | [], [] => rfl
  | [], _ :: _ => by simp [Op.bytesLess]
  | _ :: _, [] => by simp [Op.bytesLess]
  | x :: a, y :: p => by
    have ih := leq_not a p
    unfold Op.bytesLess
    rcases Nat.lt_trichotomy x.toNat y.toNat with h | h | h
    · have h1 : x < y := UInt8.lt_iff_toNat_lt.2 h
      have h2 : ¬ y < x := fun e => by have := UInt8.lt_iff_toNat_lt.1 e; omega
      have h3 : ¬ y = x := fun e => by subst e; omega
      simp [h1, h2, h3]
    · obtain rfl : x = y := UInt8.toNat.inj h
      simpa using ih
    · have h1 : y < x := UInt8.lt_iff_toNat_lt.2 h
      have h2 : ¬ x < y := fun e => by have := UInt8.lt_iff_toNat_lt.1 e; omega
      have h3 : ¬ x = y := fun e => by subst e; omega
      simp [h1, h2, h3]

theorem ret_bool {b b' : Bool} (h : b = b') : Ending.returned (.bool b) = Ending.returned (.bool b') := by rw [h]
/-- The six cells. -/
abbrev six (v : V) (sn sk : Value) : List Value := [.int .i64 v.k, .int .i64 v.n, .int .i64 v.s, .string v.t, sn, sk]
/-- The i-th name is one, and above the one ahead of it. -/
def okN (l : List ByteArray) (i : Nat) : Bool := isNameB (l.getD i noT) && (decide (i = 0) || Op.bytesLess (l.getD (i - 1) noT).toList (l.getD i noT).toList)
theorem fields_iff (v : V) : fieldsB v = true ↔ (∀ i, i < v.names.length → okN v.names i = true) ∧ v.names.length = v.kids.length := by
  unfold fieldsB
  rw [Bool.and_eq_true, Bool.and_eq_true, rises_iff, List.all_eq_true, decide_eq_true_iff, and_congr_left_iff]
  intro _
  constructor
  · rintro ⟨h1, h2⟩ i hi
    unfold okN
    rw [Bool.and_eq_true, Bool.or_eq_true, decide_eq_true_iff]
    refine ⟨h1 _ (by simp [hi]), ?_⟩
    cases i with
    | zero => exact .inl rfl
    | succ i => exact .inr (h2 i hi)
  · intro h
    constructor
    · intro x hx
      obtain ⟨j, hj, rfl⟩ := List.getElem_of_mem hx
      have := h j hj
      unfold okN at this
      rw [Bool.and_eq_true] at this
      simpa [hj] using this.1
    · intro i hi
      have := h (i + 1) hi
      unfold okN at this
      rw [Bool.and_eq_true, Bool.or_eq_true, decide_eq_true_iff] at this
      exact this.2.resolve_left (by omega)

set_option maxHeartbeats 8000000 in
theorem fields_any {f : Nat} {w : World} {v : V} {cs : List Value} (h : IsV f w v cs) :
    Calls Tryz.prog 106 #[.agg cs.toArray] w fun e w' => e = .returned (.bool (fieldsB v)) ∧ Below w.heap.size w w' := by
  cases f with
  | zero => exact h.elim
  | succ f =>
  obtain ⟨sn, sk, rfl, -, -, -, -, hn, kp, kc, rfl, kl, kc2, -⟩ := h
  have hbel : Below w.heap.size w (w.alloc (.cells (six v sn (.slice kp v.kids.length kc)).toArray 41)) := (Below.refl _ w).alloc (Nat.le_refl _) _
  have hR : VBlk 41 (w.alloc (.cells (six v sn (.slice kp v.kids.length kc)).toArray 41)) w.heap.size (six v sn (.slice kp v.kids.length kc)) := VBlk.mk w _ _
  have hn1 := hn.below hbel
  obtain ⟨np, nc, rfl, nl, nc2, nsz, nr⟩ := hn1
  have c4 := hR.cell 4 (by simp)
  have c5 := hR.cell 5 (by simp)
  simp only [List.getD_cons_zero, List.getD_cons_succ] at c4 c5
  have Hnr := Hid2.mk nr
  have Hsz := Hid2.mk nsz
  have HB := Hid2.mk hbel
  have Hfi := Hid2.mk (fields_iff v)
  clear hbel hn hR nr nsz
  generalize hN : v.names.length = N at nl c4 c5 HB Hnr Hsz Hfi ⊢
  generalize hK : v.kids.length = K at kl c4 c5 Hnr Hsz HB Hfi ⊢
  generalize v.names = nm at Hnr Hsz Hfi hN ⊢
  clear hN hK
  go_enter Tryz.func106, Tryz.ntmps106
  go_wp2_with fail
  go_loopw [8] (fun i wr => ∃ k : Nat, k ≤ N ∧ i = .int .i64 (k : Nat) ∧ (∃ n, wr = (w.alloc (.cells (six v (.slice np N nc) (.slice kp K kc)).toArray 41)).drewN n) ∧ ∀ j, j < k → okN nm j = true) (fun i _ => N - (intOf i).toNat)
  case atStart => exact ⟨0, Nat.zero_le _, rfl, ⟨0, rfl⟩, fun j hj => absurd hj (by omega)⟩
  case round =>
    obtain ⟨k, hk, rfl, ⟨n, rfl⟩, hall⟩ := hrel
    by_cases hkN : k < N
    · have hkz : (k : Int) < (N : Int) := by omega
      obtain ⟨b, o, rfl, hb, hr⟩ := Hnr.out (by omega)
      have ck := hr k hkN
      have hka := Hsz.out k hkN
      have Hok := Hid2.mk (show okN nm k = (isNameB (nm.getD k noT) && (decide (k = 0) || Op.bytesLess (nm.getD (k - 1) noT).toList (nm.getD k noT).toList)) from rfl)
      have Hall := Hid2.mk hall
      by_cases hk0 : k = 0
      · have hk0' : ((k : Int) == 0) = true := by simp [hk0]
        have hk0'' : ¬ (0 : Int) < (k : Int) := by omega
        have hk00 := decide_eq_true hk0
        rw [hk00] at Hok
        clear hr hall hk0 hk00
        generalize nm.getD k noT = a at ck hka Hok
        generalize nm.getD (k - 1) noT = p at Hok
        cases ha : isNameB a with
        | true =>
          rw [ha] at Hok
          have Ha := Hid2.mk ha
          clear ha
          go_wp2_with (go_fit (isName_any a _); rw [Ha.out]; rintro e w' ⟨rfl, rfl⟩)
          refine ⟨⟨k + 1, by omega, rfl, ⟨_, rfl⟩, fun j hj => (Nat.lt_succ_iff_lt_or_eq.1 hj).elim (Hall.out j) (fun e => by rw [e, Hok.out]; rfl)⟩, by show N - ((k : Int) + 1).toNat < N - ((k : Int)).toNat; omega⟩
        | false =>
          rw [ha] at Hok
          have Ha := Hid2.mk ha
          clear ha
          go_wp2_with (go_fit (isName_any a _); rw [Ha.out]; rintro e w' ⟨rfl, rfl⟩)
          go_ret
          refine ⟨ret_bool (b := false) (Bool.eq_false_iff.2 fun h => ?_).symm, belowN HB.out _⟩
          have := (Hfi.out.1 h).1 k hkN
          rw [Hok.out] at this
          cases this
      · obtain ⟨m, rfl⟩ : ∃ m, k = m + 1 := ⟨k - 1, by omega⟩
        have cm := hr m (by omega)
        have hkm : IntKind.i64.wrap (((m + 1 : Nat) : Int) - 1) = (m : Nat) := by rw [IntWalk.i64_in _ (by omega)]; omega
        have hk0'' : (0 : Int) < ((m + 1 : Nat) : Int) := by omega
        have hk00 := decide_eq_false hk0
        rw [hk00, Nat.add_sub_cancel] at Hok
        clear hr hall hk0 hk00
        generalize nm.getD (m + 1) noT = a at ck hka Hok
        generalize nm.getD m noT = p at cm Hok
        cases ha : isNameB a with
        | true =>
          cases hp : Op.bytesLess p.toList a.toList with
          | true =>
            have hle : (Op.bytesLess a.toList p.toList || a.toList == p.toList) = false := by rw [leq_not, hp]; rfl
            rw [ha, hp] at Hok
            have Ha := Hid2.mk ha
            have Hp := Hid2.mk hp
            clear ha hp
            go_wp2_with (go_fit (isName_any a _); rw [Ha.out]; rintro e w' ⟨rfl, rfl⟩)
            refine ⟨⟨m + 2, by omega, rfl, ⟨_, rfl⟩, fun j hj => (Nat.lt_succ_iff_lt_or_eq.1 hj).elim (Hall.out j) (fun e => by rw [e, Hok.out]; rfl)⟩, by show N - ((m : Int) + 1 + 1).toNat < N - (((m + 1 : Nat) : Int)).toNat; omega⟩
          | false =>
            have hle : (Op.bytesLess a.toList p.toList || a.toList == p.toList) = true := by rw [leq_not, hp]; rfl
            rw [ha, hp] at Hok
            have Ha := Hid2.mk ha
            have Hp := Hid2.mk hp
            clear ha hp
            go_wp2_with (go_fit (isName_any a _); rw [Ha.out]; rintro e w' ⟨rfl, rfl⟩)
            go_ret
            refine ⟨ret_bool (b := false) (Bool.eq_false_iff.2 fun h => ?_).symm, belowN HB.out _⟩
            have := (Hfi.out.1 h).1 _ hkN
            rw [Hok.out] at this
            cases this
        | false =>
          rw [ha] at Hok
          have Ha := Hid2.mk ha
          clear ha
          go_wp2_with (go_fit (isName_any a _); rw [Ha.out]; rintro e w' ⟨rfl, rfl⟩)
          go_ret
          refine ⟨ret_bool (b := false) (Bool.eq_false_iff.2 fun h => ?_).symm, belowN HB.out _⟩
          have := (Hfi.out.1 h).1 _ hkN
          rw [Hok.out] at this
          cases this
    · obtain rfl : k = N := by omega
      have hd : (k : Int) ≤ k := by omega
      have Hall := Hid2.mk hall
      clear hall
      go_wp2_with fail
      go_ret
      refine ⟨ret_bool (b := (k : Int) == K) ?_, belowN HB.out _⟩
      cases hf : fieldsB v with
      | true => have := (Hfi.out.1 hf).2; simp [this]
      | false =>
        refine beq_eq_false_iff_ne.2 fun e => ?_
        have := Hfi.out.2 ⟨Hall.out, by omega⟩
        rw [hf] at this
        cases this
end Vl
end Go.Proofs.YtlamdhekjlnccaaGreatDoor

/- Values: shape. -/
namespace Go.Proofs.YtlamdhekjlnccaaGreatDoor
open Go.RowKit
namespace Vl

/-- Is a value's form one of those of its kind? (E: no text, N0: no names, B, P: bare, plain.) -/
def formC (k n s : Int) (B P E N0 : Bool) : Bool :=
  if k = 1 then B && P && E
  else if k = 2 then decide (n / 2 = 0) && decide (s = 0) && P && E
  else if k = 3 then decide (s = 0) && P && E
  else if k = 4 then decide (1 ≤ s) && decide (s ≤ 18) && decide (¬ n.tmod 10 = 0) && P && E
  else if k = 5 then decide (0 ≤ n) && decide (n ≤ 9007199254740992) && decide (s = 0) && P && E
  else if k = 6 ∨ k = 7 then B && P
  else if k = 8 then B && N0 && E
  else if k = 9 then B && E
  else false
theorem formB_eq (v : V) : formB v = formC v.k v.n v.s (bareB v) (plainB v) (noTextB v) (decide (v.names.length = 0)) := by
  have h : (decide (0 ≤ v.n) && decide (v.n ≤ 1)) = decide (v.n / 2 = 0) := by
    by_cases h : v.n / 2 = 0
    · simp [h]; omega
    · rw [decide_eq_false h, Bool.and_eq_false_iff, decide_eq_false_iff_not, decide_eq_false_iff_not]; omega
  unfold formB formC
  rw [h]

theorem IsV.open {f : Nat} {w : World} {v : V} {cs : List Value} (h : IsV f w v cs) :
    ∃ np nc kp kc, cs = [.int .i64 v.k, .int .i64 v.n, .int .i64 v.s, .string v.t, .slice np v.names.length nc, .slice kp v.kids.length kc] ∧
      (-9223372036854775808 ≤ v.n ∧ v.n ≤ 9223372036854775807) ∧ v.t.size ≤ 140737488355328 ∧ v.names.length ≤ nc ∧ nc ≤ 9223372036854775807 ∧ v.kids.length ≤ kc ∧ kc ≤ 9223372036854775807 := by
  cases f with
  | zero => exact h.elim
  | succ f =>
    obtain ⟨sn, sk, rfl, -, hn, -, ht, ⟨np, nc, rfl, nl, nc2, -⟩, ⟨kp, kc, rfl, kl, kc2, -⟩⟩ := h
    refine ⟨np, nc, kp, kc, rfl, ?_, ht, nl, nc2, kl, kc2⟩
    simp [Lit.wf, IntKind.min, IntKind.max, IntKind.bits, IntKind.signed] at hn
    omega
theorem infoValue : (Tryz.prog.info? 41).map (·.size) = some 6 := by kernel_rfl

theorem empty_iff (t : ByteArray) : (t.toList == []) = decide (t.size = 0) := by
  have h : t.toList.length = t.size := by rw [ByteArray.toList_eq]; rfl
  cases hl : t.toList with
  | nil => rw [hl] at h; simp at h; simp [← h]
  | cons a l => rw [hl] at h; simp at h; simp [← h]

set_option maxRecDepth 100000 in
set_option maxHeartbeats 8000000 in
theorem shape_B {f : Nat} {w : World} {v : V} {cs : List Value} (h : IsV f w v cs) (hk : v.k = 1 ∨ v.k = 2 ∨ v.k = 3) :
    Calls Tryz.prog 103 #[.agg cs.toArray] w fun e w' => e = .returned (.int .i64 (shp v)) ∧ Below w.heap.size w w' := by
  obtain ⟨np, nc, kp, kc, hcs, hnn, ht, nl, nc2, kl, kc2⟩ := IsV.open h
  have hform := formB_eq v
  have hB : bareB v = (decide (v.n = 0) && decide (v.s = 0)) := rfl
  have hP : plainB v = (decide (v.names.length = 0) && decide (v.kids.length = 0)) := rfl
  have hE : noTextB v = decide (v.t.size = 0) := rfl
  have hem := empty_iff v.t
  have hshp : shp v = if formB v = false then 3 else if 16384 < v.t.size ∨ 200 < v.kids.length then 5 else if v.k = 9 ∧ fieldsB v = false then 3 else 0 := rfl
  rw [← hE] at hem
  generalize formB v = F at hform hshp
  generalize bareB v = B at hform hB
  generalize plainB v = P at hform hP
  generalize noTextB v = E at hform hE hem
  generalize hG : fieldsB v = G at hshp
  generalize shp v = R at hshp ⊢
  generalize hN0 : decide (v.names.length = 0) = N0 at hform hP
  generalize v.k = k at hk hcs hform hshp
  generalize v.n = n at hcs hform hB hnn
  generalize v.s = s at hcs hform hB
  generalize v.t = t at hcs hE hem ht hshp
  generalize v.names.length = N at hcs hN0 nl
  generalize v.kids.length = K at hcs hP kl hshp
  have hbel : Below w.heap.size w (w.alloc (.cells cs.toArray 41)) := (Below.refl _ w).alloc (Nat.le_refl _) _
  have hR : VBlk 41 (w.alloc (.cells cs.toArray 41)) w.heap.size cs := VBlk.mk w _ _
  have h1 := h.below hbel
  have HF := Hid2.mk (fun m => fields_any (f := f) (v := v) (h1.below (belowN (Below.refl _ _) m)))
  rw [hG] at HF
  have HR := Hid2.mk hR
  have HB := Hid2.mk hbel
  have Hshp := Hid2.mk hshp
  have Hform := Hid2.mk hform
  have hBv := Hid2.mk hB
  have hPv := Hid2.mk hP
  have hEv := Hid2.mk hE
  have hN0v := Hid2.mk hN0
  have c0 := hR.cell 0 (by subst hcs; simp)
  have c1 := hR.cell 1 (by subst hcs; simp)
  have c2 := hR.cell 2 (by subst hcs; simp)
  have c3 := hR.cell 3 (by subst hcs; simp)
  have c4 := hR.cell 4 (by subst hcs; simp)
  have c5 := hR.cell 5 (by subst hcs; simp)
  clear h hform hB hP hE hshp hG hbel hR h1 hN0
  subst hcs
  simp only [List.getD_cons_zero, List.getD_cons_succ] at c0 c1 c2 c3 c4 c5
  have Hk := Hid2.mk hk
  clear hk
  go_enter Tryz.func103, Tryz.ntmps103
  go_upto_region 1 with fail
  generalize hw1 : World.alloc _ _ = w1 at c0 c1 c2 c3 c4 c5 HF HR HB ⊢
  go_cut [3] (fun b wx => b = .bool B ∧ ∃ m, wx = w1.drewN m)
  case first =>
    by_cases h0 : n = 0
    · obtain rfl := h0
      go_wp2_with fail
      go_meet
      exact ⟨congrArg Value.bool (by rw [hBv.out]; by_cases e : s = 0 <;> simp [e]), 0, rfl⟩
    · have h0' : (n == 0) = false := beq_eq_false_iff_ne.2 h0
      go_wp2_with fail
      go_meet
      exact ⟨congrArg Value.bool (by rw [hBv.out]; simp [h0]), 0, rfl⟩
  case rest =>
  obtain ⟨rfl, m1, rfl⟩ := hcut
  go_upto_region 2 with fail
  go_cut [4] (fun b wx => b = .bool P ∧ ∃ m, wx = w1.drewN m)
  case first =>
    by_cases h0 : N = 0
    · obtain rfl := h0
      go_wp2_with fail
      go_meet
      exact ⟨congrArg Value.bool (by rw [hPv.out, ← hN0v.out]; by_cases e : K = 0 <;> simp [e]), m1, rfl⟩
    · have h0' : ((N : Int) == 0) = false := beq_eq_false_iff_ne.2 (by omega)
      go_wp2_with fail
      go_meet
      exact ⟨congrArg Value.bool (by rw [hPv.out, ← hN0v.out]; simp [h0]), m1, rfl⟩
  case rest =>
  obtain ⟨rfl, m2, rfl⟩ := hcut
  go_upto_block 0 with fail
  go_cut [5] (fun b wx => b = .bool F ∧ ∃ m, wx = w1.drewN m)
  case first =>
    clear Hshp HF HR HB hBv hPv hEv hnn
    by_cases k1 : k = 1
    · obtain rfl := k1
      cases B
      · (go_wp2_with fail; go_meet; exact ⟨congrArg Value.bool (by rw [Hid2.out Hform, ← Hid2.out hN0v]; simp [formC, *]), m2, rfl⟩)
      ·
        cases P
        · (go_wp2_with fail; go_meet; exact ⟨congrArg Value.bool (by rw [Hid2.out Hform, ← Hid2.out hN0v]; simp [formC, *]), m2, rfl⟩)
        ·
          (go_wp2_with fail; go_meet; exact ⟨congrArg Value.bool (by rw [Hid2.out Hform, ← Hid2.out hN0v]; simp [formC, *]), m2, rfl⟩)
    have q1 : (k == 1) = false := beq_eq_false_iff_ne.2 k1
    by_cases k2 : k = 2
    · obtain rfl := k2
      by_cases c3 : n / 2 = 0
      ·
        by_cases c2 : s = 0
        · obtain rfl := c2
          cases P
          · (go_wp2_with fail; go_meet; exact ⟨congrArg Value.bool (by rw [Hid2.out Hform, ← Hid2.out hN0v]; simp [formC, *]), m2, rfl⟩)
          ·
            (go_wp2_with fail; go_meet; exact ⟨congrArg Value.bool (by rw [Hid2.out Hform, ← Hid2.out hN0v]; simp [formC, *]), m2, rfl⟩)
        · have : (s == 0) = false := beq_eq_false_iff_ne.2 c2
          (go_wp2_with fail; go_meet; exact ⟨congrArg Value.bool (by rw [Hid2.out Hform, ← Hid2.out hN0v]; simp [formC, *]), m2, rfl⟩)
      · have : (n / 2 == 0) = false := beq_eq_false_iff_ne.2 c3
        (go_wp2_with fail; go_meet; exact ⟨congrArg Value.bool (by rw [Hid2.out Hform, ← Hid2.out hN0v]; simp [formC, *]), m2, rfl⟩)
    have q2 : (k == 2) = false := beq_eq_false_iff_ne.2 k2
    by_cases k3 : k = 3
    · obtain rfl := k3
      by_cases c2 : s = 0
      · obtain rfl := c2
        cases P
        · (go_wp2_with fail; go_meet; exact ⟨congrArg Value.bool (by rw [Hid2.out Hform, ← Hid2.out hN0v]; simp [formC, *]), m2, rfl⟩)
        ·
          (go_wp2_with fail; go_meet; exact ⟨congrArg Value.bool (by rw [Hid2.out Hform, ← Hid2.out hN0v]; simp [formC, *]), m2, rfl⟩)
      · have : (s == 0) = false := beq_eq_false_iff_ne.2 c2
        (go_wp2_with fail; go_meet; exact ⟨congrArg Value.bool (by rw [Hid2.out Hform, ← Hid2.out hN0v]; simp [formC, *]), m2, rfl⟩)
    have q3 : (k == 3) = false := beq_eq_false_iff_ne.2 k3
    exact absurd Hk.out (by omega)
  case rest =>
  obtain ⟨rfl, m3, rfl⟩ := hcut
  clear Hform hBv hPv hEv hN0v hnn
  cases F
  · have Hr := Hid2.mk (show R = 3 by rw [Hshp.out]; rfl)
    clear Hshp
    go_wp2_with fail
    go_ret
    exact ⟨by rw [Hr.out]; rfl, belowN HB.out _⟩
  by_cases d1 : 16384 < t.size
  · have d1' : (16384 : Int) < t.size := by omega
    have Hr := Hid2.mk (show R = 5 by rw [Hshp.out]; simp [d1])
    clear Hshp
    go_wp2_with fail
    go_ret
    exact ⟨by rw [Hr.out]; rfl, belowN HB.out _⟩
  have d1' : decide ((16384 : Int) < t.size) = false := decide_eq_false (by omega)
  by_cases d2 : 200 < K
  · have d2' : (200 : Int) < K := by omega
    have Hr := Hid2.mk (show R = 5 by rw [Hshp.out]; simp [d2])
    clear Hshp
    go_wp2_with fail
    go_ret
    exact ⟨by rw [Hr.out]; rfl, belowN HB.out _⟩
  have d2' : decide ((200 : Int) < K) = false := decide_eq_false (by omega)
  by_cases d3 : k = 9
  · have Hr := Hid2.mk (show R = if G = false then 3 else 0 by rw [Hshp.out]; simp [d1, d2, d3])
    clear Hshp
    subst d3
    exact absurd Hk.out (by omega)
  have d3' : (k == 9) = false := beq_eq_false_iff_ne.2 d3
  have Hr := Hid2.mk (show R = 0 by rw [Hshp.out]; simp [d1, d2, d3])
  clear Hshp
  go_wp2_with fail
  go_ret
  exact ⟨by rw [Hr.out]; rfl, belowN HB.out _⟩
end Vl
end Go.Proofs.YtlamdhekjlnccaaGreatDoor

/- Values: shape. -/
namespace Go.Proofs.YtlamdhekjlnccaaGreatDoor
open Go.RowKit
namespace Vl

set_option maxRecDepth 100000 in
set_option maxHeartbeats 8000000 in
theorem shape_C {f : Nat} {w : World} {v : V} {cs : List Value} (h : IsV f w v cs) (hk : v.k = 4) :
    Calls Tryz.prog 103 #[.agg cs.toArray] w fun e w' => e = .returned (.int .i64 (shp v)) ∧ Below w.heap.size w w' := by
  obtain ⟨np, nc, kp, kc, hcs, hnn, ht, nl, nc2, kl, kc2⟩ := IsV.open h
  have hform := formB_eq v
  have hB : bareB v = (decide (v.n = 0) && decide (v.s = 0)) := rfl
  have hP : plainB v = (decide (v.names.length = 0) && decide (v.kids.length = 0)) := rfl
  have hE : noTextB v = decide (v.t.size = 0) := rfl
  have hem := empty_iff v.t
  have hshp : shp v = if formB v = false then 3 else if 16384 < v.t.size ∨ 200 < v.kids.length then 5 else if v.k = 9 ∧ fieldsB v = false then 3 else 0 := rfl
  rw [← hE] at hem
  generalize formB v = F at hform hshp
  generalize bareB v = B at hform hB
  generalize plainB v = P at hform hP
  generalize noTextB v = E at hform hE hem
  generalize hG : fieldsB v = G at hshp
  generalize shp v = R at hshp ⊢
  generalize hN0 : decide (v.names.length = 0) = N0 at hform hP
  generalize v.k = k at hk hcs hform hshp
  generalize v.n = n at hcs hform hB hnn
  generalize v.s = s at hcs hform hB
  generalize v.t = t at hcs hE hem ht hshp
  generalize v.names.length = N at hcs hN0 nl
  generalize v.kids.length = K at hcs hP kl hshp
  have hbel : Below w.heap.size w (w.alloc (.cells cs.toArray 41)) := (Below.refl _ w).alloc (Nat.le_refl _) _
  have hR : VBlk 41 (w.alloc (.cells cs.toArray 41)) w.heap.size cs := VBlk.mk w _ _
  have h1 := h.below hbel
  have HF := Hid2.mk (fun m => fields_any (f := f) (v := v) (h1.below (belowN (Below.refl _ _) m)))
  rw [hG] at HF
  have HR := Hid2.mk hR
  have HB := Hid2.mk hbel
  have Hshp := Hid2.mk hshp
  have Hform := Hid2.mk hform
  have hBv := Hid2.mk hB
  have hPv := Hid2.mk hP
  have hEv := Hid2.mk hE
  have hN0v := Hid2.mk hN0
  have c0 := hR.cell 0 (by subst hcs; simp)
  have c1 := hR.cell 1 (by subst hcs; simp)
  have c2 := hR.cell 2 (by subst hcs; simp)
  have c3 := hR.cell 3 (by subst hcs; simp)
  have c4 := hR.cell 4 (by subst hcs; simp)
  have c5 := hR.cell 5 (by subst hcs; simp)
  clear h hform hB hP hE hshp hG hbel hR h1 hN0
  subst hcs
  simp only [List.getD_cons_zero, List.getD_cons_succ] at c0 c1 c2 c3 c4 c5
  have q1 : (k == 1) = false := beq_eq_false_iff_ne.2 (by omega)
  have q2 : (k == 2) = false := beq_eq_false_iff_ne.2 (by omega)
  have q3 : (k == 3) = false := beq_eq_false_iff_ne.2 (by omega)
  have Hk := Hid2.mk hk
  clear hk
  go_enter Tryz.func103, Tryz.ntmps103
  go_upto_region 1 with fail
  generalize hw1 : World.alloc _ _ = w1 at c0 c1 c2 c3 c4 c5 HF HR HB ⊢
  go_cut [3] (fun b wx => b = .bool B ∧ ∃ m, wx = w1.drewN m)
  case first =>
    by_cases h0 : n = 0
    · obtain rfl := h0
      go_wp2_with fail
      go_meet
      exact ⟨congrArg Value.bool (by rw [hBv.out]; by_cases e : s = 0 <;> simp [e]), 0, rfl⟩
    · have h0' : (n == 0) = false := beq_eq_false_iff_ne.2 h0
      go_wp2_with fail
      go_meet
      exact ⟨congrArg Value.bool (by rw [hBv.out]; simp [h0]), 0, rfl⟩
  case rest =>
  obtain ⟨rfl, m1, rfl⟩ := hcut
  go_upto_region 2 with fail
  go_cut [4] (fun b wx => b = .bool P ∧ ∃ m, wx = w1.drewN m)
  case first =>
    by_cases h0 : N = 0
    · obtain rfl := h0
      go_wp2_with fail
      go_meet
      exact ⟨congrArg Value.bool (by rw [hPv.out, ← hN0v.out]; by_cases e : K = 0 <;> simp [e]), m1, rfl⟩
    · have h0' : ((N : Int) == 0) = false := beq_eq_false_iff_ne.2 (by omega)
      go_wp2_with fail
      go_meet
      exact ⟨congrArg Value.bool (by rw [hPv.out, ← hN0v.out]; simp [h0]), m1, rfl⟩
  case rest =>
  obtain ⟨rfl, m2, rfl⟩ := hcut
  go_upto_block 0 with fail
  go_cut [5] (fun b wx => b = .bool F ∧ ∃ m, wx = w1.drewN m)
  case first =>
    clear Hshp HF HR HB hBv hPv hEv hnn
    by_cases k4 : k = 4
    · obtain rfl := k4
      by_cases c4 : 1 ≤ s
      ·
        by_cases c3 : s ≤ 18
        ·
          by_cases c2 : n.tmod 10 = 0
          · have : (n.tmod 10 != 0) = false := by simp [c2]
            (go_wp2_with fail; go_meet; exact ⟨congrArg Value.bool (by rw [Hid2.out Hform, ← Hid2.out hN0v]; simp [formC, *]), m2, rfl⟩)
          · have : (n.tmod 10 != 0) = true := by simp [c2]
            cases P
            · (go_wp2_with fail; go_meet; exact ⟨congrArg Value.bool (by rw [Hid2.out Hform, ← Hid2.out hN0v]; simp [formC, *]), m2, rfl⟩)
            ·
              (go_wp2_with fail; go_meet; exact ⟨congrArg Value.bool (by rw [Hid2.out Hform, ← Hid2.out hN0v]; simp [formC, *]), m2, rfl⟩)
        · have : decide (s ≤ 18) = false := decide_eq_false c3
          (go_wp2_with fail; go_meet; exact ⟨congrArg Value.bool (by rw [Hid2.out Hform, ← Hid2.out hN0v]; simp [formC, *]), m2, rfl⟩)
      · have : decide (1 ≤ s) = false := decide_eq_false c4
        (go_wp2_with fail; go_meet; exact ⟨congrArg Value.bool (by rw [Hid2.out Hform, ← Hid2.out hN0v]; simp [formC, *]), m2, rfl⟩)
    have q4 : (k == 4) = false := beq_eq_false_iff_ne.2 k4
    exact absurd Hk.out (by omega)
  case rest =>
  obtain ⟨rfl, m3, rfl⟩ := hcut
  clear Hform hBv hPv hEv hN0v hnn
  cases F
  · have Hr := Hid2.mk (show R = 3 by rw [Hshp.out]; rfl)
    clear Hshp
    go_wp2_with fail
    go_ret
    exact ⟨by rw [Hr.out]; rfl, belowN HB.out _⟩
  by_cases d1 : 16384 < t.size
  · have d1' : (16384 : Int) < t.size := by omega
    have Hr := Hid2.mk (show R = 5 by rw [Hshp.out]; simp [d1])
    clear Hshp
    go_wp2_with fail
    go_ret
    exact ⟨by rw [Hr.out]; rfl, belowN HB.out _⟩
  have d1' : decide ((16384 : Int) < t.size) = false := decide_eq_false (by omega)
  by_cases d2 : 200 < K
  · have d2' : (200 : Int) < K := by omega
    have Hr := Hid2.mk (show R = 5 by rw [Hshp.out]; simp [d2])
    clear Hshp
    go_wp2_with fail
    go_ret
    exact ⟨by rw [Hr.out]; rfl, belowN HB.out _⟩
  have d2' : decide ((200 : Int) < K) = false := decide_eq_false (by omega)
  by_cases d3 : k = 9
  · have Hr := Hid2.mk (show R = if G = false then 3 else 0 by rw [Hshp.out]; simp [d1, d2, d3])
    clear Hshp
    subst d3
    exact absurd Hk.out (by omega)
  have d3' : (k == 9) = false := beq_eq_false_iff_ne.2 d3
  have Hr := Hid2.mk (show R = 0 by rw [Hshp.out]; simp [d1, d2, d3])
  clear Hshp
  go_wp2_with fail
  go_ret
  exact ⟨by rw [Hr.out]; rfl, belowN HB.out _⟩
end Vl
end Go.Proofs.YtlamdhekjlnccaaGreatDoor

/- Values: shape. -/
namespace Go.Proofs.YtlamdhekjlnccaaGreatDoor
open Go.RowKit
namespace Vl

set_option maxRecDepth 100000 in
set_option maxHeartbeats 8000000 in
theorem shape_D {f : Nat} {w : World} {v : V} {cs : List Value} (h : IsV f w v cs) (hk : v.k = 5) :
    Calls Tryz.prog 103 #[.agg cs.toArray] w fun e w' => e = .returned (.int .i64 (shp v)) ∧ Below w.heap.size w w' := by
  obtain ⟨np, nc, kp, kc, hcs, hnn, ht, nl, nc2, kl, kc2⟩ := IsV.open h
  have hform := formB_eq v
  have hB : bareB v = (decide (v.n = 0) && decide (v.s = 0)) := rfl
  have hP : plainB v = (decide (v.names.length = 0) && decide (v.kids.length = 0)) := rfl
  have hE : noTextB v = decide (v.t.size = 0) := rfl
  have hem := empty_iff v.t
  have hshp : shp v = if formB v = false then 3 else if 16384 < v.t.size ∨ 200 < v.kids.length then 5 else if v.k = 9 ∧ fieldsB v = false then 3 else 0 := rfl
  rw [← hE] at hem
  generalize formB v = F at hform hshp
  generalize bareB v = B at hform hB
  generalize plainB v = P at hform hP
  generalize noTextB v = E at hform hE hem
  generalize hG : fieldsB v = G at hshp
  generalize shp v = R at hshp ⊢
  generalize hN0 : decide (v.names.length = 0) = N0 at hform hP
  generalize v.k = k at hk hcs hform hshp
  generalize v.n = n at hcs hform hB hnn
  generalize v.s = s at hcs hform hB
  generalize v.t = t at hcs hE hem ht hshp
  generalize v.names.length = N at hcs hN0 nl
  generalize v.kids.length = K at hcs hP kl hshp
  have hbel : Below w.heap.size w (w.alloc (.cells cs.toArray 41)) := (Below.refl _ w).alloc (Nat.le_refl _) _
  have hR : VBlk 41 (w.alloc (.cells cs.toArray 41)) w.heap.size cs := VBlk.mk w _ _
  have h1 := h.below hbel
  have HF := Hid2.mk (fun m => fields_any (f := f) (v := v) (h1.below (belowN (Below.refl _ _) m)))
  rw [hG] at HF
  have HR := Hid2.mk hR
  have HB := Hid2.mk hbel
  have Hshp := Hid2.mk hshp
  have Hform := Hid2.mk hform
  have hBv := Hid2.mk hB
  have hPv := Hid2.mk hP
  have hEv := Hid2.mk hE
  have hN0v := Hid2.mk hN0
  have c0 := hR.cell 0 (by subst hcs; simp)
  have c1 := hR.cell 1 (by subst hcs; simp)
  have c2 := hR.cell 2 (by subst hcs; simp)
  have c3 := hR.cell 3 (by subst hcs; simp)
  have c4 := hR.cell 4 (by subst hcs; simp)
  have c5 := hR.cell 5 (by subst hcs; simp)
  clear h hform hB hP hE hshp hG hbel hR h1 hN0
  subst hcs
  simp only [List.getD_cons_zero, List.getD_cons_succ] at c0 c1 c2 c3 c4 c5
  have q1 : (k == 1) = false := beq_eq_false_iff_ne.2 (by omega)
  have q2 : (k == 2) = false := beq_eq_false_iff_ne.2 (by omega)
  have q3 : (k == 3) = false := beq_eq_false_iff_ne.2 (by omega)
  have q4 : (k == 4) = false := beq_eq_false_iff_ne.2 (by omega)
  have Hk := Hid2.mk hk
  clear hk
  go_enter Tryz.func103, Tryz.ntmps103
  go_upto_region 1 with fail
  generalize hw1 : World.alloc _ _ = w1 at c0 c1 c2 c3 c4 c5 HF HR HB ⊢
  go_cut [3] (fun b wx => b = .bool B ∧ ∃ m, wx = w1.drewN m)
  case first =>
    by_cases h0 : n = 0
    · obtain rfl := h0
      go_wp2_with fail
      go_meet
      exact ⟨congrArg Value.bool (by rw [hBv.out]; by_cases e : s = 0 <;> simp [e]), 0, rfl⟩
    · have h0' : (n == 0) = false := beq_eq_false_iff_ne.2 h0
      go_wp2_with fail
      go_meet
      exact ⟨congrArg Value.bool (by rw [hBv.out]; simp [h0]), 0, rfl⟩
  case rest =>
  obtain ⟨rfl, m1, rfl⟩ := hcut
  go_upto_region 2 with fail
  go_cut [4] (fun b wx => b = .bool P ∧ ∃ m, wx = w1.drewN m)
  case first =>
    by_cases h0 : N = 0
    · obtain rfl := h0
      go_wp2_with fail
      go_meet
      exact ⟨congrArg Value.bool (by rw [hPv.out, ← hN0v.out]; by_cases e : K = 0 <;> simp [e]), m1, rfl⟩
    · have h0' : ((N : Int) == 0) = false := beq_eq_false_iff_ne.2 (by omega)
      go_wp2_with fail
      go_meet
      exact ⟨congrArg Value.bool (by rw [hPv.out, ← hN0v.out]; simp [h0]), m1, rfl⟩
  case rest =>
  obtain ⟨rfl, m2, rfl⟩ := hcut
  go_upto_block 0 with fail
  go_cut [5] (fun b wx => b = .bool F ∧ ∃ m, wx = w1.drewN m)
  case first =>
    clear Hshp HF HR HB hBv hPv hEv hnn
    by_cases k5 : k = 5
    · obtain rfl := k5
      by_cases c4 : 0 ≤ n
      ·
        by_cases c3 : n ≤ 9007199254740992
        ·
          by_cases c2 : s = 0
          · obtain rfl := c2
            cases P
            · (go_wp2_with fail; go_meet; exact ⟨congrArg Value.bool (by rw [Hid2.out Hform, ← Hid2.out hN0v]; simp [formC, *]), m2, rfl⟩)
            ·
              (go_wp2_with fail; go_meet; exact ⟨congrArg Value.bool (by rw [Hid2.out Hform, ← Hid2.out hN0v]; simp [formC, *]), m2, rfl⟩)
          · have : (s == 0) = false := beq_eq_false_iff_ne.2 c2
            (go_wp2_with fail; go_meet; exact ⟨congrArg Value.bool (by rw [Hid2.out Hform, ← Hid2.out hN0v]; simp [formC, *]), m2, rfl⟩)
        · have : decide (n ≤ 9007199254740992) = false := decide_eq_false c3
          (go_wp2_with fail; go_meet; exact ⟨congrArg Value.bool (by rw [Hid2.out Hform, ← Hid2.out hN0v]; simp [formC, *]), m2, rfl⟩)
      · have : decide (0 ≤ n) = false := decide_eq_false c4
        (go_wp2_with fail; go_meet; exact ⟨congrArg Value.bool (by rw [Hid2.out Hform, ← Hid2.out hN0v]; simp [formC, *]), m2, rfl⟩)
    have q5 : (k == 5) = false := beq_eq_false_iff_ne.2 k5
    exact absurd Hk.out (by omega)
  case rest =>
  obtain ⟨rfl, m3, rfl⟩ := hcut
  clear Hform hBv hPv hEv hN0v hnn
  cases F
  · have Hr := Hid2.mk (show R = 3 by rw [Hshp.out]; rfl)
    clear Hshp
    go_wp2_with fail
    go_ret
    exact ⟨by rw [Hr.out]; rfl, belowN HB.out _⟩
  by_cases d1 : 16384 < t.size
  · have d1' : (16384 : Int) < t.size := by omega
    have Hr := Hid2.mk (show R = 5 by rw [Hshp.out]; simp [d1])
    clear Hshp
    go_wp2_with fail
    go_ret
    exact ⟨by rw [Hr.out]; rfl, belowN HB.out _⟩
  have d1' : decide ((16384 : Int) < t.size) = false := decide_eq_false (by omega)
  by_cases d2 : 200 < K
  · have d2' : (200 : Int) < K := by omega
    have Hr := Hid2.mk (show R = 5 by rw [Hshp.out]; simp [d2])
    clear Hshp
    go_wp2_with fail
    go_ret
    exact ⟨by rw [Hr.out]; rfl, belowN HB.out _⟩
  have d2' : decide ((200 : Int) < K) = false := decide_eq_false (by omega)
  by_cases d3 : k = 9
  · have Hr := Hid2.mk (show R = if G = false then 3 else 0 by rw [Hshp.out]; simp [d1, d2, d3])
    clear Hshp
    subst d3
    exact absurd Hk.out (by omega)
  have d3' : (k == 9) = false := beq_eq_false_iff_ne.2 d3
  have Hr := Hid2.mk (show R = 0 by rw [Hshp.out]; simp [d1, d2, d3])
  clear Hshp
  go_wp2_with fail
  go_ret
  exact ⟨by rw [Hr.out]; rfl, belowN HB.out _⟩
end Vl
end Go.Proofs.YtlamdhekjlnccaaGreatDoor

/- Values: shape. -/
namespace Go.Proofs.YtlamdhekjlnccaaGreatDoor
open Go.RowKit
namespace Vl

set_option maxRecDepth 100000 in
set_option maxHeartbeats 8000000 in
theorem shape_E {f : Nat} {w : World} {v : V} {cs : List Value} (h : IsV f w v cs) (hk : ¬ v.k = 1 ∧ ¬ v.k = 2 ∧ ¬ v.k = 3 ∧ ¬ v.k = 4 ∧ ¬ v.k = 5) :
    Calls Tryz.prog 103 #[.agg cs.toArray] w fun e w' => e = .returned (.int .i64 (shp v)) ∧ Below w.heap.size w w' := by
  obtain ⟨np, nc, kp, kc, hcs, hnn, ht, nl, nc2, kl, kc2⟩ := IsV.open h
  have hform := formB_eq v
  have hB : bareB v = (decide (v.n = 0) && decide (v.s = 0)) := rfl
  have hP : plainB v = (decide (v.names.length = 0) && decide (v.kids.length = 0)) := rfl
  have hE : noTextB v = decide (v.t.size = 0) := rfl
  have hem := empty_iff v.t
  have hshp : shp v = if formB v = false then 3 else if 16384 < v.t.size ∨ 200 < v.kids.length then 5 else if v.k = 9 ∧ fieldsB v = false then 3 else 0 := rfl
  rw [← hE] at hem
  generalize formB v = F at hform hshp
  generalize bareB v = B at hform hB
  generalize plainB v = P at hform hP
  generalize noTextB v = E at hform hE hem
  generalize hG : fieldsB v = G at hshp
  generalize shp v = R at hshp ⊢
  generalize hN0 : decide (v.names.length = 0) = N0 at hform hP
  generalize v.k = k at hk hcs hform hshp
  generalize v.n = n at hcs hform hB hnn
  generalize v.s = s at hcs hform hB
  generalize v.t = t at hcs hE hem ht hshp
  generalize v.names.length = N at hcs hN0 nl
  generalize v.kids.length = K at hcs hP kl hshp
  have hbel : Below w.heap.size w (w.alloc (.cells cs.toArray 41)) := (Below.refl _ w).alloc (Nat.le_refl _) _
  have hR : VBlk 41 (w.alloc (.cells cs.toArray 41)) w.heap.size cs := VBlk.mk w _ _
  have h1 := h.below hbel
  have HF := Hid2.mk (fun m => fields_any (f := f) (v := v) (h1.below (belowN (Below.refl _ _) m)))
  rw [hG] at HF
  have HR := Hid2.mk hR
  have HB := Hid2.mk hbel
  have Hshp := Hid2.mk hshp
  have Hform := Hid2.mk hform
  have hBv := Hid2.mk hB
  have hPv := Hid2.mk hP
  have hEv := Hid2.mk hE
  have hN0v := Hid2.mk hN0
  have c0 := hR.cell 0 (by subst hcs; simp)
  have c1 := hR.cell 1 (by subst hcs; simp)
  have c2 := hR.cell 2 (by subst hcs; simp)
  have c3 := hR.cell 3 (by subst hcs; simp)
  have c4 := hR.cell 4 (by subst hcs; simp)
  have c5 := hR.cell 5 (by subst hcs; simp)
  clear h hform hB hP hE hshp hG hbel hR h1 hN0
  subst hcs
  simp only [List.getD_cons_zero, List.getD_cons_succ] at c0 c1 c2 c3 c4 c5
  have q1 : (k == 1) = false := beq_eq_false_iff_ne.2 (by omega)
  have q2 : (k == 2) = false := beq_eq_false_iff_ne.2 (by omega)
  have q3 : (k == 3) = false := beq_eq_false_iff_ne.2 (by omega)
  have q4 : (k == 4) = false := beq_eq_false_iff_ne.2 (by omega)
  have q5 : (k == 5) = false := beq_eq_false_iff_ne.2 (by omega)
  have Hk := Hid2.mk hk
  clear hk
  go_enter Tryz.func103, Tryz.ntmps103
  go_upto_region 1 with fail
  generalize hw1 : World.alloc _ _ = w1 at c0 c1 c2 c3 c4 c5 HF HR HB ⊢
  go_cut [3] (fun b wx => b = .bool B ∧ ∃ m, wx = w1.drewN m)
  case first =>
    by_cases h0 : n = 0
    · obtain rfl := h0
      go_wp2_with fail
      go_meet
      exact ⟨congrArg Value.bool (by rw [hBv.out]; by_cases e : s = 0 <;> simp [e]), 0, rfl⟩
    · have h0' : (n == 0) = false := beq_eq_false_iff_ne.2 h0
      go_wp2_with fail
      go_meet
      exact ⟨congrArg Value.bool (by rw [hBv.out]; simp [h0]), 0, rfl⟩
  case rest =>
  obtain ⟨rfl, m1, rfl⟩ := hcut
  go_upto_region 2 with fail
  go_cut [4] (fun b wx => b = .bool P ∧ ∃ m, wx = w1.drewN m)
  case first =>
    by_cases h0 : N = 0
    · obtain rfl := h0
      go_wp2_with fail
      go_meet
      exact ⟨congrArg Value.bool (by rw [hPv.out, ← hN0v.out]; by_cases e : K = 0 <;> simp [e]), m1, rfl⟩
    · have h0' : ((N : Int) == 0) = false := beq_eq_false_iff_ne.2 (by omega)
      go_wp2_with fail
      go_meet
      exact ⟨congrArg Value.bool (by rw [hPv.out, ← hN0v.out]; simp [h0]), m1, rfl⟩
  case rest =>
  obtain ⟨rfl, m2, rfl⟩ := hcut
  go_upto_block 0 with fail
  go_cut [5] (fun b wx => b = .bool F ∧ ∃ m, wx = w1.drewN m)
  case first =>
    clear Hshp HF HR HB hBv hPv hEv hnn
    by_cases k6 : k = 6
    · obtain rfl := k6
      cases B
      · (go_wp2_with fail; go_meet; exact ⟨congrArg Value.bool (by rw [Hid2.out Hform, ← Hid2.out hN0v]; simp [formC, *]), m2, rfl⟩)
      ·
        (go_wp2_with fail; go_meet; exact ⟨congrArg Value.bool (by rw [Hid2.out Hform, ← Hid2.out hN0v]; simp [formC, *]), m2, rfl⟩)
    have q6 : (k == 6) = false := beq_eq_false_iff_ne.2 k6
    by_cases k7 : k = 7
    · obtain rfl := k7
      cases B
      · (go_wp2_with fail; go_meet; exact ⟨congrArg Value.bool (by rw [Hid2.out Hform, ← Hid2.out hN0v]; simp [formC, *]), m2, rfl⟩)
      ·
        (go_wp2_with fail; go_meet; exact ⟨congrArg Value.bool (by rw [Hid2.out Hform, ← Hid2.out hN0v]; simp [formC, *]), m2, rfl⟩)
    have q7 : (k == 7) = false := beq_eq_false_iff_ne.2 k7
    by_cases k8 : k = 8
    · obtain rfl := k8
      cases B
      · (go_wp2_with fail; go_meet; exact ⟨congrArg Value.bool (by rw [Hid2.out Hform, ← Hid2.out hN0v]; simp [formC, *]), m2, rfl⟩)
      ·
        by_cases c1 : N = 0
        · obtain rfl := c1
          (go_wp2_with fail; go_meet; exact ⟨congrArg Value.bool (by rw [Hid2.out Hform, ← Hid2.out hN0v]; simp [formC, *]), m2, rfl⟩)
        · have : ((N : Int) == 0) = false := beq_eq_false_iff_ne.2 (by omega)
          (go_wp2_with fail; go_meet; exact ⟨congrArg Value.bool (by rw [Hid2.out Hform, ← Hid2.out hN0v]; simp [formC, *]), m2, rfl⟩)
    have q8 : (k == 8) = false := beq_eq_false_iff_ne.2 k8
    by_cases k9 : k = 9
    · obtain rfl := k9
      cases B
      · (go_wp2_with fail; go_meet; exact ⟨congrArg Value.bool (by rw [Hid2.out Hform, ← Hid2.out hN0v]; simp [formC, *]), m2, rfl⟩)
      ·
        (go_wp2_with fail; go_meet; exact ⟨congrArg Value.bool (by rw [Hid2.out Hform, ← Hid2.out hN0v]; simp [formC, *]), m2, rfl⟩)
    have q9 : (k == 9) = false := beq_eq_false_iff_ne.2 k9
    go_wp2_with fail
    go_meet
    exact ⟨congrArg Value.bool (by rw [Hform.out]; have hk := Hk.out; simp [formC, k6, k7, k8, k9, hk.1, hk.2.1, hk.2.2.1, hk.2.2.2.1, hk.2.2.2.2]), m2, rfl⟩
  case rest =>
  obtain ⟨rfl, m3, rfl⟩ := hcut
  clear Hform hBv hPv hEv hN0v hnn
  cases F
  · have Hr := Hid2.mk (show R = 3 by rw [Hshp.out]; rfl)
    clear Hshp
    go_wp2_with fail
    go_ret
    exact ⟨by rw [Hr.out]; rfl, belowN HB.out _⟩
  by_cases d1 : 16384 < t.size
  · have d1' : (16384 : Int) < t.size := by omega
    have Hr := Hid2.mk (show R = 5 by rw [Hshp.out]; simp [d1])
    clear Hshp
    go_wp2_with fail
    go_ret
    exact ⟨by rw [Hr.out]; rfl, belowN HB.out _⟩
  have d1' : decide ((16384 : Int) < t.size) = false := decide_eq_false (by omega)
  by_cases d2 : 200 < K
  · have d2' : (200 : Int) < K := by omega
    have Hr := Hid2.mk (show R = 5 by rw [Hshp.out]; simp [d2])
    clear Hshp
    go_wp2_with fail
    go_ret
    exact ⟨by rw [Hr.out]; rfl, belowN HB.out _⟩
  have d2' : decide ((200 : Int) < K) = false := decide_eq_false (by omega)
  by_cases d3 : k = 9
  · have Hr := Hid2.mk (show R = if G = false then 3 else 0 by rw [Hshp.out]; simp [d1, d2, d3])
    clear Hshp
    subst d3
    cases G <;>
    (go_wp2_with (first | (refine Ld.load_on (by rfl) 41 (.tmp 1) rfl w.heap.size rfl 41 _ (0, 0) _ HR.out Tryz.underlying41 rfl infoValue ?_) | (go_fit (HF.out _); rintro e w' ⟨rfl, hbw⟩))
     go_ret
     exact ⟨by rw [Hr.out]; rfl, (belowN HB.out _).trans (hbw.mono HB.out.size)⟩)
  have d3' : (k == 9) = false := beq_eq_false_iff_ne.2 d3
  have Hr := Hid2.mk (show R = 0 by rw [Hshp.out]; simp [d1, d2, d3])
  clear Hshp
  go_wp2_with fail
  go_ret
  exact ⟨by rw [Hr.out]; rfl, belowN HB.out _⟩
end Vl
end Go.Proofs.YtlamdhekjlnccaaGreatDoor

/- Values: shape, of every kind; check; Check. -/
namespace Go.Proofs.YtlamdhekjlnccaaGreatDoor
open Go.RowKit
namespace Vl

theorem shape_any {f : Nat} {w : World} {v : V} {cs : List Value} (h : IsV f w v cs) :
    Calls Tryz.prog 103 #[.agg cs.toArray] w fun e w' => e = .returned (.int .i64 (shp v)) ∧ Below w.heap.size w w' := by
  by_cases h1 : v.k = 1 ∨ v.k = 2 ∨ v.k = 3
  · exact shape_B h h1
  by_cases h4 : v.k = 4
  · exact shape_C h h4
  by_cases h5 : v.k = 5
  · exact shape_D h h5
  exact shape_E h ⟨fun e => h1 (.inl e), fun e => h1 (.inr (.inl e)), fun e => h1 (.inr (.inr e)), h4, h5⟩

/-- The kids that came in: each is one, and lies where the slice says. -/
theorem IsV.kids {f : Nat} {w : World} {v : V} {cs : List Value} (h : IsV (f + 1) w v cs) :
    ∃ sn kp kc, cs = [.int .i64 v.k, .int .i64 v.n, .int .i64 v.s, .string v.t, sn, .slice kp v.kids.length kc] ∧ v.kids.length ≤ kc ∧ kc ≤ 9223372036854775807 ∧
      (0 < v.kids.length → ∃ b o, kp = some ⟨b, o, none⟩ ∧ b < w.heap.size ∧ ∀ j, j < v.kids.length → ∃ c, c.length = 6 ∧ IsV f w (v.kids.getD j noV) c ∧ w.rangeAt b (o + j * 6) c) := by
  obtain ⟨sn, sk, rfl, -, -, -, -, -, ⟨kp, kc, rfl, kl, kc2, kr⟩⟩ := h
  exact ⟨sn, kp, kc, rfl, kl, kc2, kr⟩

theorem IsV.ones {f : Nat} {w : World} {v : V} {cs : List Value} (h : IsV f w v cs) : cs.toArray.all (·.oneCell') = true := by
  obtain ⟨np, nc, kp, kc, rfl, -⟩ := IsV.open h
  simp [Value.oneCell']
/-- Six cells of nothing. -/
abbrev zero6 : List Value := [.int .i64 0, .int .i64 0, .int .i64 0, .string ByteArray.empty, .slice none 0 0, .slice none 0 0]

set_option maxRecDepth 100000 in
set_option maxHeartbeats 8000000 in
theorem check_any : ∀ {f : Nat} {w : World} {v : V} {cs : List Value} (m : Nat) (d : Int), IsV f w v cs → m ≤ 16 → d = 17 - (m : Int) →
    Calls Tryz.prog 96 #[.agg cs.toArray, .int .i64 d] w fun e w' => e = .returned (.int .i64 (chk m v)) ∧ Below w.heap.size w w'
  | 0, _, _, _, _, _, h, _, _ => h.elim
  | f + 1, w, v, cs, m, d, h, hm, hd => by
    have ih : ∀ {w : World} {v : V} {cs : List Value} (m : Nat) (d : Int), IsV f w v cs → m ≤ 16 → d = 17 - (m : Int) → Calls Tryz.prog 96 #[.agg cs.toArray, .int .i64 d] w fun e w' => e = .returned (.int .i64 (chk m v)) ∧ Below w.heap.size w w' := @check_any f
    obtain ⟨sn, kp, kc, hcs, kl, kc2, kr⟩ := IsV.kids h
    have hlen := h.len
    have hbel : Below w.heap.size w (w.alloc (.cells cs.toArray 41)) := (Below.refl _ w).alloc (Nat.le_refl _) _
    have hR : VBlk 41 (w.alloc (.cells cs.toArray 41)) w.heap.size cs := VBlk.mk w _ _
    have h1 := h.below hbel
    have HF := Hid2.mk (shape_any (f := f + 1) (v := v) h1)
    have HR := Hid2.mk hR
    have HB := Hid2.mk hbel
    have Hkr := Hid2.mk kr
    have c5 := hR.cell 5 (by subst hcs; simp)
    have hinf : (Tryz.prog.info? 41).map (·.size) = some cs.toArray.size := by rw [infoValue]; simp [hlen]
    have Hih := Hid2.mk @ih
    clear h hbel hR h1 kr ih
    cases m with
    | zero =>
      have hd1 : 16 < d := by omega
      clear hd
      clear hinf HF Hih
      subst hcs
      simp only [List.getD_cons_zero, List.getD_cons_succ] at c5
      go_enter Tryz.func96, Tryz.ntmps96
      go_wp2_with fail
      go_ret
      exact ⟨rfl, HB.out⟩
    | succ m =>
      have hd1 : d ≤ 16 := by omega
      have hd2 : 1 ≤ d := by omega
      have hd3 : d + 1 = 17 - (m : Int) := by omega
      have Hd3 := Hid2.mk hd3
      have Hm := Hid2.mk (show m ≤ 16 by omega)
      have Hchk := Hid2.mk (show chk (m + 1) v = if shp v = 0 then firstBad (v.kids.map (chk m)) else shp v from rfl)
      have Hcl := Hid2.mk hcs
      clear hd hm hd3
      subst hcs
      simp only [List.getD_cons_zero, List.getD_cons_succ] at c5
      generalize hS : shp v = S at HF Hchk
      generalize chk (m + 1) v = R at Hchk ⊢
      clear hS
      by_cases h0 : S = 0
      · have Hr := Hid2.mk (show R = firstBad (v.kids.map (chk m)) by rw [Hchk.out, if_pos h0])
        clear Hchk
        rw [h0] at HF
        clear h0
        go_enter Tryz.func96, Tryz.ntmps96
        generalize hw1 : World.alloc _ _ = w1 at c5 HF HR HB ⊢
        go_wp2_with (first | (refine Ld.load_on (by rfl) 41 (.tmp 2) rfl w.heap.size rfl 41 _ (0, 0) _ HR.out Tryz.underlying41 rfl hinf ?_) | (go_fit HF.out; rintro e w' ⟨rfl, hbw⟩; have c5' := (hbw.cell (p := ⟨w.heap.size, 5, none⟩) (VBlk.lt HR.out)).trans c5))
        have Hbw := Hid2.mk (HB.out.trans (hbw.mono HB.out.size))
        have Hkr1 := Hid2.mk (fun h0 => Hkr.out h0)
        clear hbw c5 c5' HR hinf
        go_loopw [19] (fun i wr => ∃ k : Nat, k ≤ v.kids.length ∧ i = .int .i64 (k : Nat) ∧ Below w.heap.size w wr ∧ ∀ j, j < k → chk m (v.kids.getD j noV) = 0) (fun i _ => v.kids.length - (intOf i).toNat)
        case atStart => exact ⟨0, Nat.zero_le _, rfl, Hbw.out, fun j hj => absurd hj (by omega)⟩
        case round =>
          clear Hbw
          obtain ⟨k, hk, rfl, hbr, hall⟩ := hrel
          have Hbr := Hid2.mk hbr
          have Hall := Hid2.mk hall
          clear hbr hall
          by_cases hkN : k < v.kids.length
          · have hkz : (k : Int) < (v.kids.length : Int) := by omega
            obtain ⟨b, o, rfl, hb, hr⟩ := Hkr.out (by omega)
            obtain ⟨c, hc6, hci, hcr⟩ := hr k hkN
            have Hc1 := Hid2.mk (show wr.rangeAt b (o + k * 6) c from fun i u hu => by rw [Hbr.out.cell (p := ⟨b, o + k * 6 + i, none⟩) hb]; exact hcr i u hu)
            have Hci := Hid2.mk hci
            have hic : (Tryz.prog.info? 41).map (·.size) = some c.length := by rw [infoValue, hc6]
            have hone := IsV.ones hci
            have hinf2 : (Tryz.prog.info? 41).map (·.size) = some c.toArray.size := by rw [infoValue]; simp [hc6]
            have hZ : VBlk 41 (wr.alloc (.cells zero6.toArray 41)) wr.heap.size zero6 := VBlk.mk wr _ _
            have hZ2 : VBlk 41 ((wr.alloc (.cells zero6.toArray 41)).setRow wr.heap.size c.toArray) wr.heap.size c := hZ.setRow c
            have hbz : Below w.heap.size w ((wr.alloc (.cells zero6.toArray 41)).setRow wr.heap.size c.toArray) := below_setRow (Hbr.out.alloc Hbr.out.size _) Hbr.out.size _
            have Hca := Hid2.mk (Hih.out m (d + 1) (hci.below hbz) Hm.out Hd3.out)
            have HZ := Hid2.mk hZ
            have HZ2 := Hid2.mk hZ2
            have Hbz := Hid2.mk hbz
            have Hck := Hid2.mk (show (v.kids.map (chk m)).getD k 0 = chk m (v.kids.getD k noV) from chk_map m v.kids k hkN)
            generalize hx : chk m (v.kids.getD k noV) = x at Hca Hck
            have Hx := Hid2.mk hx
            clear hr hcr hci Hkr Hkr1 hZ hZ2 hbz hx
            by_cases hx0 : x = 0
            · obtain rfl := hx0
              go_wp2_with (first | (refine wpList_load_mid rfl 41 (.tmp 21) rfl b (o + k * 6) rfl c _ Hc1.out Tryz.underlying41 rfl hic ?_) | (refine wpList_store_row rfl 41 (.tmp 7) (.tmp 22) rfl wr.heap.size c.toArray rfl rfl 41 zero6.toArray HZ.out hinf2 (by simp [hc6]) hone ?_) | (refine Ld.load_on (by rfl) 41 (.tmp 7) rfl wr.heap.size rfl 41 _ (0, 0) _ HZ2.out Tryz.underlying41 rfl hinf2 ?_) | (go_fit Hca.out; rintro e w' ⟨rfl, hbw⟩))
              refine ⟨⟨k + 1, by omega, rfl, Hbz.out.trans (hbw.mono Hbz.out.size), fun j hj => (Nat.lt_succ_iff_lt_or_eq.1 hj).elim (Hall.out j) (fun e => by rw [e]; exact Hx.out)⟩, ?_⟩
              show v.kids.length - ((k : Int) + 1).toNat < v.kids.length - (k : Int).toNat
              omega
            · have hx0' : (x == 0) = false := beq_eq_false_iff_ne.2 hx0
              go_wp2_with (first | (refine wpList_load_mid rfl 41 (.tmp 21) rfl b (o + k * 6) rfl c _ Hc1.out Tryz.underlying41 rfl hic ?_) | (refine wpList_store_row rfl 41 (.tmp 7) (.tmp 22) rfl wr.heap.size c.toArray rfl rfl 41 zero6.toArray HZ.out hinf2 (by simp [hc6]) hone ?_) | (refine Ld.load_on (by rfl) 41 (.tmp 7) rfl wr.heap.size rfl 41 _ (0, 0) _ HZ2.out Tryz.underlying41 rfl hinf2 ?_) | (go_fit Hca.out; rintro e w' ⟨rfl, hbw⟩))
              go_ret
              refine ⟨?_, Hbz.out.trans (hbw.mono Hbz.out.size)⟩
              rw [Hr.out, firstBad_take (i := k) (by rw [List.length_map]; exact hkN) (fun j hj => by rw [chk_map m v.kids j (by omega)]; exact Hall.out j hj) (by rw [Hck.out]; exact hx0), Hck.out]
              rfl
          · obtain rfl : k = v.kids.length := by omega
            have hkz : (v.kids.length : Int) ≤ (v.kids.length : Int) := by omega
            have Hr2 := Hid2.mk (show R = 0 by rw [Hr.out]; exact firstBad_all fun j hj => by rw [List.length_map] at hj; rw [chk_map m v.kids j hj]; exact Hall.out j hj)
            go_wp2_with fail
            go_ret
            exact ⟨by rw [Hr2.out]; rfl, Hbr.out⟩
      · have Hr := Hid2.mk (show R = S by rw [Hchk.out, if_neg h0])
        have h0' : (S == 0) = false := beq_eq_false_iff_ne.2 h0
        go_enter Tryz.func96, Tryz.ntmps96
        go_wp2_with (first | (refine Ld.load_on (by rfl) 41 (.tmp 2) rfl w.heap.size rfl 41 _ (0, 0) _ HR.out Tryz.underlying41 rfl hinf ?_) | (go_fit HF.out; rintro e w' ⟨rfl, hbw⟩))
        go_ret
        exact ⟨by rw [Hr.out]; rfl, HB.out.trans (hbw.mono HB.out.size)⟩

set_option maxHeartbeats 800000 in
theorem Check_any {f : Nat} {w : World} {v : V} {cs : List Value} (h : IsV f w v cs) :
    Calls Tryz.prog 80 #[.agg cs.toArray] w fun e w' => e = .returned (.int .i64 (chk 16 v)) ∧ Below w.heap.size w w' := by
  have hlen := h.len
  have hbel : Below w.heap.size w (w.alloc (.cells cs.toArray 41)) := (Below.refl _ w).alloc (Nat.le_refl _) _
  have hR : VBlk 41 (w.alloc (.cells cs.toArray 41)) w.heap.size cs := VBlk.mk w _ _
  have HF := Hid2.mk (check_any (f := f) (v := v) 16 1 (h.below hbel) (by omega) (by omega))
  have HR := Hid2.mk hR
  have HB := Hid2.mk hbel
  have hinf : (Tryz.prog.info? 41).map (·.size) = some cs.toArray.size := by rw [infoValue]; simp [hlen]
  clear h hbel hR hlen
  go_enter Tryz.func80, Tryz.ntmps80
  go_wp2_with (first | (refine Ld.load_on (by rfl) 41 (.tmp 1) rfl w.heap.size rfl 41 _ (0, 0) _ HR.out Tryz.underlying41 rfl hinf ?_) | (go_fit HF.out; rintro e w' ⟨rfl, hbw⟩))
  go_ret
  exact ⟨rfl, HB.out.trans (hbw.mono HB.out.size)⟩
end Vl
end Go.Proofs.YtlamdhekjlnccaaGreatDoor

/- Reading (chapter 7): read, Decode, Read. -/
namespace Go.Proofs.YtlamdhekjlnccaaGreatDoor
open Go.RowKit
namespace K
section
variable {n : Nat} {l : Env} {w : World} {fn : Func} {R : Ending → World → Prop}
theorem WQ.retCT {p q g T m : Nat} {ty' : TypeId} {cs : List Value} {x : Value} (hr : fn.results = #[.cell p ty', .tmp q]) (hl : look l p = some (.pointer (some ⟨g, 0, none⟩))) (hq : look l q = some x) (ht : cellsN (tyOf ty ty') = some m) (hm : cs.length = m) (hb : VBlk T w g cs)
    (h : R (.returned (.tuple #[.agg cs.toArray, x])) w) : WQ n (bodyPost Tryz.prog fn R) .ret l w :=
  ⟨fun a ha => ⟨ha.defers, _, by
    obtain ⟨_, hu, hdd, hsz⟩ := cellsN_ok tyOk ht
    have hp := ha.getD hl
    have hx := ha.getD hq
    simp only [Array.getD_eq_getD_getElem?] at hp hx
    have := run_loadVar_mid (P := Tryz.prog) w g 0 ty' cs _ (VBlk.rangeAt hb) hu hdd (by rw [hsz, hm])
    simp [results, hr, hp, hx, asAddr, this], h⟩⟩
theorem WQ.retCTT {p q q2 g T m : Nat} {ty' : TypeId} {cs : List Value} {x x2 : Value} (hr : fn.results = #[.cell p ty', .tmp q, .tmp q2]) (hl : look l p = some (.pointer (some ⟨g, 0, none⟩))) (hq : look l q = some x) (hq2 : look l q2 = some x2) (ht : cellsN (tyOf ty ty') = some m) (hm : cs.length = m) (hb : VBlk T w g cs)
    (h : R (.returned (.tuple #[.agg cs.toArray, x, x2])) w) : WQ n (bodyPost Tryz.prog fn R) .ret l w :=
  ⟨fun a ha => ⟨ha.defers, _, by
    obtain ⟨_, hu, hdd, hsz⟩ := cellsN_ok tyOk ht
    have hp := ha.getD hl
    have hx := ha.getD hq
    have hx2 := ha.getD hq2
    simp only [Array.getD_eq_getD_getElem?] at hp hx hx2
    have := run_loadVar_mid (P := Tryz.prog) w g 0 ty' cs _ (VBlk.rangeAt hb) hu hdd (by rw [hsz, hm])
    simp [results, hr, hp, hx, hx2, asAddr, this], h⟩⟩
end
section
variable {n : Nat} {Q : Exit → Act → World → Prop} {l : Env} {w : World} {ops : Array Oper} {d : Nat} {S : World → Prop} {m fuel : Nat} {listed : Array Bool}
/-- A struct of parts, taken first. -/
theorem WD.build {oi : Oper} {t : Nat} {parts : List (Nat × Operand)} {ps : List (Nat × Value)} (cells : List Value) (i : Nat) (hi : ops[i]? = some oi) (hs : mayB ops listed i m = true) (hd : oi.dst = some d) (hn : Nat.blt d n = true)
    (hQ : Passes Q) (hw : wants ops l oi = some true) (ho : oi.op = .build t parts.toArray) (hp : evlParts l parts = some ps) (hf : Tryz.prog.built t ps = some cells.toArray) (hS : listed.getD m false = true ∨ S w)
    (h : WD n ops Q S m fuel (listed.setIfInBounds i true) ((d, .agg cells.toArray) :: l) w) : WD n ops Q S m (fuel + 1) listed l w :=
  WD.first i hi hs hd hn hQ (fun a ha => .inl ⟨wants_run ha hw, fun w _ => by
    unfold execOp
    rw [ho]
    have := run_build (P := Tryz.prog) w t (parts.toArray.map fun (i, x) => (i, a.eval x)) cells.toArray (by
      rw [show (parts.toArray.map fun (x : Nat × Operand) => (x.1, a.eval x.2)).toList = ps by rw [Array.toList_map]; exact evlParts_map ha hp]
      exact hf)
    simp only [Sem.run_bind, this, Result.andThen_ok]
    rfl⟩) hS h
end

/-- A value of nothing. -/
def zV : V := .mk 0 0 0 noT [] []
def zCells : List Value := [.int .i64 0, .int .i64 0, .int .i64 0, .string ByteArray.empty, .slice none 0 0, .slice none 0 0]
theorem zV_is (O : Nat → Prop) (f : Nat) (w : World) : IsVo O (f + 1) w zV zCells := isVo_leaf (k := 0) (n := 0) (s := 0) (t := noT) (by omega) (by omega) (by omega) (by decide)
/-- What read tells (en: nothing may stand behind). -/
def readV (en : Bool) (l : List Int) : Rd V := match rdV 16 l with
  | .bad e => .bad e
  | .ok v r => if chk 16 v ≠ 0 then .bad (chk 16 v) else if en = true ∧ 0 < r.length then .bad 3 else if 65536 < l.length - r.length then .bad 5 else .ok v r
def ReadPost (en : Bool) (w : World) (l : List Int) (r : Ending) (w' : World) : Prop :=
  Below w.heap.size w w' ∧ ∃ (x : V) (cs : List Value) (n : Nat) (e : Int), r = .returned (.tuple #[.agg cs.toArray, .int .i64 n, .int .i64 e]) ∧ IsVo (fun b => w.heap.size ≤ b) 17 w' x cs ∧
    match readV en l with
    | .ok y q => x = y ∧ n = l.length - q.length ∧ e = 0
    | .bad z => x = zV ∧ n = 0 ∧ e = z ∧ z ≠ 0

structure RdSt (w0 : World) (vb rb xb : Nat) (l3 : List Int) (x : V) (cs : List Value) (e : Int) (wx : World) : Prop where
  rs : RS (rb + 1) wx rb l3 e
  vblk : VBlk 41 wx vb zCells
  xblk : VBlk 41 wx xb cs
  val : IsVo (fun b => w0.heap.size ≤ b ∧ b ≠ rb ∧ b ≠ vb) 17 wx x cs
  below : Below w0.heap.size w0 wx
  ne : vb ≠ rb ∧ xb ≠ rb ∧ w0.heap.size ≤ rb ∧ w0.heap.size ≤ vb
section
variable {w0 wx wy : World} {vb rb xb : Nat} {l3 : List Int} {x : V} {cs : List Value} {e e' : Int}
theorem RdSt.fail (h : RdSt w0 vb rb xb l3 x cs e wx) (hr : RS (rb + 1) wy rb l3 e') (hk : KeepR rb wx wy) : RdSt w0 vb rb xb l3 x cs e' wy := by
  have hb := h.below.size
  have hne := h.ne
  exact ⟨hr, h.vblk.keep hk ⟨h.vblk.lt, hne.1⟩, h.xblk.keep hk ⟨h.xblk.lt, hne.2.1⟩, h.val.keep hk (fun b hb hlt => ⟨hlt, hb.2.1⟩) fun b hb => hb, h.below.trans (Keep.below (Keep.mono hk fun b (hb : b < w0.heap.size) => ⟨by omega, by omega⟩)), hne⟩
theorem RdSt.step (h : RdSt w0 vb rb xb l3 x cs e wx) (hk : Below wx.heap.size wx wy) : RdSt w0 vb rb xb l3 x cs e wy := by
  obtain ⟨sp, cap, h1, h2⟩ := h.rs.ex
  exact h.fail (h.rs.keep (Keep.of_below hk) fun b hb => by have := h1.lt; omega) (KeepR.below hk)
end

set_option maxHeartbeats 4000000 in
theorem read_any {w : World} {v : Value} {l : List Int} (en : Bool) (hs : Sl .u8 w v l) (hb : Byt l) (hl : l.length ≤ 140737488355328) :
    Calls Tryz.prog 102 #[v, .bool en] w (ReadPost en w l) := by
  refine enter (args := [v, .bool en]) Tryz.func102 rfl Tryz.ntmps102 rfl ?_
  have hs0 := SlB.of_sl hs
  obtain ⟨sp, cap, rfl, -⟩ := hs
  refine kgo ?_
  refine WL.alloc (z := .agg zCells.toArray) rfl rfl rfl rfl (fun _ => by kernel_rfl) fun vb w1 hf1 => ?_
  have hf1' : Fresh w vb w1 41 zCells := hf1
  clear hf1
  refine kgo ?_
  refine WL.build [.slice sp l.length cap, .int .i64 0] rfl rfl rfl rfl rfl (by kernel_rfl) ?_
  refine WL.box rfl rfl rfl rfl rfl fun rb w2 hf2 => ?_
  have hf2' : Fresh w1 rb w2 142 [.slice sp l.length cap, .int .i64 0] := hf2
  clear hf2
  have hz1 := hf1'.size
  have hz2 := hf2'.size
  have hvb := hf1'.eq
  have hrb := hf2'.eq
  have hw12 : Below w.heap.size w w2 := hf1'.below.trans (hf2'.below.mono (by omega))
  have hr2 : RS (rb + 1) w2 rb l 0 := ⟨Nat.lt_succ_self _, hb, sp, cap, hf2'.blk, (hs0.keep (Keep.of_below hw12) fun b hb => hb).mono fun b hb => by omega⟩
  have hblk2 : VBlk 41 w2 vb zCells := hf1'.blk.below hf2'.below hf1'.blk.lt
  clear hf1' hf2'
  refine kgo ?_
  refine WL.call rfl rfl rfl rfl rfl Tryz.func104 rfl (by kernel_rfl) (value_any 16 1 rfl (by omega) hr2 (by omega)) ?_
  rintro _ w3 ⟨x, cs, l3, e3, rfl, hv3, hr3, hk3, ho3⟩
  refine ⟨_, rfl, ?_⟩
  have hblk3 := hblk2.keep hk3 ⟨hblk2.lt, by omega⟩
  refine WL.alloc (z := .agg zCells.toArray) rfl rfl rfl rfl (fun _ => by kernel_rfl) fun xb w4 hf4 => ?_
  have hf4' : Fresh w3 xb w4 41 zCells := hf4
  clear hf4
  have hcs := hv3.len
  refine WL.storeRow rfl rfl rfl rfl rfl rfl hf4'.blk hcs rfl hv3.one ?_
  have hz3 := hk3.size
  have hxb := hf4'.eq
  have hz4 := hf4'.size
  have hb4 : Below w3.heap.size w3 (w4.setRow xb cs.toArray) := below_setRow hf4'.below (by omega) _
  have hx4 : VBlk 41 (w4.setRow xb cs.toArray) xb cs := hf4'.blk.setRow cs
  have hz5 : (w4.setRow xb cs.toArray).heap.size = w3.heap.size + 1 := by simpa using hz4
  generalize w4.setRow xb cs.toArray = w5 at hb4 hx4 hz5
  have hv5 : IsVo (fun b => w.heap.size ≤ b ∧ b ≠ rb ∧ b ≠ vb) 17 w5 x cs := (hv3.there.keep (Keep.of_below hb4) (fun b _ h => h) fun b hb => hb).mono fun b hb => by have := hb.1; omega
  have hr5 : RS (rb + 1) w5 rb l3 e3 := hr3.keep (Keep.of_below hb4) fun b hb => by omega
  have hblk5 : VBlk 41 w5 vb zCells := hblk3.below hb4 hblk3.lt
  have hw5 : Below w.heap.size w w5 := by
    refine hw12.trans (Below.trans (Keep.below (Keep.mono hk3 fun b (hb : b < w.heap.size) => ⟨by omega, by omega⟩)) (hb4.mono (by omega)))
  have hne : vb ≠ rb ∧ xb ≠ rb ∧ w.heap.size ≤ rb ∧ w.heap.size ≤ vb := by omega
  have hst : RdSt w vb rb xb l3 x cs e3 w5 := ⟨hr5, hblk5, hx4, hv5, hw5, hne⟩
  obtain ⟨rsp, rcap, hrc, -⟩ := hr5.ex
  have hlen := ho3.len
  clear hf4' hv3 hk3 hr3 hr5 hblk5 hx4 hv5 hw5 hblk3 hb4 hz5 hr2 hblk2 hw12 hs0
  refine kgo ?_
  refine WL.load rfl rfl rfl rfl rfl rfl (hrc.cell 1 (by simp)) ?_
  refine kgo ?_
  refine WC.mid (fun _ : Int => [(0, .slice sp l.length cap), (1, .bool en), (4, .pointer (some ⟨vb, 0, none⟩)), (7, .pointer (some ⟨rb, 0, none⟩)), (8, .pointer (some ⟨xb, 0, none⟩))]) (fun e4 wx => e4 = (if e3 = 0 then chk 16 x else e3) ∧ RdSt w vb rb xb l3 x cs e4 wx) rfl ?_ ?_
  · by_cases he : e3 = 0
    · refine WC.condT rfl he ?_
      refine kgo ?_
      refine WL.loadMid rfl rfl rfl rfl rfl rfl (VBlk.rangeAt hst.xblk) hcs ?_
      refine WL.call rfl rfl rfl rfl rfl Tryz.func80 rfl (by kernel_rfl) (Vl.Check_any hst.val.isV) ?_
      rintro _ w6 ⟨rfl, hb6⟩
      refine ⟨_, rfl, ?_⟩
      have hst6 := hst.step hb6
      refine WL.call rfl rfl rfl rfl rfl Tryz.func105 rfl (by kernel_rfl) (fail_any hst6.rs _) ?_
      rintro _ w7 ⟨rfl, hr7, hk7⟩
      refine ⟨_, rfl, ?_⟩
      refine kgo ?_
      rw [if_pos he] at hr7
      exact WQ.meet _ ⟨rfl, rfl, rfl, rfl, rfl, trivial⟩ ⟨by rw [if_pos he], hst6.fail hr7 hk7⟩
    · refine WC.condF rfl he ?_
      refine kgo ?_
      exact WQ.meet _ ⟨rfl, rfl, rfl, rfl, rfl, trivial⟩ ⟨by rw [if_neg he], hst⟩
  rintro e4 w6 ⟨he4, hst6⟩
  clear hrc hst
  obtain ⟨rsp, rcap, hrc, -⟩ := hst6.rs.ex
  repeat (first | refine WC.seq ?_ | refine WC.block ?_ | refine WC.region ?_ | refine WL.nil ?_ | refine WC.skip ?_ | refine WC.exit ?_ | refine WC.ret ?_ | refine WQ.then rfl ?_ | refine WQ.thenExit ?_ | refine WQ.thenRet ?_ | refine WQ.blk ?_ | refine WQ.blkRet ?_ | refine WQ.blkHere rfl ?_ | refine WQ.blkOther rfl ?_)
  refine WL.mid (fun b : Bool => [(0, .slice sp l.length cap), (4, .pointer (some ⟨vb, 0, none⟩)), (7, .pointer (some ⟨rb, 0, none⟩)), (8, .pointer (some ⟨xb, 0, none⟩)), (32, .bool b)]) (fun b wx => b = decide (en = true ∧ 0 < l3.length) ∧ wx = w6) rfl ?_ ?_
  · cases en with
    | true =>
      refine kgo ?_
      refine WL.load rfl rfl rfl rfl rfl rfl (hrc.cell 0 (by simp)) ?_
      by_cases h0 : 0 < l3.length
      · refine kgo ?_
        exact WQ.meet true ⟨rfl, rfl, rfl, rfl, rfl, trivial⟩ ⟨by simp [h0], rfl⟩
      · refine kgo ?_
        exact WQ.meet false ⟨rfl, rfl, rfl, rfl, rfl, trivial⟩ ⟨by simp [h0], rfl⟩
    | false =>
      refine kgo ?_
      exact WQ.meet false ⟨rfl, rfl, rfl, rfl, rfl, trivial⟩ ⟨by simp, rfl⟩
  rintro b _ ⟨hb5, rfl⟩
  refine WC.mid (fun _ : Int => [(0, .slice sp l.length cap), (4, .pointer (some ⟨vb, 0, none⟩)), (7, .pointer (some ⟨rb, 0, none⟩)), (8, .pointer (some ⟨xb, 0, none⟩))]) (fun e5 wx => e5 = (if e4 = 0 then (if en = true ∧ 0 < l3.length then 3 else 0) else e4) ∧ RdSt w vb rb xb l3 x cs e5 wx) rfl ?_ ?_
  · cases b with
    | true =>
      refine kgo ?_
      refine WL.call rfl rfl rfl rfl rfl Tryz.func105 rfl (by kernel_rfl) (fail_any hst6.rs 3) ?_
      rintro _ w7 ⟨rfl, hr7, hk7⟩
      refine ⟨_, rfl, ?_⟩
      refine kgo ?_
      refine WQ.meet _ ⟨rfl, rfl, rfl, rfl, trivial⟩ ⟨?_, hst6.fail hr7 hk7⟩
      rw [if_pos (of_decide_eq_true hb5.symm)]
    | false =>
      refine kgo ?_
      refine WQ.meet e4 ⟨rfl, rfl, rfl, rfl, trivial⟩ ⟨?_, hst6⟩
      rw [if_neg (of_decide_eq_false hb5.symm)]
      split <;> omega
  rintro e5 w7 ⟨he5, hst7⟩
  clear hrc hst6 hb5
  obtain ⟨rsp, rcap, hrc, -⟩ := hst7.rs.ex
  refine kgo ?_
  refine WL.load rfl rfl rfl rfl rfl rfl (hrc.cell 0 (by simp)) ?_
  refine kgo ?_
  refine WC.mid (fun _ : Int => [(9, .int .i64 ((l.length : Int) - (l3.length : Int))), (0, .slice sp l.length cap), (4, .pointer (some ⟨vb, 0, none⟩)), (7, .pointer (some ⟨rb, 0, none⟩)), (8, .pointer (some ⟨xb, 0, none⟩))]) (fun e6 wx => e6 = (if e5 = 0 then (if 65536 < l.length - l3.length then 5 else 0) else e5) ∧ RdSt w vb rb xb l3 x cs e6 wx) rfl ?_ ?_
  · by_cases hbig : 65536 < l.length - l3.length
    · refine WC.condT rfl (by omega) ?_
      refine kgo ?_
      refine WL.call rfl rfl rfl rfl rfl Tryz.func105 rfl (by kernel_rfl) (fail_any hst7.rs 5) ?_
      rintro _ w8 ⟨rfl, hr8, hk8⟩
      refine ⟨_, rfl, ?_⟩
      refine kgo ?_
      refine WQ.meet _ ⟨rfl, rfl, rfl, rfl, rfl, trivial⟩ ⟨?_, hst7.fail hr8 hk8⟩
      rw [if_pos hbig]
    · refine WC.condF rfl (by omega) ?_
      refine kgo ?_
      refine WQ.meet e5 ⟨rfl, rfl, rfl, rfl, rfl, trivial⟩ ⟨?_, hst7⟩
      rw [if_neg hbig]
      split <;> omega
  rintro e6 w8 ⟨he6, hst8⟩
  clear hrc hst7
  obtain ⟨rsp, rcap, hrc, -⟩ := hst8.rs.ex
  -- what read tells
  have hout : match readV en l with
      | .ok y q => e6 = 0 ∧ x = y ∧ l3 = q
      | .bad z => e6 = z ∧ z ≠ 0 := by
    have h3 := ho3.ok rfl
    unfold readV
    cases hq : rdV 16 l with
    | bad z =>
      rw [hq] at h3
      obtain ⟨rfl, hz⟩ := h3
      rw [if_neg hz] at he4
      subst he4
      rw [if_neg hz] at he5
      subst he5
      rw [if_neg hz] at he6
      subst he6
      exact ⟨rfl, hz⟩
    | ok y q =>
      rw [hq] at h3
      obtain ⟨rfl, rfl, rfl⟩ := h3
      rw [if_pos rfl] at he4
      simp only
      by_cases hc : chk 16 x = 0
      · rw [if_neg (by simpa using hc)]
        rw [he4, if_pos hc] at he5
        by_cases h1 : en = true ∧ 0 < l3.length
        · rw [if_pos h1] at he5 ⊢
          rw [he5] at he6
          simp at he6
          exact ⟨he6, by omega⟩
        · rw [if_neg h1] at he5 ⊢
          rw [he5, if_pos rfl] at he6
          by_cases h2 : 65536 < l.length - l3.length
          · rw [if_pos h2] at he6 ⊢
            exact ⟨he6, by omega⟩
          · rw [if_neg h2] at he6 ⊢
            exact ⟨he6, rfl, rfl⟩
      · rw [if_pos hc]
        rw [he4, if_neg hc] at he5
        rw [he5, if_neg hc] at he6
        exact ⟨he6, hc⟩
  refine kgo ?_
  refine WL.load rfl rfl rfl rfl rfl rfl (hrc.cell 1 (by simp)) ?_
  by_cases h6 : e6 = 0
  · refine kgo ?_
    refine WL.loadMid rfl rfl rfl rfl rfl rfl (VBlk.rangeAt hst8.xblk) hcs ?_
    refine kgo ?_
    refine WL.storeRow rfl rfl rfl rfl rfl rfl hst8.vblk hcs rfl hst8.val.one ?_
    refine kgo ?_
    have hset : Keep (fun b => b ≠ vb) w8 (w8.setRow vb cs.toArray) := Keep.setRow (Keep.refl _ w8) (fun hk => hk rfl) _
    refine WQ.retCTT rfl rfl rfl rfl rfl hcs (hst8.vblk.setRow cs) ⟨Keep.below (Keep.setRow (Keep.of_below hst8.below) (fun hk => by omega) _), x, cs, l.length - l3.length, 0, ?_, (hst8.val.keep hset (fun b hb _ => hb.2.2) fun b hb => hb.1), ?_⟩
    · rw [show ((l.length - l3.length : Nat) : Int) = (l.length : Int) - (l3.length : Int) by omega]
    · cases hq : readV en l with
      | ok y q => rw [hq] at hout; obtain ⟨-, rfl, rfl⟩ := hout; exact ⟨rfl, rfl, rfl⟩
      | bad z => rw [hq] at hout; exact absurd (hout.1.symm.trans h6) hout.2
  · refine kgo ?_
    refine WC.drawn 7 (fun wx => VBlk 142 wx rb [.slice rsp l3.length rcap, .int .i64 e6]) fun w9 hd9 => ?_
    have hst9 := hst8.step (hd9.below _)
    have hS : VBlk 142 w9 rb [.slice rsp l3.length rcap, .int .i64 e6] := hrc.below (hd9.below _) hrc.lt
    refine WD.build zCells 0 rfl (by kernel_rfl) rfl rfl (fun _ _ _ _ _ h => h) rfl rfl rfl (by kernel_rfl) (.inr hS) ?_
    (((first | refine WD.free 1 rfl (by kernel_rfl) rfl rfl (fun _ _ _ _ _ h => h) rfl rfl (.inr hS) ?_ | refine WD.skip 1 rfl (by kernel_rfl) rfl rfl (fun _ _ _ _ _ h => h) rfl (.inr hS) ?_); try (first | ((with_reducible refine WD.topT ?_ ?_); omega) | ((with_reducible refine WD.topF ?_ ?_); omega) | ((with_reducible refine WD.top64 ?_ ?_); omega))); ((first | refine WD.free 2 rfl (by kernel_rfl) rfl rfl (fun _ _ _ _ _ h => h) rfl rfl (.inr hS) ?_ | refine WD.skip 2 rfl (by kernel_rfl) rfl rfl (fun _ _ _ _ _ h => h) rfl (.inr hS) ?_); try (first | ((with_reducible refine WD.topT ?_ ?_); omega) | ((with_reducible refine WD.topF ?_ ?_); omega) | ((with_reducible refine WD.top64 ?_ ?_); omega))); ((first | refine WD.free 3 rfl (by kernel_rfl) rfl rfl (fun _ _ _ _ _ h => h) rfl rfl (.inr hS) ?_ | refine WD.skip 3 rfl (by kernel_rfl) rfl rfl (fun _ _ _ _ _ h => h) rfl (.inr hS) ?_); try (first | ((with_reducible refine WD.topT ?_ ?_); omega) | ((with_reducible refine WD.topF ?_ ?_); omega) | ((with_reducible refine WD.top64 ?_ ?_); omega))))
    refine WD.load 4 [7] rfl (by kernel_rfl) rfl rfl (fun _ _ _ _ _ h => h) rfl rfl rfl rfl (fun wx hx => hx.cell 1 (by simp)) hS ?_
    refine WD.one 5 (by kernel_rfl) rfl ?_
    refine WL.storeRow rfl rfl rfl rfl rfl rfl hst9.vblk rfl rfl (zV_is (fun _ => True) 0 w9).one ?_
    have hne2 := hst9.ne
    have hS2 : VBlk 142 (w9.setRow vb zCells.toArray) rb [.slice rsp l3.length rcap, .int .i64 e6] := hS.setRow_other _ (by omega)
    have hvb2 := hst9.vblk.setRow zCells
    have hbel2 : Below w.heap.size w (w9.setRow vb zCells.toArray) := Keep.below (Keep.setRow (Keep.of_below hst9.below) (fun hk => by omega) _)
    generalize w9.setRow vb zCells.toArray = w10 at hS2 hvb2 hbel2
    refine WL.nil (WQ.dk (.inr hS2) ?_)
    refine WD.one 6 (by kernel_rfl) rfl ?_
    refine WL.pure rfl rfl rfl rfl ?_
    refine WL.nil (WQ.dk (.inr hS2) ?_)
    refine WD.one 7 (by kernel_rfl) rfl ?_
    refine WL.pure rfl rfl rfl rfl ?_
    refine WL.nil (WQ.dk (.inl rfl) ?_)
    refine WD.done (by kernel_rfl) ?_
    refine kgo ?_
    refine WQ.retCTT rfl rfl rfl rfl rfl rfl hvb2 ⟨hbel2, zV, zCells, 0, e6, rfl, zV_is _ _ _, ?_⟩
    cases hq : readV en l with
    | ok y q => rw [hq] at hout; exact absurd hout.1 h6
    | bad z => rw [hq] at hout; exact ⟨rfl, rfl, hout.1, hout.2⟩

/-- What Decode promises. -/
def DecPost (w : World) (l : List Int) (r : Ending) (w' : World) : Prop :=
  Below w.heap.size w w' ∧ ∃ (x : V) (cs : List Value) (e : Int), r = .returned (.tuple #[.agg cs.toArray, .int .i64 e]) ∧ IsVo (fun b => w.heap.size ≤ b) 17 w' x cs ∧
    match readV true l with
    | .ok y _ => x = y ∧ e = 0
    | .bad z => x = zV ∧ e = z ∧ z ≠ 0
theorem decode_any {w : World} {v : Value} {l : List Int} (hs : Sl .u8 w v l) (hb : Byt l) (hl : l.length ≤ 140737488355328) :
    Calls Tryz.prog 93 #[v] w (DecPost w l) := by
  refine enter (args := [v]) Tryz.func93 rfl Tryz.ntmps93 rfl ?_
  refine kgo ?_
  refine WL.alloc (z := .agg zCells.toArray) rfl rfl rfl rfl (fun _ => by kernel_rfl) fun vb w1 hf1 => ?_
  have hf1' : Fresh w vb w1 41 zCells := hf1
  clear hf1
  have hz1 := hf1'.size
  have hvb := hf1'.eq
  have hb1 := hf1'.below
  have hblk1 := hf1'.blk
  clear hf1'
  refine kgo ?_
  refine WL.call rfl rfl rfl rfl rfl Tryz.func102 rfl (by kernel_rfl) (read_any true (hs.of_below hb1) hb hl) ?_
  rintro _ w2 ⟨hb2, x, cs, n, e, rfl, hv2, hout⟩
  refine ⟨_, rfl, ?_⟩
  have hcs := hv2.len
  have hblk2 := hblk1.below hb2 hblk1.lt
  have hz2 := hb2.size
  refine kgo ?_
  refine WL.alloc (z := .agg zCells.toArray) rfl rfl rfl rfl (fun _ => by kernel_rfl) fun xb w3 hf3 => ?_
  have hf3' : Fresh w2 xb w3 41 zCells := hf3
  clear hf3
  refine WL.storeRow rfl rfl rfl rfl rfl rfl hf3'.blk hcs rfl hv2.one ?_
  have hxb := hf3'.eq
  have hb4 : Below w2.heap.size w2 (w3.setRow xb cs.toArray) := below_setRow hf3'.below (by omega) _
  have hx4 : VBlk 41 (w3.setRow xb cs.toArray) xb cs := hf3'.blk.setRow cs
  generalize w3.setRow xb cs.toArray = w4 at hb4 hx4
  clear hf3'
  have hblk4 := hblk2.below hb4 hblk2.lt
  have hw4 : Below w.heap.size w w4 := hb1.trans ((hb2.mono (by omega)).trans (hb4.mono (by omega)))
  have hv4 : IsVo (fun b => w.heap.size ≤ b ∧ b ≠ vb) 17 w4 x cs := hv2.keep (Keep.of_below hb4) (fun b _ h => h) fun b hb => by omega
  refine kgo ?_
  refine WL.loadMid rfl rfl rfl rfl rfl rfl (VBlk.rangeAt hx4) hcs ?_
  refine kgo ?_
  refine WL.storeRow rfl rfl rfl rfl rfl rfl hblk4 hcs rfl hv4.one ?_
  refine kgo ?_
  have hset : Keep (fun b => b ≠ vb) w4 (w4.setRow vb cs.toArray) := Keep.setRow (Keep.refl _ w4) (fun hk => hk rfl) _
  refine WQ.retCT rfl rfl rfl rfl hcs (hblk4.setRow cs) ⟨Keep.below (Keep.setRow (Keep.of_below hw4) (fun hk => by omega) _), x, cs, e, rfl, hv4.keep hset (fun b hb _ => hb.2) (fun b hb => hb.1), ?_⟩
  cases hq : readV true l with
  | ok y q => rw [hq] at hout; exact ⟨hout.1, hout.2.2⟩
  | bad z => rw [hq] at hout; exact ⟨hout.1, hout.2.2⟩
end K
end Go.Proofs.YtlamdhekjlnccaaGreatDoor

/- Values as bytes (chapter 7): lay. -/
namespace Go.Proofs.YtlamdhekjlnccaaGreatDoor
open Go.RowKit
namespace K

theorem encV_two {m : Nat} {v : V} : encV (m + 1) v = v.k ::
    (if v.k = 2 then [v.n] else if v.k = 3 then uvB (zig v.n) else if v.k = 4 then uvB (zig v.n) ++ [v.s] else if v.k = 5 then uvB v.n.toNat
     else if v.k = 6 ∨ v.k = 7 then uvB v.t.size ++ byI v.t
     else if v.k = 8 ∨ v.k = 9 then uvB v.kids.length ++ (List.range v.kids.length).flatMap (pieceE (encV m) (decide (v.k = 9)) v.names v.kids) else []) := rfl
theorem below_setRow' {w w2 : World} (h : Below w.heap.size w w2) (g : Nat) (hg : w.heap.size ≤ g) (a : Array Value) : Below w.heap.size w (w2.setRow g a) := below_setRow h hg _

set_option maxHeartbeats 16000000 in
theorem clay_any (m : Nat) (ih : ∀ {f : Nat} {w0 w : World} {v : V} {cs : List Value} {b : Value} {l : List Int}, IsV f w0 v cs → chk m v = 0 → Bu w b l → Apart w0 w b → l.length + (encV m v).length ≤ 70368744177664 →
      Calls Tryz.prog 81 #[b, .agg cs.toArray] w fun e w' => ∃ b', e = .returned b' ∧ Bu w' b' (l ++ encV m v) ∧ Grow w b w' b') {f : Nat} {w0 w : World} {v : V} {cs : List Value} {b : Value} {l : List Int}
    (hv : IsV f w0 v cs) (hc : chk (m + 1) v = 0) (hb : Bu w b l) (ha : Apart w0 w b) (hm : l.length + (encV (m + 1) v).length ≤ 70368744177664) :
    Calls Tryz.prog 81 #[b, .agg cs.toArray] w fun e w' => ∃ b', e = .returned b' ∧ Bu w' b' (l ++ encV (m + 1) v) ∧ Grow w b w' b' := by
  obtain ⟨hk, f2, f3, f4, f5, fk, ft, f9⟩ := shp_form (chk_shp hc)
  cases f with
  | zero => exact hv.elim
  | succ f =>
  obtain ⟨sn, sk, rfl, wk, wn, ws, -, hnames, hkids⟩ := hv
  have hkey := encV_two (m := m) (v := v)
  rw [hkey] at hm
  have hn : -9223372036854775808 ≤ v.n ∧ v.n ≤ 9223372036854775807 := by simp [Lit.wf, IntKind.min, IntKind.max, IntKind.bits, IntKind.signed] at wn; omega
  have hzl := zig_lt hn
  refine enter (args := [b, .agg (six v sn sk).toArray]) Tryz.func81 rfl Tryz.ntmps81 rfl ?_
  refine kgo ?_
  refine WL.box rfl rfl rfl rfl rfl fun bb w1 hf => ?_
  have hfb : Fresh w bb w1 69 [b] := by obtain ⟨sp, c, rfl, -, -⟩ := hb.form; exact hf
  clear hf
  have hbb : bb = w.heap.size := hfb.eq
  refine WL.box rfl rfl rfl rfl rfl fun g w2 hf => ?_
  have hfg : Fresh w1 g w2 41 (six v sn sk) := hf
  clear hf
  have hgb : g = bb + 1 := by rw [hfg.eq, hfb.size, hbb]
  have hbw : ∀ x, b.ownBlock = some x → x < w.heap.size := hb.lt
  have hbx : Bx bb w2 b l := ⟨(hfb.blk.below hfg.below hfb.blk.lt), (hb.below hfb.below).below hfg.below, fun e => by have := hbw _ e; omega⟩
  have hblk : VBlk 41 w2 g (six v sn sk) := hfg.blk
  have hgo : b.ownBlock ≠ some g := fun e => by have := hbw _ e; omega
  have hw12 : Below w.heap.size w w2 := hfb.below.trans (hfg.below.mono hfb.below.size)
  have hsz2 : w2.heap.size = w.heap.size + 2 := by rw [hfg.size, hfb.size]
  clear hfb hfg
  -- what stands while the own row grows
  have hR : ∀ {wk vk}, GrowB bb w2 b wk vk → VBlk 41 wk g (six v sn sk) := fun h => (Bx.keep h hblk hgo (by omega)).1
  have hA : ∀ {wk vk}, GrowB bb w2 b wk vk → Apart w0 wk vk := fun {wk vk} h => by
    refine ⟨?_, fun x hx => (h.2 x hx).elim (fun h2 => ha.own x h2) (fun h2 => by have := ha.below.size; omega)⟩
    have h1 : Below w0.heap.size w0 w2 := ha.below.trans (hw12.mono ha.below.size)
    refine h1.trans ((h.1.mono fun x (hx : x < w0.heap.size) => ⟨Nat.lt_of_lt_of_le hx h1.size, fun e => by have := ha.own x e; omega, by have := ha.below.size; omega⟩).below)
  have hG : ∀ {wk vk}, GrowB bb w2 b wk vk → Grow w b wk vk := fun {wk vk} h => by
    refine ⟨?_, fun x hx => (h.2 x hx).imp id (fun h2 => by omega)⟩
    have h1 : Keep (fun x => x < w.heap.size ∧ b.ownBlock ≠ some x) w w2 := (Keep.of_below hw12).mono fun _ h => h.1
    exact h1.trans (h.1.mono fun x hx => ⟨by omega, hx.2, by omega⟩)
  have g0 : GrowB bb w2 b w2 b := GrowB.refl _ _ _
  have fin : ∀ {b' w' x}, Bu w' b' (l ++ v.k :: x) → GrowB bb w2 b w' b' → (v.k :: x = encV (m + 1) v) → ∃ b'', Ending.returned b' = .returned b'' ∧ Bu w' b'' (l ++ encV (m + 1) v) ∧ Grow w b w' b'' :=
    fun {b' w' x} h1 h2 h3 => ⟨b', rfl, by rw [← h3]; exact h1, hG h2⟩
  have e8 : IntKind.u8.wrap v.k = v.k := by rw [IntKind.wrap_u8]; omega
  have hl1 : l.length + 1 ≤ 70368744177664 := by simp at hm; omega
  refine kgo ?_
  refine WL.fn (caps := [.tmp 2]) rfl rfl rfl rfl rfl ?_
  refine kgo ?_
  refine WL.load rfl rfl rfl rfl rfl rfl (hbx.blk.cell 0 (by simp)) ?_
  refine kgo ?_
  refine WL.load rfl rfl rfl rfl rfl rfl ((hR g0).cell 0 (by simp)) ?_
  refine kgo ?_
  refine WL.push rfl rfl rfl rfl rfl rfl rfl rfl rfl rfl rfl (fun _ => rfl) rfl hbx.bu (by simp; omega) fun b2 w3 hb2 hg2 => ?_
  obtain ⟨hblk3, hbx3, g3⟩ := hbx.put hb2 hg2
  refine WL.store rfl rfl rfl rfl rfl hb2.cell1 (by kernel_rfl) (hblk3.cell 0 (by simp)) (hblk3.free 0) ?_
  generalize w3.setCell ⟨bb, 0, none⟩ b2 = w4 at hbx3 g3
  clear hblk3 hg2 hb2
  rw [e8] at hbx3
  refine kgo ?_
  refine WL.load rfl rfl rfl rfl rfl rfl ((hR g3).cell 0 (by simp)) ?_
  have hl2 : (l ++ [v.k]).length = l.length + 1 := by simp
  have hL0 : ∀ x, l ++ v.k :: x = (l ++ [v.k]) ++ x := fun x => by simp
  generalize hL : l ++ [v.k] = L at hbx3 hl2 hL0
  have hl3 : L.length + (encV (m + 1) v).length ≤ 70368744177664 + 1 := by rw [hkey]; simp at hm ⊢; omega
  by_cases k1 : v.k = 1
  · refine kgo ?_
    refine WL.load rfl rfl rfl rfl rfl rfl (hbx3.blk.cell 0 (by simp)) ?_
    refine kgo ?_
    refine WQ.ret1 rfl rfl (fin (x := []) (by rw [hL0, List.append_nil]; exact hbx3.bu) g3 ?_)
    rw [hkey]; simp [k1]
  by_cases k2 : v.k = 2
  · have hx := f2 k2
    have e8 : IntKind.u8.wrap v.n = v.n := by rw [IntKind.wrap_u8]; omega
    have hkx : encV (m + 1) v = v.k :: [v.n] := by rw [hkey, if_pos k2]
    rw [hkx] at hl3
    simp at hl3
    refine kgo ?_
    refine WL.load rfl rfl rfl rfl rfl rfl (hbx3.blk.cell 0 (by simp)) ?_
    refine kgo ?_
    refine WL.load rfl rfl rfl rfl rfl rfl ((hR g3).cell 1 (by simp)) ?_
    refine kgo ?_
    refine WL.push rfl rfl rfl rfl rfl rfl rfl rfl rfl rfl rfl (fun _ => rfl) rfl hbx3.bu (by simp; omega) fun b3 w5 hb3 hg3 => ?_
    obtain ⟨hblk4, hbx4, g4⟩ := hbx3.put hb3 hg3
    refine WL.store rfl rfl rfl rfl rfl hb3.cell1 (by kernel_rfl) (hblk4.cell 0 (by simp)) (hblk4.free 0) ?_
    generalize w5.setCell ⟨bb, 0, none⟩ b3 = w6 at hbx4 g4
    refine kgo ?_
    refine WL.load rfl rfl rfl rfl rfl rfl (hbx4.blk.cell 0 (by simp)) ?_
    refine kgo ?_
    refine WQ.ret1 rfl rfl (fin (x := [v.n]) ?_ (g3.trans g4) hkx.symm)
    rw [hL0, ← e8]; exact hbx4.bu
  by_cases k3 : v.k = 3
  · have hkx : encV (m + 1) v = v.k :: uvB (zig v.n) := by rw [hkey, if_neg k2, if_pos k3]
    rw [hkx] at hl3
    simp at hl3
    refine kgo ?_
    refine WL.load rfl rfl rfl rfl rfl rfl ((hR g3).cell 1 (by simp)) ?_
    refine kgo ?_
    refine WL.call rfl rfl rfl rfl rfl Tryz.func98 rfl (by kernel_rfl) (zig_any v.n hn w4) ?_
    rintro e _ ⟨rfl, rfl⟩
    refine ⟨_, rfl, ?_⟩
    refine WL.callF (args := [.tmp 30]) rfl rfl rfl rfl rfl rfl Tryz.func97 rfl (by kernel_rfl) (lay1_any hzl hbx3 (by omega)) ?_
    rintro e w6 ⟨rfl, b4, hbx4, g4⟩
    refine ⟨_, rfl, ?_⟩
    refine kgo ?_
    refine WL.load rfl rfl rfl rfl rfl rfl (hbx4.blk.cell 0 (by simp)) ?_
    refine kgo ?_
    exact WQ.ret1 rfl rfl (fin (by rw [hL0]; exact hbx4.bu) (g3.trans g4) hkx.symm)
  by_cases k4 : v.k = 4
  · have hx := f4 k4
    have e8 : IntKind.u8.wrap v.s = v.s := by rw [IntKind.wrap_u8]; omega
    have hkx : encV (m + 1) v = v.k :: (uvB (zig v.n) ++ [v.s]) := by rw [hkey, if_neg k2, if_neg k3, if_pos k4]
    rw [hkx] at hl3
    simp at hl3
    refine kgo ?_
    refine WL.load rfl rfl rfl rfl rfl rfl ((hR g3).cell 1 (by simp)) ?_
    refine kgo ?_
    refine WL.call rfl rfl rfl rfl rfl Tryz.func98 rfl (by kernel_rfl) (zig_any v.n hn w4) ?_
    rintro e _ ⟨rfl, rfl⟩
    refine ⟨_, rfl, ?_⟩
    refine WL.callF (args := [.tmp 37]) rfl rfl rfl rfl rfl rfl Tryz.func97 rfl (by kernel_rfl) (lay1_any hzl hbx3 (by omega)) ?_
    rintro e w6 ⟨rfl, b4, hbx4, g4⟩
    refine ⟨_, rfl, ?_⟩
    have g34 := g3.trans g4
    refine kgo ?_
    refine WL.load rfl rfl rfl rfl rfl rfl (hbx4.blk.cell 0 (by simp)) ?_
    refine kgo ?_
    refine WL.load rfl rfl rfl rfl rfl rfl ((hR g34).cell 2 (by simp)) ?_
    refine kgo ?_
    refine WL.push rfl rfl rfl rfl rfl rfl rfl rfl rfl rfl rfl (fun _ => rfl) rfl hbx4.bu (by simp; omega) fun b5 w7 hb5 hg5 => ?_
    obtain ⟨hblk5, hbx5, g5⟩ := hbx4.put hb5 hg5
    refine WL.store rfl rfl rfl rfl rfl hb5.cell1 (by kernel_rfl) (hblk5.cell 0 (by simp)) (hblk5.free 0) ?_
    generalize w7.setCell ⟨bb, 0, none⟩ b5 = w8 at hbx5 g5
    refine kgo ?_
    refine WL.load rfl rfl rfl rfl rfl rfl (hbx5.blk.cell 0 (by simp)) ?_
    refine kgo ?_
    refine WQ.ret1 rfl rfl (fin (x := uvB (zig v.n) ++ [v.s]) ?_ (g34.trans g5) hkx.symm)
    rw [hL0, ← List.append_assoc, ← e8]; exact hbx5.bu
  by_cases k5 : v.k = 5
  · have hx := f5 k5
    have e8 : IntKind.u64.wrap v.n = (v.n.toNat : Int) := by rw [IntKind.wrap_u64]; omega
    have hkx : encV (m + 1) v = v.k :: uvB v.n.toNat := by rw [hkey, if_neg k2, if_neg k3, if_neg k4, if_pos k5]
    rw [hkx] at hl3
    simp at hl3
    refine kgo ?_
    refine WL.load rfl rfl rfl rfl rfl rfl ((hR g3).cell 1 (by simp)) ?_
    refine kgo ?_
    refine WL.callF (args := [.tmp 50]) rfl rfl rfl rfl rfl rfl Tryz.func97 rfl (by kernel_rfl) (by rw [e8]; exact lay1_any (by omega) hbx3 (by omega)) ?_
    rintro e w6 ⟨rfl, b4, hbx4, g4⟩
    refine ⟨_, rfl, ?_⟩
    refine kgo ?_
    refine WL.load rfl rfl rfl rfl rfl rfl (hbx4.blk.cell 0 (by simp)) ?_
    refine kgo ?_
    exact WQ.ret1 rfl rfl (fin (by rw [hL0]; exact hbx4.bu) (g3.trans g4) hkx.symm)
  by_cases k67 : v.k = 6 ∨ v.k = 7
  · have e8 : IntKind.u64.wrap (v.t.size : Int) = ((v.t.size : Nat) : Int) := by rw [IntKind.wrap_u64]; omega
    have hkx : encV (m + 1) v = v.k :: (uvB v.t.size ++ byI v.t) := by rw [hkey, if_neg k2, if_neg k3, if_neg k4, if_neg k5, if_pos k67]
    have hbl := byI_len v.t
    rw [hkx] at hl3
    simp only [List.length_cons, List.length_append] at hl3
    rcases k67 with k6 | k7
    all_goals
      refine kgo ?_
      refine WL.load rfl rfl rfl rfl rfl rfl ((hR g3).cell 3 (by simp)) ?_
      refine kgo ?_
      refine WL.callF (args := [.tmp 59]) rfl rfl rfl rfl rfl rfl Tryz.func97 rfl (by kernel_rfl) (by rw [e8]; exact lay1_any (by omega) hbx3 (by omega)) ?_
      rintro e w6 ⟨rfl, b4, hbx4, g4⟩
      refine ⟨_, rfl, ?_⟩
      have g34 := g3.trans g4
      refine kgo ?_
      refine WL.load rfl rfl rfl rfl rfl rfl (hbx4.blk.cell 0 (by simp)) ?_
      refine kgo ?_
      refine WL.load rfl rfl rfl rfl rfl rfl ((hR g34).cell 3 (by simp)) ?_
      refine WL.appS rfl rfl rfl rfl rfl hbx4.bu rfl (by rw [List.length_append]; omega) fun b5 w7 hb5 hg5 => ?_
      obtain ⟨hblk5, hbx5, g5⟩ := hbx4.put hb5 hg5
      refine WL.store rfl rfl rfl rfl rfl hb5.cell1 (by kernel_rfl) (hblk5.cell 0 (by simp)) (hblk5.free 0) ?_
      generalize w7.setCell ⟨bb, 0, none⟩ b5 = w8 at hbx5 g5
      refine kgo ?_
      refine WL.load rfl rfl rfl rfl rfl rfl (hbx5.blk.cell 0 (by simp)) ?_
      refine kgo ?_
      refine WQ.ret1 rfl rfl (fin (x := uvB v.t.size ++ byI v.t) ?_ (g34.trans g5) hkx.symm)
      rw [hL0, ← List.append_assoc]; exact hbx5.bu
  have k89 : v.k = 8 ∨ v.k = 9 := by omega
  obtain ⟨sp, cap, rfl, hcap1, hcap2, hrow⟩ := hkids
  have hkx : encV (m + 1) v = v.k :: (uvB v.kids.length ++ (List.range v.kids.length).flatMap (pieceE (encV m) (decide (v.k = 9)) v.names v.kids)) := by rw [hkey, if_neg k2, if_neg k3, if_neg k4, if_neg k5, if_neg k67, if_pos k89]
  rw [hkx] at hl3
  simp only [List.length_cons, List.length_append] at hl3
  have hkid : ∀ j, j < v.kids.length → chk m (v.kids.getD j noV) = 0 := fun j hj => chk_kid hc hj
  have round : ∀ i, i + 1 ≤ v.kids.length → ((List.range i).flatMap (pieceE (encV m) (decide (v.k = 9)) v.names v.kids)).length + (pieceE (encV m) (decide (v.k = 9)) v.names v.kids i).length ≤ ((List.range v.kids.length).flatMap (pieceE (encV m) (decide (v.k = 9)) v.names v.kids)).length := fun i hi => by
    have := range_len_le (pieceE (encV m) (decide (v.k = 9)) v.names v.kids) hi
    rw [range_piece, List.length_append] at this
    exact this
  have eK : IntKind.u64.wrap (v.kids.length : Int) = ((v.kids.length : Nat) : Int) := by rw [IntKind.wrap_u64]; omega
  have huk : (uvB v.kids.length).length ≤ 10 := uvF_len 10 _
  have hL1 : ∀ x, l ++ v.k :: (uvB v.kids.length ++ x) = (L ++ uvB v.kids.length) ++ x := fun x => by rw [hL0, List.append_assoc]
  rcases k89 with k8 | k9
  · rw [show decide (v.k = 9) = false from decide_eq_false (by omega)] at hkx hl3 round
    refine kgo ?_
    refine WL.load rfl rfl rfl rfl rfl rfl ((hR g3).cell 5 (by simp)) ?_
    refine kgo ?_
    refine WL.callF (args := [.tmp 72]) rfl rfl rfl rfl rfl rfl Tryz.func97 rfl (by kernel_rfl) (by rw [eK]; exact lay1_any (by omega) hbx3 (by omega)) ?_
    rintro e w6 ⟨rfl, b4, hbx4, g4⟩
    refine ⟨_, rfl, ?_⟩
    have g34 := g3.trans g4
    have hLl : (L ++ uvB v.kids.length).length = L.length + (uvB v.kids.length).length := List.length_append
    generalize L ++ uvB v.kids.length = M at hbx4 hL1 hLl
    refine kgo ?_
    refine WL.load rfl rfl rfl rfl rfl rfl ((hR g34).cell 5 (by simp)) ?_
    refine kgo ?_
    refine WC.loop (fun i : Nat × Value => [(2, .pointer (some ⟨bb, 0, none⟩)), (3, .pointer (some ⟨g, 0, none⟩)), (5, .func (.func 97) #[] #[.pointer (some ⟨bb, 0, none⟩)]), (75, .slice sp v.kids.length cap), (76, .int .i64 v.kids.length), (77, .int .i64 i.1)])
      (fun i w' => i.1 ≤ v.kids.length ∧ Bx bb w' i.2 (M ++ (List.range i.1).flatMap (pieceE (encV m) false v.names v.kids)) ∧ GrowB bb w2 b w' i.2) (fun i => v.kids.length - i.1) (0, b4)
      ⟨rfl, rfl, rfl, rfl, rfl, rfl, trivial⟩ ⟨Nat.zero_le _, by simpa using hbx4, g34⟩ ?_
    rintro ⟨i, br⟩ wr ⟨hi, hbr, hgr⟩
    simp only at hi hbr hgr ⊢
    by_cases hik : i < v.kids.length
    · obtain ⟨kb, ko, rfl, hkb, hcells⟩ := hrow (by omega)
      obtain ⟨c, hc6, hci, hcr⟩ := hcells i hik
      have har := hA hgr
      have hcr' : wr.rangeAt kb (ko + i * 6) c := fun j u hu => by rw [har.below.cell (p := ⟨kb, ko + i * 6 + j, none⟩) hkb]; exact hcr j u hu
      have hro := round i hik
      refine kgo ?_
      refine WL.idx i (ko + i * 6) rfl rfl rfl rfl rfl rfl rfl rfl hik rfl ?_
      refine WL.loadMid rfl rfl rfl rfl rfl rfl hcr' hc6 ?_
      refine WL.alloc (z := .agg #[.int .i64 0, .int .i64 0, .int .i64 0, .string ByteArray.empty, .slice none 0 0, .slice none 0 0]) rfl rfl rfl rfl (fun _ => by kernel_rfl) fun g2 w7 hf2 => ?_
      refine kgo ?_
      refine WL.storeRow rfl rfl rfl rfl rfl rfl hf2.blk hc6 rfl (IsV.one hci) ?_
      have hb3 : Below wr.heap.size wr (w7.setRow g2 c.toArray) := below_setRow hf2.below (by rw [hf2.eq]; exact Nat.le_refl _) _
      have hblk7 : VBlk 41 (w7.setRow g2 c.toArray) g2 c := hf2.blk.setRow c
      have hg2e := hf2.eq
      generalize w7.setRow g2 c.toArray = w8 at hb3 hblk7
      have hbx8 : Bx bb w8 br _ := hbr.below hb3
      have hg8 : GrowB bb w2 b w8 br := hgr.below hb3
      have hg2o : br.ownBlock ≠ some g2 := fun e => by have := hbr.bu.lt _ e; omega
      have hg2b : g2 ≠ bb := by have := hbr.blk.lt; omega
      refine kgo ?_
      refine WL.load rfl rfl rfl rfl rfl rfl ((hR hg8).cell 0 (by simp)) ?_
      have hpc : pieceE (encV m) false v.names v.kids i = encV m (v.kids.getD i noV) := rfl
      rw [hpc] at hro
      refine kgo ?_
      refine WL.load rfl rfl rfl rfl rfl rfl (hbx8.blk.cell 0 (by simp)) ?_
      refine WL.loadMid rfl rfl rfl rfl rfl rfl (VBlk.rangeAt hblk7) hc6 ?_
      refine WL.call rfl rfl rfl rfl rfl Tryz.func81 rfl (by kernel_rfl) (ih (w0 := w0) hci (hkid i hik) hbx8.bu (hA hg8) (by rw [List.length_append]; omega)) ?_
      rintro e w13 ⟨b13, rfl, hb13, hg13⟩
      refine ⟨_, rfl, ?_⟩
      obtain ⟨hblk13, hbx14, hg14⟩ := hbx8.put hb13 hg13
      refine WL.store rfl rfl rfl rfl rfl hb13.cell1 (by kernel_rfl) (hblk13.cell 0 (by simp)) (hblk13.free 0) ?_
      generalize w13.setCell ⟨bb, 0, none⟩ b13 = w14 at hbx14 hg14
      refine kgo ?_
      refine WQ.again (i + 1, b13) ⟨rfl, rfl, rfl, rfl, rfl, rfl, trivial⟩ ⟨hik, ?_, hg8.trans hg14⟩ (by show v.kids.length - (i + 1) < v.kids.length - i; omega)
      show Bx bb w14 b13 (M ++ (List.range (i + 1)).flatMap _)
      rw [range_piece, hpc, ← List.append_assoc]
      exact hbx14
    · obtain rfl : i = v.kids.length := by omega
      refine kgo ?_
      refine WL.load rfl rfl rfl rfl rfl rfl (hbr.blk.cell 0 (by simp)) ?_
      refine kgo ?_
      exact WQ.ret1 rfl rfl (fin (by rw [hL1]; exact hbr.bu) hgr hkx.symm)
  · rw [show decide (v.k = 9) = true from decide_eq_true k9] at hkx hl3 round
    obtain ⟨np, nc, rfl, nl, nc2, nsz, nr⟩ := hnames
    have hnk := (f9 k9).1
    refine kgo ?_
    refine WL.load rfl rfl rfl rfl rfl rfl ((hR g3).cell 5 (by simp)) ?_
    refine kgo ?_
    refine WL.callF (args := [.tmp 72]) rfl rfl rfl rfl rfl rfl Tryz.func97 rfl (by kernel_rfl) (by rw [eK]; exact lay1_any (by omega) hbx3 (by omega)) ?_
    rintro e w6 ⟨rfl, b4, hbx4, g4⟩
    refine ⟨_, rfl, ?_⟩
    have g34 := g3.trans g4
    have hLl : (L ++ uvB v.kids.length).length = L.length + (uvB v.kids.length).length := List.length_append
    generalize L ++ uvB v.kids.length = M at hbx4 hL1 hLl
    refine kgo ?_
    refine WL.load rfl rfl rfl rfl rfl rfl ((hR g34).cell 5 (by simp)) ?_
    refine kgo ?_
    refine WC.loop (fun i : Nat × Value => [(2, .pointer (some ⟨bb, 0, none⟩)), (3, .pointer (some ⟨g, 0, none⟩)), (5, .func (.func 97) #[] #[.pointer (some ⟨bb, 0, none⟩)]), (75, .slice sp v.kids.length cap), (76, .int .i64 v.kids.length), (77, .int .i64 i.1)])
      (fun i w' => i.1 ≤ v.kids.length ∧ Bx bb w' i.2 (M ++ (List.range i.1).flatMap (pieceE (encV m) true v.names v.kids)) ∧ GrowB bb w2 b w' i.2) (fun i => v.kids.length - i.1) (0, b4)
      ⟨rfl, rfl, rfl, rfl, rfl, rfl, trivial⟩ ⟨Nat.zero_le _, by simpa using hbx4, g34⟩ ?_
    rintro ⟨i, br⟩ wr ⟨hi, hbr, hgr⟩
    simp only at hi hbr hgr ⊢
    by_cases hik : i < v.kids.length
    · obtain ⟨kb, ko, rfl, hkb, hcells⟩ := hrow (by omega)
      obtain ⟨c, hc6, hci, hcr⟩ := hcells i hik
      have har := hA hgr
      have hcr' : wr.rangeAt kb (ko + i * 6) c := fun j u hu => by rw [har.below.cell (p := ⟨kb, ko + i * 6 + j, none⟩) hkb]; exact hcr j u hu
      have hro := round i hik
      refine kgo ?_
      refine WL.idx i (ko + i * 6) rfl rfl rfl rfl rfl rfl rfl rfl hik rfl ?_
      refine WL.loadMid rfl rfl rfl rfl rfl rfl hcr' hc6 ?_
      refine WL.alloc (z := .agg #[.int .i64 0, .int .i64 0, .int .i64 0, .string ByteArray.empty, .slice none 0 0, .slice none 0 0]) rfl rfl rfl rfl (fun _ => by kernel_rfl) fun g2 w7 hf2 => ?_
      refine kgo ?_
      refine WL.storeRow rfl rfl rfl rfl rfl rfl hf2.blk hc6 rfl (IsV.one hci) ?_
      have hb3 : Below wr.heap.size wr (w7.setRow g2 c.toArray) := below_setRow hf2.below (by rw [hf2.eq]; exact Nat.le_refl _) _
      have hblk7 : VBlk 41 (w7.setRow g2 c.toArray) g2 c := hf2.blk.setRow c
      have hg2e := hf2.eq
      generalize w7.setRow g2 c.toArray = w8 at hb3 hblk7
      have hbx8 : Bx bb w8 br _ := hbr.below hb3
      have hg8 : GrowB bb w2 b w8 br := hgr.below hb3
      have hg2o : br.ownBlock ≠ some g2 := fun e => by have := hbr.bu.lt _ e; omega
      have hg2b : g2 ≠ bb := by have := hbr.blk.lt; omega
      refine kgo ?_
      refine WL.load rfl rfl rfl rfl rfl rfl ((hR hg8).cell 0 (by simp)) ?_
      obtain ⟨nb, no, rfl, hnb, hnr⟩ := nr (by omega)
      have hnc := hnr i (by omega)
      have hns : (v.names.getD i noT).size ≤ 40 := (f9 k9).2 _ (by simp [show i < v.names.length by omega])
      have hpc : pieceE (encV m) true v.names v.kids i = (uvB (v.names.getD i noT).size ++ byI (v.names.getD i noT)) ++ encV m (v.kids.getD i noV) := rfl
      rw [hpc] at hro
      have hbl := byI_len (v.names.getD i noT)
      simp only [List.length_append] at hro
      have eN : IntKind.u64.wrap ((v.names.getD i noT).size : Int) = (((v.names.getD i noT).size : Nat) : Int) := by rw [IntKind.wrap_u64]; omega
      have hA8 := hA hg8
      refine kgo ?_
      refine WL.load rfl rfl rfl rfl rfl rfl ((hR hg8).cell 4 (by simp)) ?_
      refine kgo ?_
      refine WL.idx i (no + i) rfl rfl rfl rfl rfl rfl rfl rfl (by omega) (by omega) ?_
      refine WL.load rfl rfl rfl rfl rfl rfl ((hA8.below.cell (p := ⟨nb, no + i, none⟩) hnb).trans hnc) ?_
      refine kgo ?_
      refine WL.callF (args := [.tmp 92]) rfl rfl rfl rfl rfl rfl Tryz.func97 rfl (by kernel_rfl) (by rw [eN]; exact lay1_any (by omega) hbx8 (by rw [List.length_append]; omega)) ?_
      rintro e w9 ⟨rfl, b9, hbx9, g9⟩
      refine ⟨_, rfl, ?_⟩
      have hg9 := hg8.trans g9
      obtain ⟨hblk9, ho9⟩ := Bx.keep g9 hblk7 hg2o hg2b
      have hA9 := hA hg9
      refine kgo ?_
      refine WC.drawn 7 (fun wx => Below w0.heap.size w0 wx ∧ VBlk 69 wx bb [b9] ∧ VBlk 41 wx g (six v (.slice (some ⟨nb, no, none⟩) v.names.length nc) (.slice (some ⟨kb, ko, none⟩) v.kids.length cap))) fun w10 hd10 => ?_
      have hS : Below w0.heap.size w0 w10 ∧ VBlk 69 w10 bb [b9] ∧ VBlk 41 w10 g (six v (.slice (some ⟨nb, no, none⟩) v.names.length nc) (.slice (some ⟨kb, ko, none⟩) v.kids.length cap)) :=
        ⟨hA9.below.trans (hd10.below _), hbx9.blk.below (hd10.below _) hbx9.blk.lt, (hR hg9).below (hd10.below _) (hR hg9).lt⟩
      have hbx10 : Bx bb w10 b9 _ := hbx9.below (hd10.below _)
      have hg10 := hg9.below (hd10.below _)
      have hblk10 : VBlk 41 w10 g2 c := hblk9.below (hd10.below _) hblk9.lt
      refine WD.load 0 [6, 7] rfl (by kernel_rfl) rfl rfl (fun _ _ _ _ _ h => h) rfl rfl rfl rfl (fun wx hx => hx.2.1.cell 0 (by simp)) hS ?_
      (((first | refine WD.free 1 rfl (by kernel_rfl) rfl rfl (fun _ _ _ _ _ h => h) rfl rfl (.inr hS) ?_ | refine WD.skip 1 rfl (by kernel_rfl) rfl rfl (fun _ _ _ _ _ h => h) rfl (.inr hS) ?_); try (first | ((with_reducible refine WD.topT ?_ ?_); omega) | ((with_reducible refine WD.topF ?_ ?_); omega) | ((with_reducible refine WD.top64 ?_ ?_); omega))))
      refine WD.load 2 [4, 5, 6, 7] rfl (by kernel_rfl) rfl rfl (fun _ _ _ _ _ h => h) rfl rfl rfl rfl (fun wx hx => hx.2.2.cell 4 (by simp)) hS ?_
      (((first | refine WD.free 3 rfl (by kernel_rfl) rfl rfl (fun _ _ _ _ _ h => h) rfl rfl (.inr hS) ?_ | refine WD.skip 3 rfl (by kernel_rfl) rfl rfl (fun _ _ _ _ _ h => h) rfl (.inr hS) ?_); try (first | ((with_reducible refine WD.topT ?_ ?_); omega) | ((with_reducible refine WD.topF ?_ ?_); omega) | ((with_reducible refine WD.top64 ?_ ?_); omega))))
      refine WD.idx 4 i (no + i) rfl (by kernel_rfl) rfl rfl (fun _ _ _ _ _ h => h) rfl rfl rfl rfl rfl rfl (by omega) (by omega) (.inr hS) ?_
      refine WD.load 5 [6, 7] rfl (by kernel_rfl) rfl rfl (fun _ _ _ _ _ h => h) rfl rfl rfl rfl (fun wx hx => (hx.1.cell (p := ⟨nb, no + i, none⟩) hnb).trans hnc) hS ?_
      refine WD.one 6 (by kernel_rfl) rfl ?_
      refine WL.appS rfl rfl rfl rfl rfl hbx10.bu rfl (by rw [List.length_append, List.length_append]; omega) fun b11 w11 hb11 hg11 => ?_
      obtain ⟨hblk11, hbx12, hg12⟩ := hbx10.put hb11 hg11
      have hg11' : GrowB bb w10 b9 w11 b11 := hg11.box
      refine WL.nil (WQ.dk (.inr ⟨(hA (hg10.trans hg11')).below, hblk11, hR (hg10.trans hg11')⟩) ?_)
      refine WD.one 7 (by kernel_rfl) rfl ?_
      refine WL.store rfl rfl rfl rfl rfl hb11.cell1 (by kernel_rfl) (hblk11.cell 0 (by simp)) (hblk11.free 0) ?_
      refine WL.nil (WQ.dk (.inl rfl) ?_)
      refine WD.done (by kernel_rfl) ?_
      obtain ⟨hblk12, ho12⟩ := Bx.keep hg12 hblk10 ho9 hg2b
      have hg12' := hg10.trans hg12
      generalize w11.setCell ⟨bb, 0, none⟩ b11 = w12 at hbx12 hg12 hblk12 hg12'
      refine kgo ?_
      refine WL.load rfl rfl rfl rfl rfl rfl (hbx12.blk.cell 0 (by simp)) ?_
      refine WL.loadMid rfl rfl rfl rfl rfl rfl (VBlk.rangeAt hblk12) hc6 ?_
      refine WL.call rfl rfl rfl rfl rfl Tryz.func81 rfl (by kernel_rfl) (ih (w0 := w0) hci (hkid i hik) hbx12.bu (hA hg12') (by rw [List.length_append, List.length_append, List.length_append, bytesI_len]; omega)) ?_
      rintro e w13 ⟨b13, rfl, hb13, hg13⟩
      refine ⟨_, rfl, ?_⟩
      obtain ⟨hblk13, hbx14, hg14⟩ := hbx12.put hb13 hg13
      refine WL.store rfl rfl rfl rfl rfl hb13.cell1 (by kernel_rfl) (hblk13.cell 0 (by simp)) (hblk13.free 0) ?_
      generalize w13.setCell ⟨bb, 0, none⟩ b13 = w14 at hbx14 hg14
      refine kgo ?_
      refine WQ.again (i + 1, b13) ⟨rfl, rfl, rfl, rfl, rfl, rfl, trivial⟩ ⟨hik, ?_, hg12'.trans hg14⟩ (by show v.kids.length - (i + 1) < v.kids.length - i; omega)
      show Bx bb w14 b13 (M ++ (List.range (i + 1)).flatMap _)
      rw [range_piece, hpc]
      simpa [List.append_assoc, bytesI, byI] using hbx14
    · obtain rfl : i = v.kids.length := by omega
      refine kgo ?_
      refine WL.load rfl rfl rfl rfl rfl rfl (hbr.blk.cell 0 (by simp)) ?_
      refine kgo ?_
      exact WQ.ret1 rfl rfl (fin (by rw [hL1]; exact hbr.bu) hgr hkx.symm)
/-- A value's bytes, laid behind an own row. -/
theorem clay_all : ∀ (m : Nat) {f : Nat} {w0 w : World} {v : V} {cs : List Value} {b : Value} {l : List Int}, IsV f w0 v cs → chk m v = 0 → Bu w b l → Apart w0 w b → l.length + (encV m v).length ≤ 70368744177664 →
      Calls Tryz.prog 81 #[b, .agg cs.toArray] w fun e w' => ∃ b', e = .returned b' ∧ Bu w' b' (l ++ encV m v) ∧ Grow w b w' b'
  | 0, _, _, _, _, _, _, _, _, h, _, _, _ => by cases h
  | m + 1, _, _, _, _, _, _, _, hv, hc, hb, ha, hm => clay_any m (clay_all m) hv hc hb ha hm
end K
end Go.Proofs.YtlamdhekjlnccaaGreatDoor

/- How great values are (the laws' great). -/
namespace Go.Proofs.YtlamdhekjlnccaaGreatDoor
namespace K

/-- One by one, as long as it is not too much. -/
def grtK (B : Nat) (g : V → Nat → Nat) : List V → Nat → Nat
  | [], n => n
  | k :: r, n => if n ≤ B then grtK B g r (g k n) else n
/-- How great a value is, so many levels deep. -/
def grt (B : Nat) : Nat → V → Nat → Nat
  | 0, _, n => n
  | f + 1, v, n => grtK B (grt B f) v.kids (n + 1 + v.t.size / 20 + v.names.length)
/-- A value is f deep at most, and its lists are as memory can hold them. -/
def Sml : Nat → V → Prop
  | 0, _ => False
  | f + 1, v => v.names.length ≤ 140737488355328 ∧ v.kids.length ≤ 140737488355328 ∧ ∀ x ∈ v.kids, Sml f x

theorem grtK_over {B : Nat} {g : V → Nat → Nat} {n : Nat} (l : List V) (h : B < n) : grtK B g l n = n := by
  cases l with
  | nil => rfl
  | cons k r => unfold grtK; rw [if_neg (by omega)]
end K
end Go.Proofs.YtlamdhekjlnccaaGreatDoor

/- The document's Equal (chapter 5). -/
namespace Go.Proofs.YtlamdhekjlnccaaGreatDoor
open Go.RowKit
namespace K

theorem take_snoc_eq {α : Type} {a b : List α} {i : Nat} (h : a.take i = b.take i) (ha : i < a.length) (hb : i < b.length) (he : a[i] = b[i]) : a.take (i + 1) = b.take (i + 1) := by
  rw [List.take_add_one, List.take_add_one, h, List.getElem?_eq_getElem ha, List.getElem?_eq_getElem hb, he]
theorem V.ext' {a b : V} (h1 : a.k = b.k) (h2 : a.n = b.n) (h3 : a.s = b.s) (h4 : a.t = b.t) (h5 : a.names = b.names) (h6 : a.kids = b.kids) : a = b := by
  cases a; cases b
  simp only [V.k, V.n, V.s, V.t, V.names, V.kids] at h1 h2 h3 h4 h5 h6
  subst h1; subst h2; subst h3; subst h4; subst h5; subst h6
  rfl
theorem bytes_ne {a b : ByteArray} (h : ¬ a = b) : ¬ a.toList = b.toList := fun e => h (by
  rw [ByteArray.toList_eq, ByteArray.toList_eq] at e
  exact ByteArray.ext (Array.toList_inj.1 e))

set_option maxHeartbeats 8000000 in
theorem equal_any : ∀ (f : Nat) {f2 : Nat} {w : World} {v1 v2 : V} {c1 c2 : List Value}, IsV f w v1 c1 → IsV f2 w v2 c2 →
    Calls Tryz.prog 75 #[.agg c1.toArray, .agg c2.toArray] w fun e w' => (∃ b, e = .returned (.bool b) ∧ (b = true ↔ v1 = v2)) ∧ Below w.heap.size w w'
  | 0, _, _, _, _, _, _, h, _ => h.elim
  | _ + 1, 0, _, _, _, _, _, _, h => h.elim
  | f + 1, f2 + 1, w, v1, v2, c1, c2, h1, h2 => by
    obtain ⟨sn1, sk1, rfl, -, -, -, -, hn1, hk1⟩ := h1
    obtain ⟨sn2, sk2, rfl, -, -, -, -, hn2, hk2⟩ := h2
    obtain ⟨np1, nc1, rfl, nl1, nm1, -, nr1⟩ := hn1
    obtain ⟨np2, nc2, rfl, nl2, nm2, -, nr2⟩ := hn2
    obtain ⟨kp1, kc1, rfl, kl1, km1, kr1⟩ := hk1
    obtain ⟨kp2, kc2, rfl, kl2, km2, kr2⟩ := hk2
    refine enter (args := [.agg (six v1 (.slice np1 v1.names.length nc1) (.slice kp1 v1.kids.length kc1)).toArray, .agg (six v2 (.slice np2 v2.names.length nc2) (.slice kp2 v2.kids.length kc2)).toArray]) Tryz.func75 rfl Tryz.ntmps75 rfl ?_
    refine kgo ?_
    refine WL.box rfl rfl rfl rfl rfl fun g1 w1 hf1 => ?_
    have hf1' : Fresh w g1 w1 41 (six v1 (.slice np1 v1.names.length nc1) (.slice kp1 v1.kids.length kc1)) := hf1
    clear hf1
    refine WL.box rfl rfl rfl rfl rfl fun g2 w2 hf2 => ?_
    have hf2' : Fresh w1 g2 w2 41 (six v2 (.slice np2 v2.names.length nc2) (.slice kp2 v2.kids.length kc2)) := hf2
    clear hf2
    have hb2 : Below w.heap.size w w2 := hf1'.below.trans (hf2'.below.mono hf1'.below.size)
    have B1 := hf1'.blk.below hf2'.below hf1'.blk.lt
    have B2 := hf2'.blk
    clear hf1' hf2'
    have no : ∀ {wx : World}, Below w.heap.size w wx → ¬ v1 = v2 → (∃ b, Ending.returned (Value.bool false) = .returned (.bool b) ∧ (b = true ↔ v1 = v2)) ∧ Below w.heap.size w wx := fun h1 h2 => ⟨⟨false, rfl, by simp [h2]⟩, h1⟩
    refine kgo ?_
    refine WL.load rfl rfl rfl rfl rfl rfl (B1.cell 0 (by simp)) ?_
    refine kgo ?_
    refine WL.load rfl rfl rfl rfl rfl rfl (B2.cell 0 (by simp)) ?_
    by_cases e1 : v1.k = v2.k
    rotate_left
    · refine kgo ?_
      exact WQ.ret1 rfl rfl (no hb2 fun e => e1 (by rw [e]))
    refine kgo ?_
    refine WL.load rfl rfl rfl rfl rfl rfl (B1.cell 1 (by simp)) ?_
    refine kgo ?_
    refine WL.load rfl rfl rfl rfl rfl rfl (B2.cell 1 (by simp)) ?_
    by_cases e2 : v1.n = v2.n
    rotate_left
    · refine kgo ?_
      exact WQ.ret1 rfl rfl (no hb2 fun e => e2 (by rw [e]))
    refine kgo ?_
    refine WL.load rfl rfl rfl rfl rfl rfl (B1.cell 2 (by simp)) ?_
    refine kgo ?_
    refine WL.load rfl rfl rfl rfl rfl rfl (B2.cell 2 (by simp)) ?_
    by_cases e3 : v1.s = v2.s
    rotate_left
    · refine kgo ?_
      exact WQ.ret1 rfl rfl (no hb2 fun e => e3 (by rw [e]))
    refine kgo ?_
    refine WL.load rfl rfl rfl rfl rfl rfl (B1.cell 3 (by simp)) ?_
    refine kgo ?_
    refine WL.load rfl rfl rfl rfl rfl rfl (B2.cell 3 (by simp)) ?_
    by_cases e4 : v1.t = v2.t
    rotate_left
    · refine WL.on rfl rfl ?_
      refine WL.pureAs (.bool true) rfl rfl rfl rfl (by simp [bytes_ne e4]) ?_
      refine kgo ?_
      exact WQ.ret1 rfl rfl (no hb2 fun e => e4 (by rw [e]))
    refine WL.on rfl rfl ?_
    refine WL.pureAs (.bool false) rfl rfl rfl rfl (by simp [e4]) ?_
    refine kgo ?_
    refine WL.load rfl rfl rfl rfl rfl rfl (B1.cell 4 (by simp)) ?_
    refine kgo ?_
    refine WL.load rfl rfl rfl rfl rfl rfl (B2.cell 4 (by simp)) ?_
    by_cases e5 : v1.names.length = v2.names.length
    rotate_left
    · refine kgo ?_
      exact WQ.ret1 rfl rfl (no hb2 fun e => e5 (by rw [e]))
    refine kgo ?_
    refine WL.load rfl rfl rfl rfl rfl rfl (B1.cell 5 (by simp)) ?_
    refine kgo ?_
    refine WL.load rfl rfl rfl rfl rfl rfl (B2.cell 5 (by simp)) ?_
    by_cases e6 : v1.kids.length = v2.kids.length
    rotate_left
    · refine kgo ?_
      exact WQ.ret1 rfl rfl (no hb2 fun e => e6 (by rw [e]))
    have hz2 := hb2.size
    repeat (first | ((with_reducible refine WL.topT ?_ ?_); omega) | ((with_reducible refine WL.topF ?_ ?_); omega) | ((with_reducible refine WL.top64 ?_ ?_); omega) | refine WC.seq ?_ | refine WC.region ?_ | refine WL.nil ?_ | refine WC.skip ?_ | refine WC.exit ?_ | refine WC.ret ?_ | refine WQ.then rfl ?_ | refine WQ.thenExit ?_ | refine WQ.thenRet ?_ | refine WQ.blk ?_ | refine WQ.blkRet ?_ | refine WQ.blkHere rfl ?_ | refine WQ.blkOther rfl ?_ | refine WL.pure rfl rfl rfl rfl ?_ | refine WL.on rfl rfl ?_ | refine WL.off rfl rfl rfl ?_ | refine WL.load rfl rfl rfl rfl rfl rfl (by assumption) ?_ | refine WC.condTrue rfl ?_ | refine WC.condFalse rfl ?_)
    refine WC.mid (fun _ : Unit => [(2, .pointer (some ⟨g1, 0, none⟩)), (3, .pointer (some ⟨g2, 0, none⟩))]) (fun _ wx => v1.names = v2.names ∧ Below w2.heap.size w2 wx) rfl ?_ ?_
    · refine kgo ?_
      refine WC.loop (fun i : Nat => [(2, .pointer (some ⟨g1, 0, none⟩)), (3, .pointer (some ⟨g2, 0, none⟩)), (5, .int .i64 i)]) (fun i wx => i ≤ v1.names.length ∧ v1.names.take i = v2.names.take i ∧ Below w2.heap.size w2 wx) (fun i => v1.names.length - i) 0 ⟨rfl, rfl, rfl, trivial⟩ ⟨Nat.zero_le _, by simp, Below.refl _ _⟩ ?_
      rintro i wr ⟨hi, ht, hbr⟩
      have R1 := B1.below hbr B1.lt
      have R2 := B2.below hbr B2.lt
      refine kgo ?_
      refine WL.load rfl rfl rfl rfl rfl rfl (R1.cell 4 (by simp)) ?_
      by_cases hik : i < v1.names.length
      · obtain ⟨b1, o1, rfl, hlt1, hc1⟩ := nr1 (by omega)
        obtain ⟨b2, o2, rfl, hlt2, hc2⟩ := nr2 (by omega)
        have hc1 := hc1 i hik
        have hc2 := hc2 i (by omega)
        have hbw : Below w.heap.size w wr := hb2.trans (hbr.mono hz2)
        refine kgo ?_
        refine WC.drawn 10 (fun wx => wx.heap = wr.heap) fun w3 hd => ?_
        have hS : w3.heap = wr.heap := hd.heap
        have hb3 : Below w2.heap.size w2 w3 := hbr.trans (hd.below _)
        (((first | refine WD.free 0 rfl (by kernel_rfl) rfl rfl (fun _ _ _ _ _ h => h) rfl rfl (.inr hS) ?_ | refine WD.skip 0 rfl (by kernel_rfl) rfl rfl (fun _ _ _ _ _ h => h) rfl (.inr hS) ?_); try (first | ((with_reducible refine WD.topT ?_ ?_); omega) | ((with_reducible refine WD.topF ?_ ?_); omega) | ((with_reducible refine WD.top64 ?_ ?_); omega))))
        refine WD.load 1 [3, 4, 10] rfl (by kernel_rfl) rfl rfl (fun _ _ _ _ _ h => h) rfl rfl rfl rfl (fun wx hx => (heap_cell hx _).trans (R1.cell 4 (by simp))) hS ?_
        (((first | refine WD.free 2 rfl (by kernel_rfl) rfl rfl (fun _ _ _ _ _ h => h) rfl rfl (.inr hS) ?_ | refine WD.skip 2 rfl (by kernel_rfl) rfl rfl (fun _ _ _ _ _ h => h) rfl (.inr hS) ?_); try (first | ((with_reducible refine WD.topT ?_ ?_); omega) | ((with_reducible refine WD.topF ?_ ?_); omega) | ((with_reducible refine WD.top64 ?_ ?_); omega))))
        refine WD.idx 3 i (o1 + i) rfl (by kernel_rfl) rfl rfl (fun _ _ _ _ _ h => h) rfl rfl rfl rfl rfl rfl hik (by omega) (.inr hS) ?_
        refine WD.load 4 [10] rfl (by kernel_rfl) rfl rfl (fun _ _ _ _ _ h => h) rfl rfl rfl rfl (fun wx hx => (heap_cell hx _).trans ((hbw.cell (p := ⟨b1, o1 + i, none⟩) hlt1).trans hc1)) hS ?_
        (((first | refine WD.free 5 rfl (by kernel_rfl) rfl rfl (fun _ _ _ _ _ h => h) rfl rfl (.inr hS) ?_ | refine WD.skip 5 rfl (by kernel_rfl) rfl rfl (fun _ _ _ _ _ h => h) rfl (.inr hS) ?_); try (first | ((with_reducible refine WD.topT ?_ ?_); omega) | ((with_reducible refine WD.topF ?_ ?_); omega) | ((with_reducible refine WD.top64 ?_ ?_); omega))))
        refine WD.load 6 [8, 9, 10] rfl (by kernel_rfl) rfl rfl (fun _ _ _ _ _ h => h) rfl rfl rfl rfl (fun wx hx => (heap_cell hx _).trans (R2.cell 4 (by simp))) hS ?_
        (((first | refine WD.free 7 rfl (by kernel_rfl) rfl rfl (fun _ _ _ _ _ h => h) rfl rfl (.inr hS) ?_ | refine WD.skip 7 rfl (by kernel_rfl) rfl rfl (fun _ _ _ _ _ h => h) rfl (.inr hS) ?_); try (first | ((with_reducible refine WD.topT ?_ ?_); omega) | ((with_reducible refine WD.topF ?_ ?_); omega) | ((with_reducible refine WD.top64 ?_ ?_); omega))))
        refine WD.idx 8 i (o2 + i) rfl (by kernel_rfl) rfl rfl (fun _ _ _ _ _ h => h) rfl rfl rfl rfl rfl rfl (by omega) (by omega) (.inr hS) ?_
        refine WD.load 9 [10] rfl (by kernel_rfl) rfl rfl (fun _ _ _ _ _ h => h) rfl rfl rfl rfl (fun wx hx => (heap_cell hx _).trans ((hbw.cell (p := ⟨b2, o2 + i, none⟩) hlt2).trans hc2)) hS ?_
        refine WD.one 10 (by kernel_rfl) rfl ?_
        refine WL.pure rfl rfl rfl rfl ?_
        refine WL.nil (WQ.dk (.inl rfl) ?_)
        refine WD.done (by kernel_rfl) ?_
        refine kgo ?_
        have hg1 : v1.names.getD i noT = v1.names[i] := by simp [hik]
        have hg2 : v2.names.getD i noT = v2.names[i] := by simp [show i < v2.names.length by omega]
        refine WC.condB rfl (fun hne => ?_) fun heq => ?_
        · refine kgo ?_
          refine WQ.ret1 rfl rfl (no (hb2.trans (hb3.mono hz2)) fun e => ?_)
          have h := congrArg (fun v => v.names.getD i noT) e
          rw [h] at hne
          simp at hne
        · refine kgo ?_
          refine WQ.again (i + 1) ⟨rfl, rfl, rfl, trivial⟩ ⟨hik, take_snoc_eq ht hik (by omega) ?_, hb3⟩ (by show v1.names.length - (i + 1) < v1.names.length - i; omega)
          rw [← hg1, ← hg2]
          refine Classical.byContradiction fun hne => ?_
          exact bytes_ne hne (by simpa using heq)
      · obtain rfl : i = v1.names.length := by omega
        refine kgo ?_
        exact WQ.meet () ⟨rfl, rfl, trivial⟩ ⟨by rw [List.take_length, e5, List.take_length] at ht; exact ht, hbr⟩
    rintro _ w5 ⟨e7, hb5⟩
    refine kgo ?_
    refine WC.loop (fun i : Nat => [(2, .pointer (some ⟨g1, 0, none⟩)), (3, .pointer (some ⟨g2, 0, none⟩)), (6, .int .i64 i)]) (fun i wx => i ≤ v1.kids.length ∧ v1.kids.take i = v2.kids.take i ∧ Below w2.heap.size w2 wx) (fun i => v1.kids.length - i) 0 ⟨rfl, rfl, rfl, trivial⟩ ⟨Nat.zero_le _, by simp, hb5⟩ ?_
    rintro i wr ⟨hi, ht, hbr⟩
    have R1 := B1.below hbr B1.lt
    have R2 := B2.below hbr B2.lt
    refine kgo ?_
    refine WL.load rfl rfl rfl rfl rfl rfl (R1.cell 5 (by simp)) ?_
    by_cases hik : i < v1.kids.length
    · obtain ⟨b1, o1, rfl, hlt1, hc1⟩ := kr1 (by omega)
      obtain ⟨b2, o2, rfl, hlt2, hc2⟩ := kr2 (by omega)
      obtain ⟨cs1, hl1, hv1, ha1⟩ := hc1 i hik
      obtain ⟨cs2, hl2, hv2, ha2⟩ := hc2 i (by omega)
      have hbw : Below w.heap.size w wr := hb2.trans (hbr.mono hz2)
      have ha1' : ∀ {wx : World}, wx.heap = wr.heap → wx.rangeAt b1 (o1 + i * 6) cs1 := fun hx j u hu => (heap_cell hx _).trans ((hbw.cell (p := ⟨b1, o1 + i * 6 + j, none⟩) hlt1).trans (ha1 j u hu))
      have ha2' : ∀ {wx : World}, wx.heap = wr.heap → wx.rangeAt b2 (o2 + i * 6) cs2 := fun hx j u hu => (heap_cell hx _).trans ((hbw.cell (p := ⟨b2, o2 + i * 6 + j, none⟩) hlt2).trans (ha2 j u hu))
      refine kgo ?_
      refine WC.drawn 10 (fun wx => wx.heap = wr.heap) fun w3 hd => ?_
      have hS : w3.heap = wr.heap := hd.heap
      have hb3 : Below w2.heap.size w2 w3 := hbr.trans (hd.below _)
      (((first | refine WD.free 0 rfl (by kernel_rfl) rfl rfl (fun _ _ _ _ _ h => h) rfl rfl (.inr hS) ?_ | refine WD.skip 0 rfl (by kernel_rfl) rfl rfl (fun _ _ _ _ _ h => h) rfl (.inr hS) ?_); try (first | ((with_reducible refine WD.topT ?_ ?_); omega) | ((with_reducible refine WD.topF ?_ ?_); omega) | ((with_reducible refine WD.top64 ?_ ?_); omega))))
      refine WD.load 1 [3, 4, 10, 11] rfl (by kernel_rfl) rfl rfl (fun _ _ _ _ _ h => h) rfl rfl rfl rfl (fun wx hx => (heap_cell hx _).trans (R1.cell 5 (by simp))) hS ?_
      (((first | refine WD.free 2 rfl (by kernel_rfl) rfl rfl (fun _ _ _ _ _ h => h) rfl rfl (.inr hS) ?_ | refine WD.skip 2 rfl (by kernel_rfl) rfl rfl (fun _ _ _ _ _ h => h) rfl (.inr hS) ?_); try (first | ((with_reducible refine WD.topT ?_ ?_); omega) | ((with_reducible refine WD.topF ?_ ?_); omega) | ((with_reducible refine WD.top64 ?_ ?_); omega))))
      refine WD.idx 3 i (o1 + i * 6) rfl (by kernel_rfl) rfl rfl (fun _ _ _ _ _ h => h) rfl rfl rfl rfl rfl rfl hik rfl (.inr hS) ?_
      refine WD.loadMid 4 [10, 11] rfl (by kernel_rfl) rfl rfl (fun _ _ _ _ _ h => h) rfl rfl rfl rfl (fun wx hx => ha1' hx) hl1 hS ?_
      (((first | refine WD.free 5 rfl (by kernel_rfl) rfl rfl (fun _ _ _ _ _ h => h) rfl rfl (.inr hS) ?_ | refine WD.skip 5 rfl (by kernel_rfl) rfl rfl (fun _ _ _ _ _ h => h) rfl (.inr hS) ?_); try (first | ((with_reducible refine WD.topT ?_ ?_); omega) | ((with_reducible refine WD.topF ?_ ?_); omega) | ((with_reducible refine WD.top64 ?_ ?_); omega))))
      refine WD.load 6 [8, 9, 10, 11] rfl (by kernel_rfl) rfl rfl (fun _ _ _ _ _ h => h) rfl rfl rfl rfl (fun wx hx => (heap_cell hx _).trans (R2.cell 5 (by simp))) hS ?_
      (((first | refine WD.free 7 rfl (by kernel_rfl) rfl rfl (fun _ _ _ _ _ h => h) rfl rfl (.inr hS) ?_ | refine WD.skip 7 rfl (by kernel_rfl) rfl rfl (fun _ _ _ _ _ h => h) rfl (.inr hS) ?_); try (first | ((with_reducible refine WD.topT ?_ ?_); omega) | ((with_reducible refine WD.topF ?_ ?_); omega) | ((with_reducible refine WD.top64 ?_ ?_); omega))))
      refine WD.idx 8 i (o2 + i * 6) rfl (by kernel_rfl) rfl rfl (fun _ _ _ _ _ h => h) rfl rfl rfl rfl rfl rfl (by omega) rfl (.inr hS) ?_
      refine WD.loadMid 9 [10, 11] rfl (by kernel_rfl) rfl rfl (fun _ _ _ _ _ h => h) rfl rfl rfl rfl (fun wx hx => ha2' hx) hl2 hS ?_
      refine WD.one 10 (by kernel_rfl) rfl ?_
      have hbw3 : Below w.heap.size w w3 := hb2.trans (hb3.mono hz2)
      refine WL.call rfl rfl rfl rfl rfl Tryz.func75 rfl (by kernel_rfl) (equal_any f (hv1.below hbw3) (hv2.below hbw3)) ?_
      rintro _ w4 ⟨⟨b, rfl, hb⟩, hb4⟩
      refine ⟨_, rfl, ?_⟩
      have hb4' : Below w2.heap.size w2 w4 := hb3.trans (hb4.mono hb3.size)
      refine WL.nil (WQ.dk (.inl rfl) ?_)
      refine WD.one 11 (by kernel_rfl) rfl ?_
      refine WL.pure rfl rfl rfl rfl ?_
      refine WL.nil (WQ.dk (.inl rfl) ?_)
      refine WD.done (by kernel_rfl) ?_
      refine kgo ?_
      have hg1 : v1.kids.getD i noV = v1.kids[i] := by simp [hik]
      have hg2 : v2.kids.getD i noV = v2.kids[i] := by simp [show i < v2.kids.length by omega]
      refine WC.condB rfl (fun hne => ?_) fun heq => ?_
      · refine kgo ?_
        refine WQ.ret1 rfl rfl (no (hb2.trans (hb4'.mono hz2)) fun e => ?_)
        have := hb.2 (by rw [e])
        simp [this] at hne
      · refine kgo ?_
        refine WQ.again (i + 1) ⟨rfl, rfl, rfl, trivial⟩ ⟨hik, take_snoc_eq ht hik (by omega) ?_, hb4'⟩ (by show v1.kids.length - (i + 1) < v1.kids.length - i; omega)
        rw [← hg1, ← hg2]
        exact hb.1 (by simpa using heq)
    · obtain rfl : i = v1.kids.length := by omega
      refine kgo ?_
      refine WQ.ret1 rfl rfl ⟨⟨true, rfl, ⟨fun _ => ?_, fun _ => rfl⟩⟩, hb2.trans (hbr.mono hz2)⟩
      rw [List.take_length, e6, List.take_length] at ht
      exact V.ext' e1 e2 e3 e4 e7 ht
end K
end Go.Proofs.YtlamdhekjlnccaaGreatDoor

/- Encode (chapter 7); how long its bytes are; what was laid is read. -/
namespace Go.Proofs.YtlamdhekjlnccaaGreatDoor
open Go.RowKit
namespace K

/-- What Encode tells. -/
def encR (v : V) : List Int × Int := if chk 16 v ≠ 0 then ([], chk 16 v) else if 65536 < (encV 16 v).length then ([], 5) else (encV 16 v, 0)
def EncPost (w : World) (v : V) (e : Ending) (w' : World) : Prop := ∃ b, e = .returned (.tuple #[b, .int .i64 (encR v).2]) ∧ Bu w' b (encR v).1 ∧ Below w.heap.size w w' ∧ ∀ g, b.ownBlock = some g → w.heap.size ≤ g
theorem encode_any {f : Nat} {w : World} {v : V} {cs : List Value} (h : IsV f w v cs) (hlen : chk 16 v = 0 → (encV 16 v).length ≤ 70368744177664) :
    Calls Tryz.prog 60 #[.agg cs.toArray] w (EncPost w v) := by
  have hcs := h.len
  refine enter (args := [.agg cs.toArray]) Tryz.func60 rfl Tryz.ntmps60 rfl ?_
  refine kgo ?_
  refine WL.box rfl rfl rfl rfl rfl fun g w1 hf => ?_
  have hf' : Fresh w g w1 41 cs := hf
  clear hf
  have hz1 := hf'.size
  have h1 := h.below hf'.below
  refine kgo ?_
  refine WL.loadMid rfl rfl rfl rfl rfl rfl (VBlk.rangeAt hf'.blk) hcs ?_
  refine WL.call rfl rfl rfl rfl rfl Tryz.func80 rfl (by kernel_rfl) (Vl.Check_any h1) ?_
  rintro _ w2 ⟨rfl, hb2⟩
  refine ⟨_, rfl, ?_⟩
  have hw2 : Below w.heap.size w w2 := hf'.below.trans (hb2.mono (by omega))
  by_cases hc : chk 16 v = 0
  · refine kgo ?_
    refine WL.loadMid rfl rfl rfl rfl rfl rfl (VBlk.rangeAt (hf'.blk.below hb2 hf'.blk.lt)) hcs ?_
    refine WL.call rfl rfl rfl rfl rfl Tryz.func81 rfl (by kernel_rfl) (clay_all 16 (h1.below hb2) hc (Bu.nil w2) ⟨Below.refl _ _, fun g hg => by cases hg⟩ (by have := hlen hc; simp only [List.length_nil]; omega)) ?_
    rintro _ w3 ⟨b, rfl, hb, hg⟩
    refine ⟨_, rfl, ?_⟩
    rw [List.nil_append] at hb
    obtain ⟨sp, cap, rfl, hl1, hl2⟩ := hb.form
    have hw3 : Below w.heap.size w w3 := hw2.trans (hg.old (B := w.heap.size) (hw2.size) fun g h => by cases h)
    by_cases hbig : 65536 < (encV 16 v).length
    · have hr : encR v = ([], 5) := by unfold encR; rw [if_neg (by simpa using hc), if_pos hbig]
      refine kgo ?_
      exact WQ.ret2 rfl rfl rfl ⟨_, by rw [hr], by rw [hr]; exact Bu.nil _, hw3, fun g hg => by cases hg⟩
    · have hr : encR v = (encV 16 v, 0) := by unfold encR; rw [if_neg (by simpa using hc), if_neg hbig]
      refine kgo ?_
      exact WQ.ret2 rfl rfl rfl ⟨_, by rw [hr], by rw [hr]; exact hb, hw3, fun g h => (hg.2 g h).elim (fun h2 => by cases h2) fun h2 => by have := hw2.size; omega⟩
  · have hr : encR v = ([], chk 16 v) := by unfold encR; rw [if_pos hc]
    refine kgo ?_
    exact WQ.ret2 rfl rfl rfl ⟨_, by rw [hr], by rw [hr]; exact Bu.nil _, hw2, fun g hg => by cases hg⟩

theorem uvB_len (u : Nat) : (uvB u).length ≤ 10 := uvF_len 10 u
theorem enc_pieces (ky : V → List Int) (st : Bool) (names : List ByteArray) (kids : List V) (hn : st = true → names.length = kids.length ∧ ∀ s ∈ names, s.size ≤ 40) :
    ((List.range kids.length).flatMap (pieceE ky st names kids)).length ≤ 50 * names.length + (kids.flatMap ky).length := by
  have key : ∀ i, i ≤ kids.length → ((List.range i).flatMap (pieceE ky st names kids)).length ≤ (if st then 50 * i else 0) + ((kids.take i).flatMap ky).length := by
    intro i
    induction i with
    | zero => intro _; simp
    | succ i ih =>
      intro hi
      have h1 := ih (by omega)
      have ht : kids.take (i + 1) = kids.take i ++ [kids.getD i noV] := by
        rw [List.take_add_one]
        simp [show i < kids.length by omega]
      rw [range_piece, List.length_append, ht, List.flatMap_append, List.length_append]
      have h2 : (pieceE ky st names kids i).length ≤ (if st then 50 else 0) + ([kids.getD i noV].flatMap ky).length := by
        unfold pieceE
        rw [List.length_append]
        cases st with
        | false => simp
        | true =>
          have hs : (names.getD i noT).size ≤ 40 := (hn rfl).2 _ (by have := (hn rfl).1; simp [show i < names.length by omega])
          have hu := uvB_len (names.getD i noT).size
          have hb := byI_len (names.getD i noT)
          generalize names.getD i noT = nm at hs hu hb ⊢
          generalize kids.getD i noV = kd
          simp
          omega
      generalize ((List.range i).flatMap (pieceE ky st names kids)).length = a1 at h1 ⊢
      generalize (pieceE ky st names kids i).length = a2 at h2 ⊢
      generalize ((kids.take i).flatMap ky).length = a3 at h1 ⊢
      generalize ([kids.getD i noV].flatMap ky).length = a4 at h2 ⊢
      cases st with
      | false => rw [if_neg (by simp)] at h1 h2 ⊢; omega
      | true => rw [if_pos rfl] at h1 h2 ⊢; omega
  have := key kids.length (Nat.le_refl _)
  rw [List.take_length] at this
  cases st with
  | false => rw [if_neg (by simp)] at this; omega
  | true => have h := (hn rfl).1; rw [if_pos rfl] at this; omega
theorem grtK_enc {B f m : Nat} (ih : ∀ (v : V) (n : Nat), Sml f v → chk m v = 0 → grt B f v n ≤ B → n ≤ grt B f v n ∧ (encV m v).length + 80 * n ≤ 80 * grt B f v n) :
    ∀ (l : List V) (n : Nat), (∀ x ∈ l, Sml f x ∧ chk m x = 0) → grtK B (grt B f) l n ≤ B → n ≤ grtK B (grt B f) l n ∧ (l.flatMap (encV m)).length + 80 * n ≤ 80 * grtK B (grt B f) l n
  | [], n, _, _ => by simp [grtK]
  | k :: r, n, h, hB => by
    unfold grtK at hB ⊢
    by_cases hn : n ≤ B
    · rw [if_pos hn] at hB ⊢
      have hk := h k List.mem_cons_self
      have hle : grt B f k n ≤ B := by
        rcases Nat.lt_or_ge B (grt B f k n) with h1 | h1
        · rw [grtK_over r h1] at hB; omega
        · exact h1
      have h1 := ih k n hk.1 hk.2 hle
      have h2 := grtK_enc ih r (grt B f k n) (fun x hx => h x (List.mem_cons_of_mem _ hx)) hB
      rw [List.flatMap_cons, List.length_append]
      omega
    · rw [if_neg hn] at hB; omega
theorem grt_enc {B : Nat} : ∀ (f m : Nat) (v : V) (n : Nat), Sml f v → chk m v = 0 → grt B f v n ≤ B → n ≤ grt B f v n ∧ (encV m v).length + 80 * n ≤ 80 * grt B f v n
  | 0, _, _, _, h, _, _ => h.elim
  | _ + 1, 0, _, _, _, h, _ => by cases h
  | f + 1, m + 1, v, n, hs, hc, hB => by
    obtain ⟨-, -, hsk⟩ := hs
    have hk : ∀ x ∈ v.kids, Sml f x ∧ chk m x = 0 := fun x hx => ⟨hsk _ hx, chk_mem hc hx⟩
    unfold grt at hB ⊢
    have h1 := grtK_enc (grt_enc f m) v.kids _ hk hB
    obtain ⟨-, -, -, -, -, -, -, f9⟩ := shp_form (chk_shp hc)
    refine ⟨by omega, ?_⟩
    have hbody : (encV (m + 1) v).length ≤ 40 + 20 * (v.t.size / 20) + 50 * v.names.length + (v.kids.flatMap (encV m)).length := by
      rw [encV_two, List.length_cons]
      have hu1 := uvB_len (zig v.n)
      have hu2 := uvB_len v.n.toNat
      have hu3 := uvB_len v.t.size
      have hu4 := uvB_len v.kids.length
      have hb := byI_len v.t
      have hp := enc_pieces (encV m) (decide (v.k = 9)) v.names v.kids fun h => f9 (of_decide_eq_true h)
      split
      · simp; omega
      split
      · omega
      split
      · simp; omega
      split
      · omega
      split
      · rw [List.length_append]; omega
      split
      · rw [List.length_append]; omega
      · simp; omega
    omega
theorem IsV.rng {w : World} : ∀ {f : Nat} {v : V} {cs : List Value}, IsV f w v cs → Rng f v
  | 0, _, _, h => h
  | f + 1, v, _, h => by
    obtain ⟨sn, sk, -, -, wn, -, -, -, hk⟩ := h
    refine ⟨by simp [Lit.wf, IntKind.min, IntKind.max, IntKind.bits, IntKind.signed] at wn; omega, fun x hx => ?_⟩
    obtain ⟨j, hj, rfl⟩ := List.getElem_of_mem hx
    obtain ⟨sp, cap, -, -, -, hr⟩ := hk
    obtain ⟨b, o, -, -, hc⟩ := hr (by omega)
    obtain ⟨cs, -, hp, -⟩ := hc j hj
    have := IsV.rng hp
    simpa [hj] using this
/-- What was laid is read, whatever stands behind. -/
theorem rd_enc {f : Nat} {w : World} {v : V} {cs : List Value} (h : IsV f w v cs) (hc : chk 16 v = 0) (r : List Int) : rdV 16 (encV 16 v ++ r) = .ok v r := rdV_enc 16 r hc (IsV.rng h)
theorem encR_ok {v : V} (h : (encR v).2 = 0) : chk 16 v = 0 ∧ (encV 16 v).length ≤ 65536 ∧ (encR v).1 = encV 16 v := by
  unfold encR at h ⊢
  by_cases hc : chk 16 v = 0
  · rw [if_neg (by simpa using hc)] at h ⊢
    by_cases hb : 65536 < (encV 16 v).length
    · rw [if_pos hb] at h; cases h
    · rw [if_neg hb]; exact ⟨hc, by omega, rfl⟩
  · rw [if_pos hc] at h; exact absurd h hc
theorem enc_len {f : Nat} {v : V} {n : Nat} (hs : Sml f v) (h : ¬ 3000 < grt 3000 f v n) (hc : chk 16 v = 0) : (encV 16 v).length ≤ 70368744177664 := by
  have := (grt_enc (B := 3000) f 16 v n hs hc (by omega)).2
  omega
theorem bits_mask (x : Int) (m : Nat) (hm : m < 4611686018427387904) : ∃ r : Nat, r ≤ m ∧ bits .and .i64 x (m : Int) = (r : Int) := by
  refine ⟨(BitVec.ofInt 64 x).toNat &&& m, Nat.and_le_right, ?_⟩
  have h2 : (BitVec.ofInt 64 (m : Int)).toNat = m := by
    rw [BitVec.ofInt_natCast, BitVec.toNat_ofNat]; exact Nat.mod_eq_of_lt (by omega)
  have h3 : (BitVec.ofInt 64 x).toNat &&& m ≤ m := Nat.and_le_right
  show IntKind.i64.wrap ((BitVec.ofInt 64 x &&& BitVec.ofInt 64 (m : Int)).toNat : Int) = _
  rw [BitVec.toNat_and, h2]
  exact IntWalk.i64_in _ (by omega)
theorem Byt.nil : Byt [] := fun c h => by cases h
theorem Byt.one {c : Int} (h : 0 ≤ c ∧ c ≤ 255) : Byt [c] := fun x hx => by simp at hx; rw [hx]; exact h
theorem Byt.cons {c : Int} {l : List Int} (h : 0 ≤ c ∧ c ≤ 255) (hl : Byt l) : Byt (c :: l) := fun x hx => (List.mem_cons.1 hx).elim (fun e => by rw [e]; exact h) (hl x)
theorem uvF_byt : ∀ (f u : Nat), Byt (uvF f u)
  | 0, _ => Byt.nil
  | f + 1, u => by
    unfold uvF
    split
    · exact Byt.one (by omega)
    · exact Byt.cons (by omega) (uvF_byt f (u / 128))
theorem uvB_byt (u : Nat) : Byt (uvB u) := uvF_byt 10 u
theorem byI_byt (s : ByteArray) : Byt (byI s) := fun c hc => by
  unfold byI at hc
  obtain ⟨x, -, rfl⟩ := List.mem_map.1 hc
  have := x.toNat_lt
  omega
theorem encV_byt : ∀ (m : Nat) {v : V}, chk m v = 0 → Byt (encV m v)
  | 0, _, h => by cases h
  | m + 1, v, h => by
    obtain ⟨hk, f2, f3, f4, f5, fk, ft, f9⟩ := shp_form (chk_shp h)
    rw [encV_two]
    refine Byt.cons (by omega) ?_
    split
    · exact Byt.one (by have := f2 (by assumption); omega)
    split
    · exact uvB_byt _
    split
    · exact (uvB_byt _).app (Byt.one (by have := f4 (by assumption); omega))
    split
    · exact uvB_byt _
    split
    · exact (uvB_byt _).app (byI_byt _)
    split
    · refine (uvB_byt _).app fun c hc => ?_
      obtain ⟨j, hj, hc⟩ := List.mem_flatMap.1 hc
      have hj := List.mem_range.1 hj
      unfold pieceE at hc
      rcases List.mem_append.1 hc with hc | hc
      · split at hc
        · exact (uvB_byt _).app (byI_byt _) c hc
        · cases hc
      · exact encV_byt m (chk_kid h hj) c hc
    · exact Byt.nil
/-- A part of what was laid is refused. -/
theorem cut_short {f : Nat} {w : World} {v : V} {cs : List Value} (h : IsV f w v cs) (hc : chk 16 v = 0) {k : Nat} (hk : k < (encV 16 v).length) : readV true ((encV 16 v).take k) = .bad 2 := by
  have h1 := ext_rdV 16 ((encV 16 v).take k) ((encV 16 v).drop k)
  have h2 := rd_enc h hc []
  rw [List.append_nil] at h2
  rw [List.take_append_drop, h2] at h1
  unfold readV
  cases hq : rdV 16 ((encV 16 v).take k) with
  | ok a r =>
    rw [hq] at h1
    injection h1 with _ h1
    have := congrArg List.length h1
    simp at this
    omega
  | bad e =>
    rw [hq] at h1
    rcases h1 with rfl | h1
    · rfl
    · cases h1
theorem cut_more {f : Nat} {w : World} {v : V} {cs : List Value} (h : IsV f w v cs) (hc : chk 16 v = 0) : readV true (encV 16 v ++ [0]) = .bad 3 := by
  unfold readV
  rw [rd_enc h hc [0]]
  simp only
  rw [if_neg (by simpa using hc), if_pos (by simp)]
theorem encV_pos {v : V} : 0 < (encV 16 v).length := by rw [encV_two]; simp

theorem grtK_le {B : Nat} {g : V → Nat → Nat} (hg : ∀ v n, n ≤ g v n) : ∀ (l : List V) (n : Nat), n ≤ grtK B g l n
  | [], n => Nat.le_refl n
  | k :: r, n => by
    unfold grtK
    split
    · exact Nat.le_trans (hg k n) (grtK_le hg r _)
    · exact Nat.le_refl n
theorem grt_le {B : Nat} : ∀ (f : Nat) (v : V) (n : Nat), n ≤ grt B f v n
  | 0, _, n => Nat.le_refl n
  | f + 1, v, n => by
    unfold grt
    exact Nat.le_trans (by omega) (grtK_le (grt_le f) v.kids _)
theorem back_dec {f : Nat} {w : World} {v : V} {cs : List Value} (h : IsV f w v cs) (hc : chk 16 v = 0) (hl : (encV 16 v).length ≤ 65536) : readV true (encV 16 v) = .ok v [] := by
  have := rd_enc h hc []
  rw [List.append_nil] at this
  unfold readV
  rw [this]
  simp only
  rw [if_neg (by simpa using hc), if_neg (by simp), if_neg (by simp; omega)]
theorem back_read {f : Nat} {w : World} {v : V} {cs : List Value} (h : IsV f w v cs) (hc : chk 16 v = 0) (hl : (encV 16 v).length ≤ 65536) (r : List Int) : readV false (encV 16 v ++ r) = .ok v r := by
  unfold readV
  rw [rd_enc h hc r]
  simp only
  rw [if_neg (by simpa using hc), if_neg (by simp), if_neg (by simp; omega)]
theorem read_can {l : List Int} {z : V} {r : List Int} (hb : Byt l) (h : readV true l = .ok z r) : chk 16 z = 0 ∧ encV 16 z = l ∧ l.length ≤ 65536 := by
  unfold readV at h
  cases hq : rdV 16 l with
  | bad e => rw [hq] at h; cases h
  | ok v r' =>
    rw [hq] at h
    simp only at h
    by_cases hc : chk 16 v = 0
    · rw [if_neg (by simpa using hc)] at h
      by_cases h1 : 0 < r'.length
      · rw [if_pos ⟨trivial, h1⟩] at h; cases h
      rw [if_neg (by simp; simpa using h1)] at h
      obtain rfl : r' = [] := by cases r' with
        | nil => rfl
        | cons a b => simp at h1
      by_cases h2 : 65536 < l.length - ([] : List Int).length
      · rw [if_pos h2] at h; cases h
      rw [if_neg h2] at h
      cases h
      have := rdV_can 16 hq hc hb
      rw [List.append_nil] at this
      exact ⟨hc, this.symm, by simpa using h2⟩
    · rw [if_pos hc] at h; cases h
end K
end Go.Proofs.YtlamdhekjlnccaaGreatDoor

/- The words of the digest: a word turned, a word out of four bytes; in the program and in the reference. -/
namespace Go.Proofs.YtlamdhekjlnccaaGreatDoor
open Go.RowKit
namespace Dig

/-- x turned n digits to the right, as the model reckons it. -/
def rotr (x n : Int) : Int := bits .or .u32 (x / 2 ^ n.toNat) (x * 2 ^ (32 - n).toNat % 4294967296)
/-- The word of four bytes. -/
def word (a b c d : Int) : Int :=
  bits .or .u32 (bits .or .u32 (bits .or .u32 (a % 4294967296 * 16777216 % 4294967296) (b % 4294967296 * 65536 % 4294967296)) (c % 4294967296 * 256 % 4294967296)) (d % 4294967296)

set_option maxHeartbeats 400000 in
theorem turn_any (x n : Int) (w : World) (hn : 0 ≤ n) (hn2 : n ≤ 32) :
    Calls Tryz.prog 89 #[.int .u32 x, .int .u64 n] w fun e w' => e = .returned (.int .u32 (rotr x n)) ∧ w = w' := by
  go_enter Tryz.func89, Tryz.ntmps89
  go_wp2
  go_ret
  exact ⟨rfl, rfl⟩

set_option maxHeartbeats 400000 in
theorem word_any (b o len cap : Nat) (x0 x1 x2 x3 : Int) (w : World) (hl : 4 ≤ len)
   (h0 : w.cell? ⟨b, o, none⟩ = some (.int .u8 x0)) (h1 : w.cell? ⟨b, o + 1, none⟩ = some (.int .u8 x1))
   (h2 : w.cell? ⟨b, o + 2, none⟩ = some (.int .u8 x2)) (h3 : w.cell? ⟨b, o + 3, none⟩ = some (.int .u8 x3)) :
    Calls Tryz.prog 88 #[.slice (some ⟨b, o, none⟩) len cap] w fun e w' => e = .returned (.int .u32 (word x0 x1 x2 x3)) ∧ Drawn w w' := by
  have a0 : (0 : Int) < len := by omega
  have a1 : (1 : Int) < len := by omega
  have a2 : (2 : Int) < len := by omega
  have a3 : (3 : Int) < len := by omega
  go_enter Tryz.func88, Tryz.ntmps88
  go_wp2
  go_quiet (fail)
  go_wp2
  go_ret
  exact ⟨rfl, Drawn.mk _ _⟩

end Dig
end Go.Proofs.YtlamdhekjlnccaaGreatDoor

/- digest: the program's function that takes a block in. -/
namespace Go.Proofs.YtlamdhekjlnccaaGreatDoor
open Go.RowKit
namespace Dig

/-- The word at byte j. -/
def wordAt (by_ : List Int) (j : Nat) : Int := word (nth by_ j) (nth by_ (j + 1)) (nth by_ (j + 2)) (nth by_ (j + 3))
/-- The first n words of a block laid into sixty-four cells. -/
def load (by_ : List Int) : Nat → List Int
  | 0 => List.replicate 64 0
  | n + 1 => (load by_ n).set n (wordAt by_ (4 * n))
theorem load_length (by_ : List Int) (n : Nat) : (load by_ n).length = 64 := by
  induction n with
  | zero => rfl
  | succ n ih => rw [load, List.length_set, ih]

def sig0 (x : Int) : Int := bits .xor .u32 (bits .xor .u32 (rotr x 7) (rotr x 18)) (x / 8)
def sig1 (x : Int) : Int := bits .xor .u32 (bits .xor .u32 (rotr x 17) (rotr x 19)) (x / 1024)
/-- The further words: n of them behind the sixteen. -/
def sched (l : List Int) : Nat → List Int
  | 0 => l
  | n + 1 => (sched l n).set (16 + n) ((nth (sched l n) n + sig0 (nth (sched l n) (n + 1)) + nth (sched l n) (n + 9) + sig1 (nth (sched l n) (n + 14))) % 4294967296)
theorem sched_length (l : List Int) (n : Nat) : (sched l n).length = l.length := by
  induction n with
  | zero => rfl
  | succ n ih => rw [sched, List.length_set, ih]

theorem eight (l : List Int) (h : l.length = 8) : l = [nth l 0, nth l 1, nth l 2, nth l 3, nth l 4, nth l 5, nth l 6, nth l 7] := by
  match l, h with
  | [a, b, c, d, e, f, g, i], _ => rfl
theorem mk8 (w : World) (l : List Int) (h : l.length = 8) :
    IBlk .u32 99 (w.alloc (.cells #[.int .u32 (nth l 0), .int .u32 (nth l 1), .int .u32 (nth l 2), .int .u32 (nth l 3), .int .u32 (nth l 4), .int .u32 (nth l 5), .int .u32 (nth l 6), .int .u32 (nth l 7)] 99)) w.heap.size l := by
  have := VBlk.mk w (l.map (Value.int .u32)) 99
  match l, h with
  | [a, b, c, d, e, f, g, i], _ => exact this
/-- The round's two sums, and the eight words behind it. -/
def rt (kk W v : List Int) (i : Nat) : Int :=
  nth v 7 + bits .xor .u32 (bits .xor .u32 (rotr (nth v 4) 6) (rotr (nth v 4) 11)) (rotr (nth v 4) 25) +
    bits .xor .u32 (bits .and .u32 (nth v 4) (nth v 5)) (bits .and .u32 (bits .xor .u32 IntKind.u32.max (nth v 4)) (nth v 6)) + nth kk i + nth W i
def ru (v : List Int) : Int :=
  bits .xor .u32 (bits .xor .u32 (rotr (nth v 0) 2) (rotr (nth v 0) 13)) (rotr (nth v 0) 22) +
    bits .xor .u32 (bits .xor .u32 (bits .and .u32 (nth v 0) (nth v 1)) (bits .and .u32 (nth v 0) (nth v 2))) (bits .and .u32 (nth v 1) (nth v 2))
def rnd (kk W v : List Int) (i : Nat) : List Int :=
  [(rt kk W v i + ru v) % 4294967296, nth v 0, nth v 1, nth v 2, (nth v 3 + rt kk W v i) % 4294967296, nth v 4, nth v 5, nth v 6]
def rounds (kk W v : List Int) : Nat → List Int
  | 0 => v
  | n + 1 => rnd kk W (rounds kk W v n) n
theorem rounds_length (kk W v : List Int) (n : Nat) (h : v.length = 8) : (rounds kk W v n).length = 8 := by
  cases n with
  | zero => exact h
  | succ n => rfl
theorem set8 {k : IntKind} {T : TypeId} {w : World} {b : Nat} {l : List Int} (h : IBlk k T w b l) (hl : l.length = 8) (x0 x1 x2 x3 x4 x5 x6 x7 : Int) :
    IBlk k T ((((((((w.setCell ⟨b, 0, none⟩ (.int k x0)).setCell ⟨b, 1, none⟩ (.int k x1)).setCell ⟨b, 2, none⟩ (.int k x2)).setCell ⟨b, 3, none⟩ (.int k x3)).setCell ⟨b, 4, none⟩ (.int k x4)).setCell ⟨b, 5, none⟩ (.int k x5)).setCell ⟨b, 6, none⟩ (.int k x6)).setCell ⟨b, 7, none⟩ (.int k x7)) b [x0, x1, x2, x3, x4, x5, x6, x7] := by
  have := (((((((h.set 0 x0).set 1 x1).set 2 x2).set 3 x3).set 4 x4).set 5 x5).set 6 x6).set 7 x7
  match l, hl with
  | [a, b, c, d, e, f, g, i], _ => exact this
theorem oth8 {K : Nat → Prop} {w w' : World} {b : Nat} (h : Keep K w w') (hK : ¬ K b) (x0 x1 x2 x3 x4 x5 x6 x7 : Value) :
    Keep K w ((((((((w'.setCell ⟨b, 0, none⟩ x0).setCell ⟨b, 1, none⟩ x1).setCell ⟨b, 2, none⟩ x2).setCell ⟨b, 3, none⟩ x3).setCell ⟨b, 4, none⟩ x4).setCell ⟨b, 5, none⟩ x5).setCell ⟨b, 6, none⟩ x6).setCell ⟨b, 7, none⟩ x7) :=
  (((((((h.setCell hK x0).setCell hK x1).setCell hK x2).setCell hK x3).setCell hK x4).setCell hK x5).setCell hK x6).setCell hK x7
/-- The words of the state, each with one added. -/
def addInto (st v : List Int) : Nat → List Int
  | 0 => st
  | n + 1 => (addInto st v n).set n ((nth (addInto st v n) n + nth v n) % 4294967296)
theorem addInto_length (st v : List Int) (n : Nat) : (addInto st v n).length = st.length := by
  induction n with
  | zero => rfl
  | succ n ih => rw [addInto, List.length_set, ih]
/-- What taking a block in makes of the eight words. -/
def compress (kk by_ st : List Int) : List Int := addInto st (rounds kk (sched (load by_ 16) 48) st 64) 8

set_option maxRecDepth 100000 in
set_option maxHeartbeats 1000000 in
theorem take_any (bs bb ob n cap bk : Nat) (st by_ kk : List Int) (T T' : TypeId) (w : World) (hn : 64 ≤ n) (hn2 : n ≤ 9223372036854775807) (hcap : n ≤ cap)
    (hbb : bb < w.heap.size) 
    (hst : IBlk .u32 T w bs st) (hby : Row .u8 w bb ob by_) (hkk : IBlk .u32 T' w bk kk) (hl1 : st.length = 8) (hl2 : 64 ≤ by_.length) (hl3 : kk.length = 64) :
    Calls Tryz.prog 65 #[.pointer (some ⟨bs, 0, none⟩), .slice (some ⟨bb, ob, none⟩) n cap, .pointer (some ⟨bk, 0, none⟩)] w
      fun e w' => e = .returned (.tuple #[]) ∧ IBlk .u32 T w' bs (compress kk by_ st) ∧ Keep (fun k => k < w.heap.size ∧ k ≠ bs) w w' := by
  have hbs := hst.lt
  have hbk := hkk.lt
  go_enter Tryz.func65, Tryz.ntmps65
  go_wp2
  have hW : IBlk .u32 100 (w.alloc (.cells ((List.replicate 64 (0:Int)).map (Value.int .u32)).toArray 100)) w.heap.size (load by_ 0) := VBlk.mk w _ _
  have hB : Below w.heap.size w (w.alloc (.cells ((List.replicate 64 (0:Int)).map (Value.int .u32)).toArray 100)) := (Below.refl _ _).alloc (Nat.le_refl _) _
  simp only [List.replicate, List.map] at hW hB
  generalize w.alloc _ = w1 at hW hB ⊢
  go_loopw [20] (fun c wr => ∃ i : Nat, i ≤ 16 ∧ c = .int .i64 i ∧ IBlk .u32 100 wr w.heap.size (load by_ i) ∧ Below w.heap.size w wr)
    (fun c _ => 16 - (intOf c).toNat)
  case atStart => exact ⟨0, by omega, rfl, hW, hB⟩
  case round =>
    obtain ⟨i, hi, rfl, hWr, hBr⟩ := hrel
    have hlw := load_length by_ i
    by_cases h16 : i < 16
    · have hbyr := hby.below hBr hbb
      have c0 := hWr.cell i (by omega)
      have f0 := hWr.free i
      go_wp2_with (go_at_call 88; refine (word_any bb (ob + 4 * i) _ _ _ _ _ _ _ (by omega) (hbyr.at (4 * i) (by omega)) (hbyr.at' (4 * i + 1) _ (by omega) (by omega)) (hbyr.at' (4 * i + 2) _ (by omega) (by omega)) (hbyr.at' (4 * i + 3) _ (by omega) (by omega))).mono ?_; rintro e w' ⟨rfl, nq, rfl⟩)
      go_roundw
      case rel => exact ⟨i + 1, by omega, by go_num, (hWr.drewN nq).set _ _, (hBr.trans (Keep.below ((Keep.refl _ _).drewN nq))).setCell (Nat.le_refl _) _⟩
      case measure => simp [intOf]; omega
    · have e16 : i = 16 := by omega
      have hWf : IBlk .u32 100 wr w.heap.size (load by_ 16) := by rw [← e16]; exact hWr
      clear e16 hWr
      go_wp2
      go_loopw [8] (fun c wr => ∃ i : Nat, i ≤ 48 ∧ c = .int .i64 (16 + (i : Int)) ∧ IBlk .u32 100 wr w.heap.size (sched (load by_ 16) i) ∧ Below w.heap.size w wr)
        (fun c _ => 64 - (intOf c).toNat)
      case atStart => exact ⟨0, by omega, rfl, hWf, hBr⟩
      case round =>
        clear hWf hBr hlw
        obtain ⟨i, hi2, rfl, hWr, hBr⟩ := hrel
        have hlw := (sched_length (load by_ 16) i).trans (load_length by_ 16)
        by_cases h48 : i < 48
        · have c0 := hWr.cell (16 + i) (by omega)
          have c1 := hWr.cell' (16 + i - 15) (i + 1) (by omega) (by omega)
          have c2 := hWr.cell' (16 + i - 2) (i + 14) (by omega) (by omega)
          have c3 := hWr.cell i (by omega)
          have c4 := hWr.cell' (16 + i - 7) (i + 9) (by omega) (by omega)
          have f0 := hWr.free (16 + i)
          go_wp2_with fail
          go_quiet (fail)
          go_wp2_with (go_at_call 89; refine (turn_any _ _ _ (by omega) (by omega)).mono ?_; rintro e w' ⟨rfl, rfl⟩)
          go_region
          go_wp2
          go_roundw
          case rel =>
            exact ⟨i + 1, by omega, by go_num, (hWr.drewN _).set _ _, ((Keep.of_below hBr).drewN _).below.setCell (Nat.le_refl _) _⟩
          case measure => simp [intOf]; omega
        · have e48 : i = 48 := by omega
          have hWf : IBlk .u32 100 wr w.heap.size (sched (load by_ 16) 48) := by rw [← e48]; exact hWr
          clear e48 hWr hlw
          have hstr : IBlk .u32 T wr bs st := hst.below hBr hbs
          have hkkr : IBlk .u32 T' wr bk kk := hkk.below hBr hbk
          have d0 := hstr.cell 0 (by omega)
          have d1 := hstr.cell 1 (by omega)
          have d2 := hstr.cell 2 (by omega)
          have d3 := hstr.cell 3 (by omega)
          have d4 := hstr.cell 4 (by omega)
          have d5 := hstr.cell 5 (by omega)
          have d6 := hstr.cell 6 (by omega)
          have d7 := hstr.cell 7 (by omega)
          go_wp2
          have hV := mk8 wr st hl1
          have hBz : w.heap.size < wr.heap.size := hWf.lt
          have hB2 : Below w.heap.size w _ := hBr.alloc (Nat.le_of_lt hBz) (.cells #[.int .u32 (nth st 0), .int .u32 (nth st 1), .int .u32 (nth st 2), .int .u32 (nth st 3), .int .u32 (nth st 4), .int .u32 (nth st 5), .int .u32 (nth st 6), .int .u32 (nth st 7)] 99)
          have hW2 := hWf.alloc (.cells #[.int .u32 (nth st 0), .int .u32 (nth st 1), .int .u32 (nth st 2), .int .u32 (nth st 3), .int .u32 (nth st 4), .int .u32 (nth st 5), .int .u32 (nth st 6), .int .u32 (nth st 7)] 99)
          generalize wr.alloc _ = w2 at hV hB2 hW2 ⊢
          clear d0 d1 d2 d3 d4 d5 d6 d7 hWf hBr hstr hkkr
          generalize wr.heap.size = Bv at hV hBz ⊢
          have hlW : (sched (load by_ 16) 48).length = 64 := (sched_length (load by_ 16) 48).trans (load_length by_ 16)
          obtain ⟨W, hWW⟩ : ∃ W, W = sched (load by_ 16) 48 := ⟨_, rfl⟩
          rw [← hWW] at hW2 hlW
          have HW := Lib.hid hWW
          clear hWW
          go_loopw [77] (fun c wr => ∃ i : Nat, i ≤ 64 ∧ c = .int .i64 i ∧ IBlk .u32 100 wr w.heap.size W ∧ IBlk .u32 99 wr Bv (rounds kk W st i) ∧ Below w.heap.size w wr)
            (fun c _ => 64 - (intOf c).toNat)
          case atStart => exact ⟨0, by omega, rfl, hW2, hV, hB2⟩
          case round =>
            clear hW2 hV hB2
            obtain ⟨r, hr, rfl, hWr, hVr, hBr⟩ := hrel
            have hlv := rounds_length kk W st r hl1
            obtain ⟨v, hvv⟩ : ∃ v, v = rounds kk W st r := ⟨_, rfl⟩
            rw [← hvv] at hVr hlv
            have Hv := Lib.hid hvv
            clear hvv
            by_cases hr64 : r < 64
            · have hkkr : IBlk .u32 T' wr bk kk := hkk.below hBr hbk
              have d0 := hVr.cell 0 (by omega)
              have d1 := hVr.cell 1 (by omega)
              have d2 := hVr.cell 2 (by omega)
              have d3 := hVr.cell 3 (by omega)
              have d4 := hVr.cell 4 (by omega)
              have d5 := hVr.cell 5 (by omega)
              have d6 := hVr.cell 6 (by omega)
              have d7 := hVr.cell 7 (by omega)
              have f0 := hVr.free
              have k0 := hkkr.cell r (by omega)
              have w0 := hWr.cell r (by omega)
              go_wp2_with fail
              go_quiet (fail)
              go_wp2_with fail
              go_quiet ((go_at_call 89; exact quiet_add_left (turn_any _ _ _ (by omega) (by omega))))
              go_wp2_with fail
              go_quiet ((go_at_call 89; exact quiet_add_left (turn_any _ _ _ (by omega) (by omega))))
              go_wp2
              go_roundw
              case rel =>
                refine ⟨r + 1, by omega, by go_num, hWr.keep (oth8 ((Keep.refl (fun k => k < Bv) wr).drewN _) (Nat.lt_irrefl _) _ _ _ _ _ _ _ _) hBz, ?_, ?_⟩
                · rw [rounds, ← Hv.out]
                  exact set8 (hVr.drewN _) hlv _ _ _ _ _ _ _ _
                · exact (oth8 ((Keep.of_below hBr).drewN _) (Nat.not_lt.2 (Nat.le_of_lt hBz)) _ _ _ _ _ _ _ _).below
              case measure => simp [intOf]; omega
            · have e64 : r = 64 := by omega
              have hVf : IBlk .u32 99 wr Bv (rounds kk W st 64) := by rw [← e64, ← Hv.out]; exact hVr
              have hstr : IBlk .u32 T wr bs st := hst.below hBr hbs
              have hl8 := rounds_length kk W st 64 hl1
              have hres : compress kk by_ st = addInto st (rounds kk W st 64) 8 := by rw [HW.out]; rfl
              have Hres := Lib.hid hres
              clear hres e64 hVr hWr hlv Hv HW hlW
              obtain ⟨z, hz⟩ : ∃ z, z = rounds kk W st 64 := ⟨_, rfl⟩
              rw [← hz] at hVf hl8
              have Hz := Lib.hid hz
              clear hz
              have hBz2 : Keep (fun k => k < w.heap.size ∧ k ≠ bs) w wr := (Keep.of_below hBr).mono fun _ h => h.1
              go_wp2
              go_loopw [161] (fun c wr => ∃ i : Nat, i ≤ 8 ∧ c = .int .i64 i ∧ IBlk .u32 99 wr Bv z ∧ IBlk .u32 T wr bs (addInto st z i) ∧ Keep (fun k => k < w.heap.size ∧ k ≠ bs) w wr)
                (fun c _ => 8 - (intOf c).toNat)
              case atStart => exact ⟨0, by omega, rfl, hVf, hstr, hBz2⟩
              case round =>
                clear hVf hstr hBz2 hBr
                obtain ⟨q, hq, rfl, hVr, hSr, hKr⟩ := hrel
                have hls := (addInto_length st z q).trans hl1
                by_cases h8 : q < 8
                · have s0 := hSr.cell q (by omega)
                  have v0 := hVr.cell q (by omega)
                  have f0 := hSr.free q
                  go_wp2_with fail
                  go_region
                  go_wp2
                  go_roundw
                  case rel =>
                    refine ⟨q + 1, by omega, by go_num, ?_, ?_, ?_⟩
                    · exact hVr.other _ _ (by show Bv ≠ bs; omega)
                    · exact hSr.set _ _
                    · exact (hKr.setCell (fun h => h.2 rfl) _).drewN 1
                  case measure => simp [intOf]; omega
                · have e8 : q = 8 := by omega
                  have hSf : IBlk .u32 T wr bs (compress kk by_ st) := by rw [Hres.out, ← Hz.out, ← e8]; exact hSr
                  clear e8 hSr hVr Hres Hz hls
                  go_wp2
                  go_end0
                  exact ⟨rfl, hSf, hKr⟩

end Dig
end Go.Proofs.YtlamdhekjlnccaaGreatDoor

/- digest: the rounds' numbers. -/
namespace Go.Proofs.YtlamdhekjlnccaaGreatDoor
open Go.RowKit
namespace Dig

/-- The rounds' numbers. -/
def K : List Int := [
  0x428a2f98, 0x71374491, 0xb5c0fbcf, 0xe9b5dba5, 0x3956c25b, 0x59f111f1, 0x923f82a4, 0xab1c5ed5,
  0xd807aa98, 0x12835b01, 0x243185be, 0x550c7dc3, 0x72be5d74, 0x80deb1fe, 0x9bdc06a7, 0xc19bf174,
  0xe49b69c1, 0xefbe4786, 0x0fc19dc6, 0x240ca1cc, 0x2de92c6f, 0x4a7484aa, 0x5cb0a9dc, 0x76f988da,
  0x983e5152, 0xa831c66d, 0xb00327c8, 0xbf597fc7, 0xc6e00bf3, 0xd5a79147, 0x06ca6351, 0x14292967,
  0x27b70a85, 0x2e1b2138, 0x4d2c6dfc, 0x53380d13, 0x650a7354, 0x766a0abb, 0x81c2c92e, 0x92722c85,
  0xa2bfe8a1, 0xa81a664b, 0xc24b8b70, 0xc76c51a3, 0xd192e819, 0xd6990624, 0xf40e3585, 0x106aa070,
  0x19a4c116, 0x1e376c08, 0x2748774c, 0x34b0bcb5, 0x391c0cb3, 0x4ed8aa4a, 0x5b9cca4f, 0x682e6ff3,
  0x748f82ee, 0x78a5636f, 0x84c87814, 0x8cc70208, 0x90befffa, 0xa4506ceb, 0xbef9a3f7, 0xc67178f2]

set_option maxRecDepth 100000 in
set_option maxHeartbeats 1000000 in
theorem numbers_any (w : World) :
    Calls Tryz.prog 64 #[] w fun e w' => e = .returned (.agg (K.map (Value.int .u32)).toArray) ∧ Below w.heap.size w w' := by
  go_enter Tryz.func64, Tryz.ntmps64
  go_wp2_with (first | (refine wpList_build_to rfl 100 _ rfl (K.map (Value.int .u32)).toArray (by kernel_rfl) ?_) | (refine wpList_store_row rfl 100 _ _ rfl w.heap.size (K.map (Value.int .u32)).toArray rfl rfl 100 _ (heap_alloc_new _ _) (by kernel_rfl) (by kernel_rfl) (by kernel_rfl) ?_))
  refine bodyPost_ret (results_cell_row rfl _ _ w.heap.size 100 (K.map (Value.int .u32)).toArray (0, 0) _ rfl (setRow_heap _ _ _ _ _ _ (heap_alloc_new _ _)) Tryz.underlying100 rfl (by kernel_rfl)) rfl ⟨rfl, ?_⟩
  exact below_setRow ((Below.refl _ _).alloc (Nat.le_refl _) _) (Nat.le_refl _) _

end Dig
end Go.Proofs.YtlamdhekjlnccaaGreatDoor

/- digest: the program's Sum. -/
namespace Go.Proofs.YtlamdhekjlnccaaGreatDoor
open Go.RowKit
namespace Dig

/-- The words that a digest begins with. -/
def H0 : List Int := [0x6a09e667, 0xbb67ae85, 0x3c6ef372, 0xa54ff53a, 0x510e527f, 0x9b05688c, 0x1f83d9ab, 0x5be0cd19]
/-- The state behind j blocks of l. -/
def absorb (l st : List Int) : Nat → List Int
  | 0 => st
  | j + 1 => compress K (l.drop (64 * j)) (absorb l st j)
theorem compress_length (kk by_ st : List Int) : (compress kk by_ st).length = st.length := addInto_length st _ 8
theorem absorb_length (l st : List Int) (j : Nat) : (absorb l st j).length = st.length := by
  induction j with
  | zero => rfl
  | succ j ih => rw [absorb, compress_length, ih]

/-- The last n bytes of e: a length in digits, the i last of eight laid. -/
def putLen (p : List Int) (e n : Nat) : Nat → List Int
  | 0 => p
  | i + 1 => (putLen p e n i).set (e - 1 - i) ((n : Int) * 8 / 2 ^ (8 * i) % 256)
theorem putLen_length (p : List Int) (e n i : Nat) : (putLen p e n i).length = p.length := by
  induction i with
  | zero => rfl
  | succ i ih => rw [putLen, List.length_set, ih]
/-- The words as bytes, i of them laid. -/
def outH (st : List Int) : Nat → List Int
  | 0 => List.replicate 32 0
  | i + 1 => ((((outH st i).set (4 * i) (nth st i / 16777216 % 256)).set (4 * i + 1) (nth st i / 65536 % 256)).set (4 * i + 2) (nth st i / 256 % 256)).set (4 * i + 3) (nth st i % 256)
theorem outH_length (st : List Int) (i : Nat) : (outH st i).length = 32 := by
  induction i with
  | zero => rfl
  | succ i ih => simp [outH, ih]
/-- The digest, as the program reckons it. -/
def sumL (l : List Int) : List Int :=
  let j := l.length / 64
  let rl := l.drop (64 * j)
  let p0 := (rl ++ List.replicate (128 - rl.length) 0).set rl.length 128
  outH (if 56 ≤ rl.length then absorb (putLen p0 128 l.length 8) (absorb l H0 j) 2 else absorb (putLen p0 64 l.length 8) (absorb l H0 j) 1) 8
theorem sumL_length (l : List Int) : (sumL l).length = 32 := outH_length _ _
theorem Tryz.infoU32 : (Tryz.prog.info? 97).map (fun i => (i.zero, i.size, i.bytes)) = some (some (.int .u32 0), 1, 4) := by kernel_rfl

theorem pick8 (st : List Int) (i : Nat) (h : i < 8) :
    (#[.int .u32 (nth st 0), .int .u32 (nth st 1), .int .u32 (nth st 2), .int .u32 (nth st 3), .int .u32 (nth st 4), .int .u32 (nth st 5), .int .u32 (nth st 6), .int .u32 (nth st 7)] : Array Value)[i]? = some (.int .u32 (nth st i)) := by
  match i, h with
  | 0, _ => rfl
  | 1, _ => rfl
  | 2, _ => rfl
  | 3, _ => rfl
  | 4, _ => rfl
  | 5, _ => rfl
  | 6, _ => rfl
  | 7, _ => rfl

theorem index42 (st : List Int) (i : Nat) (h : i < 8) (W : World) :
    (Instr.index 99 (.agg #[.int .u32 (nth st 0), .int .u32 (nth st 1), .int .u32 (nth st 2), .int .u32 (nth st 3), .int .u32 (nth st 4), .int .u32 (nth st 5), .int .u32 (nth st 6), .int .u32 (nth st 7)]) (.int .i64 (i : Int))).run Tryz.prog W = .ok (.int .u32 (nth st i)) W := by
  obtain ⟨it, hit, -, hit2, -⟩ := info_parts Tryz.infoU32
  exact run_index_arr W _ _ 8 _ it Tryz.underlying99 hit hit2 Tryz.underlying97 rfl _ .i64 i h _ (pick8 st i h)

/-- A hundred and twenty-eight bytes, all nought. -/
def Z128 : List Value := List.replicate 128 (.int .u8 0)
theorem zero47 (w : World) : (zeroValue 104).run Tryz.prog w = .ok (.agg Z128.toArray) w := by kernel_rfl

set_option maxRecDepth 100000 in
set_option maxHeartbeats 1000000 in
theorem sum_any (v : Value) (l : List Int) (w : World) (hv : Sl .u8 w v l) (hn : l.length ≤ 1152921504606846975) :
    Calls Tryz.prog 37 #[v] w fun e w' => e = .returned (.agg ((sumL l).map (Value.int .u8)).toArray) ∧ Below w.heap.size w w' := by
  obtain ⟨sp, cap, rfl, hc1, hc2, hrow, -⟩ := hv
  go_enter Tryz.func37, Tryz.ntmps37
  go_wp2_with fail
  refine (numbers_any _).mono ?_
  rintro e w1 ⟨rfl, hb1⟩
  obtain ⟨hB0, hB1, hb, hsz⟩ := two_alloc hb1
  clear hb1
  go_wp2_with (refine wpList_store_row rfl 100 _ _ rfl w1.heap.size (K.map (Value.int .u32)).toArray rfl rfl 100 _ (heap_alloc_new _ _) (by kernel_rfl) (by kernel_rfl) (by kernel_rfl) ?_)
  have hKb := setRow_heap _ w1.heap.size _ (K.map (Value.int .u32)).toArray 100 (0, 0) (heap_alloc_new w1 (.cells ((List.replicate 64 (0 : Int)).map (Value.int .u32)).toArray 100))
  have hkeep : Below w1.heap.size w1 ((w1.alloc (.cells ((List.replicate 64 (0 : Int)).map (Value.int .u32)).toArray 100)).setRow w1.heap.size (K.map (Value.int .u32)).toArray) :=
    below_setRow ((Below.refl _ _).alloc (Nat.le_refl _) _) (Nat.le_refl _) _
  simp only [List.replicate, List.map_cons, List.map_nil] at hKb hkeep
  generalize World.setRow _ _ _ = w2 at hKb hkeep ⊢
  have hz2 : w1.heap.size < w2.heap.size := lt_of_block hKb
  have hKk : IBlk .u32 100 w2 w1.heap.size K := hKb
  have hHh : IBlk .u8 23 w2 w.heap.size (List.replicate 32 0) := (hkeep.block w.heap.size (by omega)).trans hB0
  have hSs : IBlk .u32 99 w2 (w.heap.size + 1) H0 := (hkeep.block (w.heap.size + 1) (by omega)).trans hB1
  have hbel : Below w.heap.size w w2 := hb.trans (hkeep.mono (by omega))
  clear hKb hkeep hB0 hB1
  obtain ⟨BK, hBK⟩ : ∃ BK, BK = w1.heap.size := ⟨_, rfl⟩
  rw [← hBK] at hKk hz2 hsz ⊢
  clear hBK hb
  have hrow0 : 0 < l.length → ∃ b o, sp = some ⟨b, o, none⟩ ∧ b < w.heap.size ∧ Row .u8 w b o (l.drop (64 * 0)) := hrow
  go_loopw [5] (fun r wr => ∃ j m sq rc, m + 64 * j = l.length ∧ m ≤ rc ∧ rc ≤ 9223372036854775807 ∧ r = .slice sq m rc ∧
      (0 < m → ∃ b o, sq = some ⟨b, o, none⟩ ∧ b < w.heap.size ∧ Row .u8 w b o (l.drop (64 * j))) ∧
      IBlk .u32 100 wr BK K ∧ IBlk .u8 23 wr w.heap.size (List.replicate 32 0) ∧ IBlk .u32 99 wr (w.heap.size + 1) (absorb l H0 j) ∧ Below w.heap.size w wr)
    (fun r _ => lenOf r)
  case atStart => exact ⟨0, l.length, sp, cap, by omega, hc1, hc2, rfl, hrow0, hKk, hHh, hSs, hbel⟩
  case round =>
    clear hKk hHh hSs hbel hz2 hrow0
    obtain ⟨j, m, sq, rc, hm, hrc1, hrc2, rfl, hsq, hKk, hHh, hSs, hbel⟩ := hrel
    have hls : (absorb l H0 j).length = 8 := absorb_length l H0 j
    have hbsz := hbel.size
    by_cases h64 : 64 ≤ m
    · obtain ⟨b, o, rfl, hbw, hrw⟩ := hsq (by omega)
      have hrwr : Row .u8 wr b o (l.drop (64 * j)) := hrw.below hbel hbw
      have hstep : ∀ w', IBlk .u32 99 w' (w.heap.size + 1) (compress K (l.drop (64 * j)) (absorb l H0 j)) → Keep (fun k => k < wr.heap.size ∧ k ≠ w.heap.size + 1) wr w' →
          IBlk .u32 100 w' BK K ∧ IBlk .u8 23 w' w.heap.size (List.replicate 32 0) ∧ IBlk .u32 99 w' (w.heap.size + 1) (absorb l H0 (j + 1)) ∧ Below w.heap.size w w' := by
        intro w' hS hKp
        exact ⟨hKk.keep hKp ⟨hKk.lt, by omega⟩, hHh.keep hKp ⟨hHh.lt, by omega⟩, hS, hbel.trans (hKp.mono (fun k hk => ⟨by omega, by omega⟩)).below⟩
      have hdrop : 64 ≤ (l.drop (64 * j)).length := by rw [List.length_drop]; omega
      by_cases hcap : rc = 64
      · have hm64 : m = 64 := by omega
        subst hm64
        subst hcap
        go_wp2_with fail
        refine (take_any (w.heap.size + 1) b o 64 64 BK (absorb l H0 j) (l.drop (64 * j)) K 99 100 _ (Nat.le_refl _) (by omega) (Nat.le_refl _) (by omega) hSs hrwr hKk hls hdrop rfl).mono ?_
        rintro e w' ⟨rfl, hS', hK'⟩
        have hfin := hstep w' hS' hK'
        clear hstep hS' hK' hSs hKk hHh hbel hrwr hrw hsq
        go_wp2
        go_roundw
        case rel => exact ⟨j + 1, 0, _, 0, by omega, by omega, by omega, rfl, fun h => absurd h (by omega), hfin⟩
        case measure => simp [lenOf]
      · go_wp2_with fail
        refine (take_any (w.heap.size + 1) b o m rc BK (absorb l H0 j) (l.drop (64 * j)) K 99 100 _ h64 (by omega) hrc1 (by omega) hSs hrwr hKk hls hdrop rfl).mono ?_
        rintro e w' ⟨rfl, hS', hK'⟩
        have hfin := hstep w' hS' hK'
        have hrw2 : Row .u8 w b (o + 64) (l.drop (64 * (j + 1))) := by
          have := row_drop hrw 64; rw [List.drop_drop] at this; rwa [Nat.mul_add]
        clear hstep hS' hK' hSs hKk hHh hbel hrwr hrw hsq
        go_wp2
        go_roundw
        case rel => exact ⟨j + 1, m - 64, _, rc - 64, by omega, by omega, by omega, rfl, fun _ => ⟨b, o + 64, rfl, hbw, hrw2⟩, hfin⟩
        case measure => simp [lenOf]; omega
    · have hml : m < 64 := by omega
      have hrl : (l.drop (64 * j)).length = m := by rw [List.length_drop]; omega
      obtain ⟨rl, hrl2⟩ : ∃ rl, rl = l.drop (64 * j) := ⟨_, rfl⟩
      rw [← hrl2] at hsq hrl
      have Hrl := Lib.hid hrl2
      clear hrl2
      have hZ : VBlk 104 (wr.alloc (.cells Z128.toArray 104)) wr.heap.size Z128 := VBlk.mk wr _ _
      have hZk : Below wr.heap.size wr (wr.alloc (.cells Z128.toArray 104)) := (Below.refl _ _).alloc (Nat.le_refl _) _
      obtain ⟨cs, hcs⟩ : ∃ cs, cs = rl.map (Value.int .u8) := ⟨_, rfl⟩
      have Hcs := Lib.hid hcs
      have hcl : cs.length = m := by rw [hcs]; simpa using hrl
      have hcone : ∀ v ∈ cs, v.oneCell' = true := by rw [hcs]; intro v hv; simp at hv; obtain ⟨_, _, rfl⟩ := hv; rfl
      have hsrc : 0 < cs.length → some (⟨wr.heap.size, 0, none⟩ : Addr) = some ⟨wr.heap.size, 0, none⟩ ∧ ∃ ad, sq = some ad ∧ ∀ j v, cs[j]? = some v → wr.cell? (ad.add j) = some v := by
        intro h0
        refine ⟨rfl, ?_⟩
        obtain ⟨b, o, hsq', hbw, hr⟩ := hsq (by omega)
        refine ⟨_, hsq', fun i v hv => ?_⟩
        rw [hcs] at hv
        have hi : i < rl.length := by
          rcases Nat.lt_or_ge i rl.length with h | h
          · exact h
          · simp [h] at hv
        have := (hr.below hbel hbw) i hi
        rw [addr_add, this]
        simpa [nth, hi] using hv
      clear hcs
      have hsrc2 : 0 < cs.length → ∃ ad, sq = some ad ∧ ∀ j v, cs[j]? = some v → (wr.alloc (.cells Z128.toArray 104)).cell? (ad.add j) = some v := by
        intro h0
        obtain ⟨_, ad, e, h⟩ := hsrc h0
        exact ⟨ad, e, fun j v hv => by have := h j v hv; rw [← this]; exact World.cell?_alloc_lt _ _ _ (block_lt_of_cell this)⟩
      clear hsrc
      have HCL := Lib.hid hcl
      clear hcl
      have hz47 : ∀ w : World, (zeroValue 104).run Tryz.prog w = .ok (.agg Z128.toArray) w := zero47
      go_wp2_with (refine wpList_copy_splice rfl (.tmp 24) (.tmp 25) 69 69 rfl 5 Tryz.underlying69 (by kernel_rfl) _ _ _ _ _ _ rfl rfl wr.heap.size 0 Z128 104 hZ cs ?hn ?hpos ?hfit hcone wr.heap.size wr hZk (Nat.le_refl _) ?hh)
      case hn => rw [HCL.out]; exact (Nat.min_eq_left (by omega)).symm
      case hpos => first | exact fun h => ⟨rfl, hsrc2 h⟩ | exact hsrc2
      case hfit => rw [HCL.out]; show 0 + m ≤ 128; omega
      case hh =>
        intro w3 HG3 hB3
        rw [HCL.out]
        have hL : IBlk .u8 104 w3 wr.heap.size (rl ++ List.replicate (128 - m) 0) := by
          have e : splice Z128 0 cs = (rl ++ List.replicate (128 - m) 0).map (Value.int .u8) := by
            rw [splice_zero _ _ (by rw [HCL.out]; show m ≤ 128; omega), HCL.out, Hcs.out]
            rw [List.map_append, List.map_replicate]; unfold Z128; rw [List.drop_replicate]
          have := HG3.out
          rw [e] at this
          exact this
        have hKk3 := hKk.below hB3 hKk.lt
        have hHh3 := hHh.below hB3 hHh.lt
        have hSs3 := hSs.below hB3 hSs.lt
        have hbel3 : Below w.heap.size w w3 := hbel.trans (hB3.mono hbsz)
        have hBLK : BK ≠ wr.heap.size := by have := hKk.lt; omega
        have hBLS : w.heap.size + 1 < wr.heap.size := hSs.lt
        obtain ⟨BL, hBL⟩ : ∃ BL, BL = wr.heap.size := ⟨_, rfl⟩
        rw [← hBL] at hL hBLK hBLS ⊢
        clear hBL HG3 hB3 hKk hHh hSs hbel hbsz hsrc2 hZ hZk hcone Hcs HCL hz47 hsq
        have hLl : (rl ++ List.replicate (128 - m) 0).length = 128 := by simp [hrl]; omega
        have c0 := hL.cell m (by omega)
        have f0 := hL.free m
        by_cases h56 : 56 ≤ m
        · have h56i : (56 : Int) ≤ (m : Int) := by omega
          go_wp2_with fail
          have hP0 := hL.set m 128
          have hk4 : Keep (fun k => k ≠ BL) w3 (w3.setCell ⟨BL, m, none⟩ (.int .u8 128)) := (Keep.refl _ _).setCell (fun h => h rfl) _
          generalize World.setCell _ _ _ = w4 at hP0 hk4 ⊢
          have hKk4 := hKk3.keep hk4 hBLK
          have hHh4 := hHh3.keep hk4 (by omega)
          have hSs4 := hSs3.keep hk4 (by omega)
          have hbel4 : Below w.heap.size w w4 := hbel3.trans (hk4.mono (fun k (hk : k < w.heap.size) => by omega)).below
          clear hKk3 hHh3 hSs3 hbel3 hk4 hL hLl c0 f0
          obtain ⟨p0, hp0⟩ : ∃ p0, p0 = (rl ++ List.replicate (128 - m) 0).set m 128 := ⟨_, rfl⟩
          rw [← hp0] at hP0
          have hpl : p0.length = 128 := by rw [hp0]; simp [hrl]; omega
          have Hp0 := Lib.hid hp0
          clear hp0
          go_loopw [35] (fun c wr => ∃ i : Nat, i ≤ 8 ∧ c = .int .i64 i ∧ IBlk .u8 104 wr BL (putLen p0 128 l.length i) ∧ Keep (fun k => k ≠ BL) w4 wr) (fun c _ => 8 - (intOf c).toNat)
          case atStart => exact ⟨0, by omega, rfl, hP0, Keep.refl _ _⟩
          case round =>
            clear hP0
            obtain ⟨i, hi, rfl, hPr, hKr⟩ := hrel
            have hql : (putLen p0 128 l.length i).length = 128 := (putLen_length p0 128 l.length i).trans hpl
            by_cases h8 : i < 8
            · have c0 := hPr.cell (127 - i) (by omega)
              have f0 := hPr.free (127 - i)
              go_wp2_with fail
              go_roundw
              case rel => exact ⟨i + 1, by omega, by go_num, hPr.set _ _, hKr.setCell (fun h => h rfl) _⟩
              case measure => simp [intOf]; omega
            · have e8 : i = 8 := by omega
              rw [e8] at hPr hql
              clear e8
              have hKk5 := hKk4.keep hKr hBLK
              have hHh5 := hHh4.keep hKr (by omega)
              have hSs5 := hSs4.keep hKr (by omega)
              have hbel5 : Below w.heap.size w wr := hbel4.trans (hKr.mono (fun k (hk : k < w.heap.size) => by omega)).below
              obtain ⟨PL, hPL⟩ : ∃ PL, PL = putLen p0 128 l.length 8 := ⟨_, rfl⟩
              rw [← hPL] at hPr hql
              have HPL := Lib.hid hPL
              clear hKk4 hHh4 hSs4 hbel4 hKr hPL
              obtain ⟨S0, hS0⟩ : ∃ S0, S0 = absorb l H0 j := ⟨_, rfl⟩
              rw [← hS0] at hSs5 hls
              have HS0 := Lib.hid hS0
              clear hS0
              obtain ⟨w5, hw5⟩ : ∃ w5, w5 = wr := ⟨_, rfl⟩
              rw [← hw5] at hKk5 hHh5 hSs5 hbel5 hPr ⊢
              clear hw5
              go_wp2_with fail
              go_loopw [11] (fun c wr => ∃ i : Nat, i ≤ 2 ∧ c = .int .i64 (64 * (i : Int)) ∧ IBlk .u32 99 wr (w.heap.size + 1) (absorb PL S0 i) ∧ Keep (fun k => k < w5.heap.size ∧ k ≠ w.heap.size + 1) w5 wr) (fun c _ => 128 - (intOf c).toNat)
              case atStart => exact ⟨0, by omega, rfl, hSs5, Keep.refl _ _⟩
              case round =>
                clear hSs5
                obtain ⟨q, hq, rfl, hSr, hKr⟩ := hrel
                have hsl : (absorb PL S0 q).length = 8 := (absorb_length PL S0 q).trans hls
                have hPq := hPr.keep hKr ⟨hPr.lt, by omega⟩
                have hKq := hKk5.keep hKr ⟨hKk5.lt, by omega⟩
                by_cases hqn : q < 2
                · have hrow := row_drop hPq.row (64 * q)
                  rw [Nat.zero_add] at hrow
                  have hdl : 64 ≤ (PL.drop (64 * q)).length := by rw [List.length_drop]; omega
                  have b0 : 0 ≤ 64 * (q : Int) := by omega
                  have b1 : 64 * (q : Int) ≤ 128 := by omega
                  go_wp2_with fail
                  refine (take_any (w.heap.size + 1) BL (64 * q) (128 - 64 * q) (128 - 64 * q) BK (absorb PL S0 q) (PL.drop (64 * q)) K 99 100 _ (by omega) (by omega) (by omega) hPq.lt hSr hrow hKq hsl hdl rfl).mono ?_
                  rintro e w' ⟨rfl, hS', hK'⟩
                  have hsz' := hKr.size
                  have hK2 : Keep (fun k => k < w5.heap.size ∧ k ≠ w.heap.size + 1) w5 w' := hKr.trans (hK'.mono (fun k hk => ⟨Nat.lt_of_lt_of_le hk.1 hsz', hk.2⟩))
                  have hS2 : IBlk .u32 99 w' (w.heap.size + 1) (absorb PL S0 (q + 1)) := hS'
                  clear hS' hK' hKr hSr hPq hKq hrow
                  go_wp2_with fail
                  go_roundw
                  case rel => exact ⟨q + 1, by omega, by go_num, hS2, hK2⟩
                  case measure => simp [intOf]; omega
                · have eq2 : q = 2 := by omega
                  rw [eq2] at hSr hsl
                  clear eq2
                  have hHq := hHh5.keep hKr ⟨hHh5.lt, by omega⟩
                  have hbelq : Below w.heap.size w wr := hbel5.trans (hKr.mono (fun k (hk : k < w.heap.size) => ⟨Nat.lt_of_lt_of_le hk hbel5.size, by omega⟩)).below
                  obtain ⟨st, hst⟩ : ∃ st, st = absorb PL S0 2 := ⟨_, rfl⟩
                  rw [← hst] at hSr hsl
                  have hres : sumL l = outH st 8 := by
                    have ej : j = l.length / 64 := by omega
                    have erl : l.drop (64 * j) = rl := Hrl.out.symm
                    unfold sumL
                    simp only [← ej, erl, hrl]
                    rw [hst, HPL.out, Hp0.out, HS0.out]
                    first | (rw [if_pos h56]) | (rw [if_neg h56])
                  have Hres := Hid2.mk hres
                  clear hres hst hPq hKq hKr hPr hKk5 hHh5 hbel5
                  obtain ⟨w6, hw6⟩ : ∃ w6, w6 = wr := ⟨_, rfl⟩
                  rw [← hw6] at hSr hHq hbelq ⊢
                  clear hw6
                  have hgS : w6.heap[w.heap.size + 1]? = some (.cells (st.map (Value.int .u32)).toArray 99 (0, 0)) := hSr
                  have d0 := hSr.cell 0 (by omega)
                  have d1 := hSr.cell 1 (by omega)
                  have d2 := hSr.cell 2 (by omega)
                  have d3 := hSr.cell 3 (by omega)
                  have d4 := hSr.cell 4 (by omega)
                  have d5 := hSr.cell 5 (by omega)
                  have d6 := hSr.cell 6 (by omega)
                  have d7 := hSr.cell 7 (by omega)
                  clear hgS
                  go_wp2_with fail
                  clear d0 d1 d2 d3 d4 d5 d6 d7
                  go_loopw [58] (fun c wr => ∃ i : Nat, i ≤ 8 ∧ c = .int .i64 i ∧ IBlk .u8 23 wr w.heap.size (outH st i) ∧ Keep (fun k => k ≠ w.heap.size) w6 wr) (fun c _ => 8 - (intOf c).toNat)
                  case atStart => exact ⟨0, by omega, rfl, hHq, Keep.refl _ _⟩
                  case round =>
                    clear hHq hSr
                    obtain ⟨i, hi, rfl, hOr, hKr⟩ := hrel
                    have hol := outH_length st i
                    by_cases hi8 : i < 8
                    · have c0 := hOr.cell (4 * i) (by omega)
                      have c1 := hOr.cell (4 * i + 1) (by omega)
                      have c2 := hOr.cell (4 * i + 2) (by omega)
                      have c3 := hOr.cell (4 * i + 3) (by omega)
                      have f0 := hOr.free (4 * i)
                      have f1 := hOr.free (4 * i + 1)
                      have f2 := hOr.free (4 * i + 2)
                      have f3 := hOr.free (4 * i + 3)
                      have hix := index42 st i hi8
                      go_wp2_with fail
                      go_roundw
                      case rel => exact ⟨i + 1, by omega, by go_num, (((hOr.set _ _).set _ _).set _ _).set _ _, (((hKr.setCell (fun h => h rfl) _).setCell (fun h => h rfl) _).setCell (fun h => h rfl) _).setCell (fun h => h rfl) _⟩
                      case measure => simp [intOf]; omega
                    · have e9 : i = 8 := by omega
                      rw [e9] at hOr
                      clear e9
                      obtain ⟨hh, hhe⟩ : ∃ hh, hh = sumL l := ⟨_, rfl⟩
                      have hsl32 : hh.length = 32 := by rw [hhe]; exact sumL_length l
                      rw [← Hres.out, ← hhe] at hOr
                      have Hhe := Hid2.mk hhe
                      clear hhe
                      have hg0 : wr.heap[w.heap.size]? = some (.cells (hh.map (Value.int .u8)).toArray 23 (0, 0)) := hOr
                      have hbelf : Below w.heap.size w wr := hbelq.trans (hKr.mono (fun k (hk : k < w.heap.size) => by omega)).below
                      clear hOr hol hKr Hres hbelq
                      have hi25 : (Tryz.prog.info? 23).map (·.size) = some (hh.map (Value.int .u8)).toArray.size := by
                        rw [List.size_toArray, List.length_map, hsl32]; kernel_rfl
                      have hone : (hh.map (Value.int .u8)).toArray.all (·.oneCell') = true := by simp [Value.oneCell']
                      have Hi25 := Hid2.mk hi25
                      have Hone := Hid2.mk hone
                      have Hg0 := Hid2.mk hg0
                      clear hi25 hone hg0 hsl32
                      go_wp2_with (first | (refine wpList_load_row rfl 23 (.tmp 2) rfl w.heap.size rfl 23 (hh.map (Value.int .u8)).toArray (0, 0) _ Hg0.out Tryz.underlying23 rfl Hi25.out ?_) | (refine wpList_store_row rfl 23 (.tmp 2) (.tmp 89) rfl w.heap.size (hh.map (Value.int .u8)).toArray rfl rfl 23 (hh.map (Value.int .u8)).toArray Hg0.out Hi25.out rfl Hone.out ?_))
                      refine bodyPost_ret (results_cell_row rfl _ _ w.heap.size 23 (hh.map (Value.int .u8)).toArray (0, 0) _ rfl (setRow_heap _ _ _ _ _ _ Hg0.out) Tryz.underlying23 rfl Hi25.out) rfl ⟨by rw [Hhe.out], ?_⟩
                      exact below_setRow hbelf (Nat.le_refl _) _
        · have h56i : decide ((56 : Int) ≤ (m : Int)) = false := decide_eq_false (by omega)
          go_wp2_with fail
          have hP0 := hL.set m 128
          have hk4 : Keep (fun k => k ≠ BL) w3 (w3.setCell ⟨BL, m, none⟩ (.int .u8 128)) := (Keep.refl _ _).setCell (fun h => h rfl) _
          generalize World.setCell _ _ _ = w4 at hP0 hk4 ⊢
          have hKk4 := hKk3.keep hk4 hBLK
          have hHh4 := hHh3.keep hk4 (by omega)
          have hSs4 := hSs3.keep hk4 (by omega)
          have hbel4 : Below w.heap.size w w4 := hbel3.trans (hk4.mono (fun k (hk : k < w.heap.size) => by omega)).below
          clear hKk3 hHh3 hSs3 hbel3 hk4 hL hLl c0 f0
          obtain ⟨p0, hp0⟩ : ∃ p0, p0 = (rl ++ List.replicate (128 - m) 0).set m 128 := ⟨_, rfl⟩
          rw [← hp0] at hP0
          have hpl : p0.length = 128 := by rw [hp0]; simp [hrl]; omega
          have Hp0 := Lib.hid hp0
          clear hp0
          go_loopw [35] (fun c wr => ∃ i : Nat, i ≤ 8 ∧ c = .int .i64 i ∧ IBlk .u8 104 wr BL (putLen p0 64 l.length i) ∧ Keep (fun k => k ≠ BL) w4 wr) (fun c _ => 8 - (intOf c).toNat)
          case atStart => exact ⟨0, by omega, rfl, hP0, Keep.refl _ _⟩
          case round =>
            clear hP0
            obtain ⟨i, hi, rfl, hPr, hKr⟩ := hrel
            have hql : (putLen p0 64 l.length i).length = 128 := (putLen_length p0 64 l.length i).trans hpl
            by_cases h8 : i < 8
            · have c0 := hPr.cell (63 - i) (by omega)
              have f0 := hPr.free (63 - i)
              go_wp2_with fail
              go_roundw
              case rel => exact ⟨i + 1, by omega, by go_num, hPr.set _ _, hKr.setCell (fun h => h rfl) _⟩
              case measure => simp [intOf]; omega
            · have e8 : i = 8 := by omega
              rw [e8] at hPr hql
              clear e8
              have hKk5 := hKk4.keep hKr hBLK
              have hHh5 := hHh4.keep hKr (by omega)
              have hSs5 := hSs4.keep hKr (by omega)
              have hbel5 : Below w.heap.size w wr := hbel4.trans (hKr.mono (fun k (hk : k < w.heap.size) => by omega)).below
              obtain ⟨PL, hPL⟩ : ∃ PL, PL = putLen p0 64 l.length 8 := ⟨_, rfl⟩
              rw [← hPL] at hPr hql
              have HPL := Lib.hid hPL
              clear hKk4 hHh4 hSs4 hbel4 hKr hPL
              obtain ⟨S0, hS0⟩ : ∃ S0, S0 = absorb l H0 j := ⟨_, rfl⟩
              rw [← hS0] at hSs5 hls
              have HS0 := Lib.hid hS0
              clear hS0
              obtain ⟨w5, hw5⟩ : ∃ w5, w5 = wr := ⟨_, rfl⟩
              rw [← hw5] at hKk5 hHh5 hSs5 hbel5 hPr ⊢
              clear hw5
              go_wp2_with fail
              go_loopw [11] (fun c wr => ∃ i : Nat, i ≤ 1 ∧ c = .int .i64 (64 * (i : Int)) ∧ IBlk .u32 99 wr (w.heap.size + 1) (absorb PL S0 i) ∧ Keep (fun k => k < w5.heap.size ∧ k ≠ w.heap.size + 1) w5 wr) (fun c _ => 64 - (intOf c).toNat)
              case atStart => exact ⟨0, by omega, rfl, hSs5, Keep.refl _ _⟩
              case round =>
                clear hSs5
                obtain ⟨q, hq, rfl, hSr, hKr⟩ := hrel
                have hsl : (absorb PL S0 q).length = 8 := (absorb_length PL S0 q).trans hls
                have hPq := hPr.keep hKr ⟨hPr.lt, by omega⟩
                have hKq := hKk5.keep hKr ⟨hKk5.lt, by omega⟩
                by_cases hqn : q < 1
                · have hrow := row_drop hPq.row (64 * q)
                  rw [Nat.zero_add] at hrow
                  have hdl : 64 ≤ (PL.drop (64 * q)).length := by rw [List.length_drop]; omega
                  have b0 : 0 ≤ 64 * (q : Int) := by omega
                  have b1 : 64 * (q : Int) ≤ 128 := by omega
                  go_wp2_with fail
                  refine (take_any (w.heap.size + 1) BL (64 * q) (128 - 64 * q) (128 - 64 * q) BK (absorb PL S0 q) (PL.drop (64 * q)) K 99 100 _ (by omega) (by omega) (by omega) hPq.lt hSr hrow hKq hsl hdl rfl).mono ?_
                  rintro e w' ⟨rfl, hS', hK'⟩
                  have hsz' := hKr.size
                  have hK2 : Keep (fun k => k < w5.heap.size ∧ k ≠ w.heap.size + 1) w5 w' := hKr.trans (hK'.mono (fun k hk => ⟨Nat.lt_of_lt_of_le hk.1 hsz', hk.2⟩))
                  have hS2 : IBlk .u32 99 w' (w.heap.size + 1) (absorb PL S0 (q + 1)) := hS'
                  clear hS' hK' hKr hSr hPq hKq hrow
                  go_wp2_with fail
                  go_roundw
                  case rel => exact ⟨q + 1, by omega, by go_num, hS2, hK2⟩
                  case measure => simp [intOf]; omega
                · have eq2 : q = 1 := by omega
                  rw [eq2] at hSr hsl
                  clear eq2
                  have hHq := hHh5.keep hKr ⟨hHh5.lt, by omega⟩
                  have hbelq : Below w.heap.size w wr := hbel5.trans (hKr.mono (fun k (hk : k < w.heap.size) => ⟨Nat.lt_of_lt_of_le hk hbel5.size, by omega⟩)).below
                  obtain ⟨st, hst⟩ : ∃ st, st = absorb PL S0 1 := ⟨_, rfl⟩
                  rw [← hst] at hSr hsl
                  have hres : sumL l = outH st 8 := by
                    have ej : j = l.length / 64 := by omega
                    have erl : l.drop (64 * j) = rl := Hrl.out.symm
                    unfold sumL
                    simp only [← ej, erl, hrl]
                    rw [hst, HPL.out, Hp0.out, HS0.out]
                    first | (rw [if_pos h56]) | (rw [if_neg h56])
                  have Hres := Hid2.mk hres
                  clear hres hst hPq hKq hKr hPr hKk5 hHh5 hbel5
                  obtain ⟨w6, hw6⟩ : ∃ w6, w6 = wr := ⟨_, rfl⟩
                  rw [← hw6] at hSr hHq hbelq ⊢
                  clear hw6
                  have hgS : w6.heap[w.heap.size + 1]? = some (.cells (st.map (Value.int .u32)).toArray 99 (0, 0)) := hSr
                  have d0 := hSr.cell 0 (by omega)
                  have d1 := hSr.cell 1 (by omega)
                  have d2 := hSr.cell 2 (by omega)
                  have d3 := hSr.cell 3 (by omega)
                  have d4 := hSr.cell 4 (by omega)
                  have d5 := hSr.cell 5 (by omega)
                  have d6 := hSr.cell 6 (by omega)
                  have d7 := hSr.cell 7 (by omega)
                  clear hgS
                  go_wp2_with fail
                  clear d0 d1 d2 d3 d4 d5 d6 d7
                  go_loopw [58] (fun c wr => ∃ i : Nat, i ≤ 8 ∧ c = .int .i64 i ∧ IBlk .u8 23 wr w.heap.size (outH st i) ∧ Keep (fun k => k ≠ w.heap.size) w6 wr) (fun c _ => 8 - (intOf c).toNat)
                  case atStart => exact ⟨0, by omega, rfl, hHq, Keep.refl _ _⟩
                  case round =>
                    clear hHq hSr
                    obtain ⟨i, hi, rfl, hOr, hKr⟩ := hrel
                    have hol := outH_length st i
                    by_cases hi8 : i < 8
                    · have c0 := hOr.cell (4 * i) (by omega)
                      have c1 := hOr.cell (4 * i + 1) (by omega)
                      have c2 := hOr.cell (4 * i + 2) (by omega)
                      have c3 := hOr.cell (4 * i + 3) (by omega)
                      have f0 := hOr.free (4 * i)
                      have f1 := hOr.free (4 * i + 1)
                      have f2 := hOr.free (4 * i + 2)
                      have f3 := hOr.free (4 * i + 3)
                      have hix := index42 st i hi8
                      go_wp2_with fail
                      go_roundw
                      case rel => exact ⟨i + 1, by omega, by go_num, (((hOr.set _ _).set _ _).set _ _).set _ _, (((hKr.setCell (fun h => h rfl) _).setCell (fun h => h rfl) _).setCell (fun h => h rfl) _).setCell (fun h => h rfl) _⟩
                      case measure => simp [intOf]; omega
                    · have e9 : i = 8 := by omega
                      rw [e9] at hOr
                      clear e9
                      obtain ⟨hh, hhe⟩ : ∃ hh, hh = sumL l := ⟨_, rfl⟩
                      have hsl32 : hh.length = 32 := by rw [hhe]; exact sumL_length l
                      rw [← Hres.out, ← hhe] at hOr
                      have Hhe := Hid2.mk hhe
                      clear hhe
                      have hg0 : wr.heap[w.heap.size]? = some (.cells (hh.map (Value.int .u8)).toArray 23 (0, 0)) := hOr
                      have hbelf : Below w.heap.size w wr := hbelq.trans (hKr.mono (fun k (hk : k < w.heap.size) => by omega)).below
                      clear hOr hol hKr Hres hbelq
                      have hi25 : (Tryz.prog.info? 23).map (·.size) = some (hh.map (Value.int .u8)).toArray.size := by
                        rw [List.size_toArray, List.length_map, hsl32]; kernel_rfl
                      have hone : (hh.map (Value.int .u8)).toArray.all (·.oneCell') = true := by simp [Value.oneCell']
                      have Hi25 := Hid2.mk hi25
                      have Hone := Hid2.mk hone
                      have Hg0 := Hid2.mk hg0
                      clear hi25 hone hg0 hsl32
                      go_wp2_with (first | (refine wpList_load_row rfl 23 (.tmp 2) rfl w.heap.size rfl 23 (hh.map (Value.int .u8)).toArray (0, 0) _ Hg0.out Tryz.underlying23 rfl Hi25.out ?_) | (refine wpList_store_row rfl 23 (.tmp 2) (.tmp 89) rfl w.heap.size (hh.map (Value.int .u8)).toArray rfl rfl 23 (hh.map (Value.int .u8)).toArray Hg0.out Hi25.out rfl Hone.out ?_))
                      refine bodyPost_ret (results_cell_row rfl _ _ w.heap.size 23 (hh.map (Value.int .u8)).toArray (0, 0) _ rfl (setRow_heap _ _ _ _ _ _ Hg0.out) Tryz.underlying23 rfl Hi25.out) rfl ⟨by rw [Hhe.out], ?_⟩
                      exact below_setRow hbelf (Nat.le_refl _) _

end Dig
end Go.Proofs.YtlamdhekjlnccaaGreatDoor

/- digest's reference: its small functions, and what a block is taken in by. -/
namespace Go.Proofs.YtlamdhekjlnccaaGreatDoor
open Go.RowKit
namespace Dig

set_option maxHeartbeats 400000 in
theorem r_any (x n : Int) (w : World) (hn : 0 ≤ n) (hn2 : n ≤ 32) :
    Calls Tryz.prog 90 #[.int .u32 x, .int .u64 n] w fun e w' => e = .returned (.int .u32 (rotr x n)) ∧ w = w' := by
  go_enter Tryz.func90, Tryz.ntmps90
  go_wp2
  go_ret
  exact ⟨rfl, rfl⟩
theorem r_same (x n : Int) (w : World) (hn : 0 ≤ n) (hn2 : n ≤ 32) :
    Calls Tryz.prog 90 #[.int .u32 x, .int .u64 n] w fun e w' => e = .returned (.int .u32 (rotr x n)) ∧ w' = w :=
  (r_any x n w hn hn2).mono fun _ _ ⟨a, b⟩ => ⟨a, b.symm⟩

set_option maxRecDepth 100000 in
set_option maxHeartbeats 1000000 in
theorem k_any (w : World) :
    Calls Tryz.prog 66 #[] w fun e w' => e = .returned (.agg (K.map (Value.int .u32)).toArray) ∧ Below w.heap.size w w' := by
  go_enter Tryz.func66, Tryz.ntmps66
  go_wp2_with (first | (refine wpList_build_to rfl 100 _ rfl (K.map (Value.int .u32)).toArray (by kernel_rfl) ?_) | (refine wpList_store_row rfl 100 _ _ rfl w.heap.size (K.map (Value.int .u32)).toArray rfl rfl 100 _ (heap_alloc_new _ _) (by kernel_rfl) (by kernel_rfl) (by kernel_rfl) ?_))
  refine bodyPost_ret (results_cell_row rfl _ _ w.heap.size 100 (K.map (Value.int .u32)).toArray (0, 0) _ rfl (setRow_heap _ _ _ _ _ _ (heap_alloc_new _ _)) Tryz.underlying100 rfl (by kernel_rfl)) rfl ⟨rfl, ?_⟩
  exact below_setRow ((Below.refl _ _).alloc (Nat.le_refl _) _) (Nat.le_refl _) _

/-- Sixty-four words, all nought. -/
def Z64 : List Int := List.replicate 64 0
theorem zero43 (w : World) : (zeroValue 100).run Tryz.prog w = .ok (.agg (Z64.map (Value.int .u32)).toArray) w := by kernel_rfl
def Z8 : List Int := List.replicate 8 0
theorem zero41 (w : World) : (zeroValue 98).run Tryz.prog w = .ok (.agg (Z8.map (Value.int .u32)).toArray) w := by kernel_rfl

theorem mk8' (T : TypeId) (w : World) (l : List Int) (h : l.length = 8) :
    IBlk .u32 T (w.alloc (.cells #[.int .u32 (nth l 0), .int .u32 (nth l 1), .int .u32 (nth l 2), .int .u32 (nth l 3), .int .u32 (nth l 4), .int .u32 (nth l 5), .int .u32 (nth l 6), .int .u32 (nth l 7)] T)) w.heap.size l := by
  have := VBlk.mk w (l.map (Value.int .u32)) T
  match l, h with
  | [a, b, c, d, e, f, g, i], _ => exact this

set_option maxRecDepth 100000 in
set_option maxHeartbeats 2000000 in
theorem block_any (bb ob n cap bk : Nat) (st by_ kk : List Int) (T' : TypeId) (w : World) (hn : 64 ≤ n) (hn2 : n ≤ 9223372036854775807)
    (hbb : bb < w.heap.size) (hby : Row .u8 w bb ob by_) (hkk : IBlk .u32 T' w bk kk) (hl1 : st.length = 8) (hl2 : 64 ≤ by_.length) (hl3 : kk.length = 64) :
    Calls Tryz.prog 67 #[.agg (st.map (Value.int .u32)).toArray, .slice (some ⟨bb, ob, none⟩) n cap, .pointer (some ⟨bk, 0, none⟩)] w
      fun e w' => e = .returned (.agg ((compress kk by_ st).map (Value.int .u32)).toArray) ∧ Below w.heap.size w w' := by
  have hbk := hkk.lt
  have hz43 := zero43
  have hz41 := zero41
  go_enter Tryz.func67, Tryz.ntmps67
  go_wp2
  clear hz43 hz41
  obtain ⟨hA, hB, hC, hbel, hsz⟩ := three_alloc w (.cells (st.map (Value.int .u32)).toArray 98) (.cells (Z8.map (Value.int .u32)).toArray 98) (.cells (Z64.map (Value.int .u32)).toArray 100)
  generalize World.alloc _ _ = w0 at hA hB hC hbel hsz ⊢
  have hS : IBlk .u32 98 w0 w.heap.size st := hA
  have hR : IBlk .u32 98 w0 (w.heap.size + 1) Z8 := hB
  have hW : IBlk .u32 100 w0 (w.heap.size + 1 + 1) (load by_ 0) := hC
  clear hA hB hC
  go_loopw [8] (fun c wr => ∃ i : Nat, i ≤ 16 ∧ c = .int .i64 i ∧ IBlk .u32 100 wr (w.heap.size + 1 + 1) (load by_ i) ∧ Keep (fun k => k ≠ w.heap.size + 1 + 1) w0 wr)
    (fun c _ => 16 - (intOf c).toNat)
  case atStart => exact ⟨0, by omega, rfl, hW, Keep.refl _ _⟩
  case round =>
    clear hW
    obtain ⟨i, hi, rfl, hWr, hKr⟩ := hrel
    have hlw := load_length by_ i
    by_cases h16 : i < 16
    · have hrow : Row .u8 wr bb ob by_ := (hby.below hbel hbb).keep hKr (by omega)
      have c0 := hWr.cell i (by omega)
      have f0 := hWr.free i
      have a0 := hrow.at (4 * i) (by omega)
      have a1 := hrow.at' (4 * i + 1) (ob + (4 * i + 1)) (by omega) (by omega)
      have a2 := hrow.at' (4 * i + 2) (ob + (4 * i + 2)) (by omega) (by omega)
      have a3 := hrow.at' (4 * i + 3) (ob + (4 * i + 3)) (by omega) (by omega)
      have b0 : 4 * (i : Int) < n := by omega
      have b1 : 4 * (i : Int) + 1 < n := by omega
      have b2 : 4 * (i : Int) + 2 < n := by omega
      have b3 : 4 * (i : Int) + 3 < n := by omega
      go_wp2_with fail
      go_region
      go_wp2
      go_roundw
      case rel => exact ⟨i + 1, by omega, by go_num, hWr.set _ _, (hKr.setCell (fun h => h rfl) _).drewN 1⟩
      case measure => simp [intOf]; omega
    · have e16 : i = 16 := by omega
      rw [e16] at hWr
      clear e16 hlw
      have hi16 : decide ((i : Int) < 16) = false := decide_eq_false (by omega)
      go_wp2
      go_loopw [9] (fun c wr => ∃ i : Nat, i ≤ 48 ∧ c = .int .i64 (16 + (i : Int)) ∧ IBlk .u32 100 wr (w.heap.size + 1 + 1) (sched (load by_ 16) i) ∧ Keep (fun k => k ≠ w.heap.size + 1 + 1) w0 wr)
        (fun c _ => 64 - (intOf c).toNat)
      case atStart => exact ⟨0, by omega, rfl, hWr, hKr⟩
      case round =>
        clear hWr hKr
        obtain ⟨i, hi2, rfl, hWr, hKr⟩ := hrel
        have hlw : (sched (load by_ 16) i).length = 64 := (sched_length (load by_ 16) i).trans (load_length by_ 16)
        by_cases h48 : i < 48
        · have c0 := hWr.cell (16 + i) (by omega)
          have c1 := hWr.cell' (16 + i - 15) (i + 1) (by omega) (by omega)
          have c2 := hWr.cell' (16 + i - 2) (i + 14) (by omega) (by omega)
          have c3 := hWr.cell i (by omega)
          have c4 := hWr.cell' (16 + i - 7) (i + 9) (by omega) (by omega)
          have f0 := hWr.free (16 + i)
          go_wp2_with fail
          refine wp_region_still_tail 29 (by kernel_rfl) (by kernel_rfl) ?_
          simp only [List.take_succ_cons, List.take_zero, List.drop_succ_cons, List.drop_zero]
          rw [show ({ heap := wr.heap, tape := wr.tape, drawn := wr.drawn + 1, os := wr.os, output := wr.output } : World) = wr.drew from rfl]
          have g0 : (i : Int) < 64 := by omega
          have g9 : (i : Int) + 9 < 64 := by omega
          have g1 : (16 + (i : Int)) < 64 := by omega
          have g16 : 0 ≤ (16 + (i : Int)) := by omega
          have gt : (16 + (i : Int)).toNat = 16 + i := by omega
          have e1 : IntKind.i64.wrap (16 + (i : Int) - 16) = (i : Int) := (IntWalk.i64_in _ (by omega)).trans (by omega)
          have e2 : IntKind.i64.wrap (16 + (i : Int) - 7) = (i : Int) + 9 := (IntWalk.i64_in _ (by omega)).trans (by omega)
          have p9 : 0 ≤ (i : Int) + 9 := by omega
          have t9 : ((i : Int) + 9).toNat = i + 9 := by omega
          have c9 := hWr.cell (i + 9) (by omega)
          repeat (first | still_step | still_call (r_same _ _ _ (by decide) (by decide)))
          clear e1 e2 gt
          refine wpStill_nil ?_
          go_wp2
          go_roundw
          case rel => exact ⟨i + 1, by omega, by go_num, hWr.set _ _, (hKr.setCell (fun h => h rfl) _).drewN 1⟩
          case measure => simp [intOf]; omega
        · have e48 : i = 48 := by omega
          rw [e48] at hWr hlw
          clear e48
          have hd48 : decide (16 + (i : Int) < 64) = false := decide_eq_false (by omega)
          have hSr := hS.keep hKr (by omega)
          have hRr := hR.keep hKr (by omega)
          have hkr : IBlk .u32 T' wr bk kk := (hkk.below hbel hbk).keep hKr (by omega)
          have hbelr : Below w.heap.size w wr := hbel.trans (hKr.mono (fun k (hk : k < w.heap.size) => by omega)).below
          have hBz : w.heap.size + 1 + 1 < wr.heap.size := hWr.lt
          have d0 := hSr.cell 0 (by omega)
          have d1 := hSr.cell 1 (by omega)
          have d2 := hSr.cell 2 (by omega)
          have d3 := hSr.cell 3 (by omega)
          have d4 := hSr.cell 4 (by omega)
          have d5 := hSr.cell 5 (by omega)
          have d6 := hSr.cell 6 (by omega)
          have d7 := hSr.cell 7 (by omega)
          go_wp2
          have hV := mk8' 98 wr st hl1
          have hK2 : Keep (fun k => k < wr.heap.size) wr _ := Keep.of_below ((Below.refl wr.heap.size wr).alloc (Nat.le_refl _) (.cells #[.int .u32 (nth st 0), .int .u32 (nth st 1), .int .u32 (nth st 2), .int .u32 (nth st 3), .int .u32 (nth st 4), .int .u32 (nth st 5), .int .u32 (nth st 6), .int .u32 (nth st 7)] 98))
          generalize World.alloc _ _ = w2 at hV hK2 ⊢
          clear d0 d1 d2 d3 d4 d5 d6 d7 hS hR hbel
          have hS2 := hSr.keep hK2 hSr.lt
          have hR2 := hRr.keep hK2 hRr.lt
          have hk2 := hkr.keep hK2 hkr.lt
          have hW2 := hWr.keep hK2 hWr.lt
          have hbel2 : Below w.heap.size w w2 := hbelr.trans (hK2.mono (fun k (hk : k < w.heap.size) => by omega)).below
          clear hSr hRr hkr hWr hbelr hK2 hKr
          generalize wr.heap.size = Bv at hV hBz ⊢
          obtain ⟨W, hWW⟩ : ∃ W, W = sched (load by_ 16) 48 := ⟨_, rfl⟩
          rw [← hWW] at hW2 hlw
          have HW := Hid2.mk hWW
          clear hWW
          go_loopw [13] (fun c wr => ∃ i : Nat, i ≤ 64 ∧ c = .int .i64 i ∧ IBlk .u32 98 wr Bv (rounds kk W st i) ∧ Keep (fun k => k ≠ Bv) w2 wr)
            (fun c _ => 64 - (intOf c).toNat)
          case atStart => exact ⟨0, by omega, rfl, hV, Keep.refl _ _⟩
          case round =>
            clear hV
            obtain ⟨r, hr, rfl, hVr, hKr⟩ := hrel
            have hlv := rounds_length kk W st r hl1
            obtain ⟨v, hvv⟩ : ∃ v, v = rounds kk W st r := ⟨_, rfl⟩
            rw [← hvv] at hVr hlv
            have Hv := Hid2.mk hvv
            clear hvv
            by_cases hr64 : r < 64
            · have hkkr := hk2.keep hKr (by omega)
              have hWr := hW2.keep hKr (by omega)
              have d0 := hVr.cell 0 (by omega)
              have d1 := hVr.cell 1 (by omega)
              have d2 := hVr.cell 2 (by omega)
              have d3 := hVr.cell 3 (by omega)
              have d4 := hVr.cell 4 (by omega)
              have d5 := hVr.cell 5 (by omega)
              have d6 := hVr.cell 6 (by omega)
              have d7 := hVr.cell 7 (by omega)
              have f0 := hVr.free
              have k0 := hkkr.cell r (by omega)
              have w0 := hWr.cell r (by omega)
              go_wp2_with fail
              go_quiet (fail)
              go_wp2_with fail
              go_quiet ((go_at_call 90; exact quiet_add_left (r_any _ _ _ (by omega) (by omega))))
              go_wp2_with fail
              go_quiet ((go_at_call 90; exact quiet_add_left (r_any _ _ _ (by omega) (by omega))))
              go_wp2
              go_roundw
              case rel =>
                refine ⟨r + 1, by omega, by go_num, ?_, oth8 (hKr.drewN _) (fun h => h rfl) _ _ _ _ _ _ _ _⟩
                rw [rounds, ← Hv.out]
                exact set8 (hVr.drewN _) hlv _ _ _ _ _ _ _ _
              case measure => simp [intOf]; omega
            · have e64 : r = 64 := by omega
              have hd64 : decide ((r : Int) < 64) = false := decide_eq_false (by omega)
              have hVf : IBlk .u32 98 wr Bv (rounds kk W st 64) := by rw [← e64, ← Hv.out]; exact hVr
              have hSr := hS2.keep hKr (by omega)
              have hRr := hR2.keep hKr (by omega)
              have hbelr : Below w.heap.size w wr := hbel2.trans (hKr.mono (fun k (hk : k < w.heap.size) => by omega)).below
              have hl8 := rounds_length kk W st 64 hl1
              have hres : compress kk by_ st = addInto st (rounds kk W st 64) 8 := by rw [HW.out]; rfl
              have Hres := Hid2.mk hres
              obtain ⟨z, hz⟩ : ∃ z, z = rounds kk W st 64 := ⟨_, rfl⟩
              rw [← hz] at hVf hl8
              have Hz := Hid2.mk hz
              clear hz hres e64 hVr hlv Hv HW hKr hS2 hR2 hbel2 hW2 hk2 hlw
              go_wp2
              obtain ⟨w3, hw3⟩ : ∃ w3, w3 = wr := ⟨_, rfl⟩
              rw [← hw3] at hVf hSr hRr hbelr ⊢
              clear hw3
              go_loopw [18] (fun c wr => ∃ i : Nat, i ≤ 8 ∧ c = .int .i64 i ∧ IBlk .u32 98 wr w.heap.size (addInto st z i) ∧ Keep (fun k => k ≠ w.heap.size) w3 wr)
                (fun c _ => 8 - (intOf c).toNat)
              case atStart => exact ⟨0, by omega, rfl, hSr, Keep.refl _ _⟩
              case round =>
                clear hSr
                obtain ⟨q, hq, rfl, hSr, hKr⟩ := hrel
                have hls : (addInto st z q).length = 8 := (addInto_length st z q).trans hl1
                by_cases h8 : q < 8
                · have hVr := hVf.keep hKr (by omega)
                  have s0 := hSr.cell q (by omega)
                  have v0 := hVr.cell q (by omega)
                  have f0 := hSr.free q
                  go_wp2_with fail
                  go_region
                  go_wp2
                  go_roundw
                  case rel => exact ⟨q + 1, by omega, by go_num, hSr.set _ _, (hKr.setCell (fun h => h rfl) _).drewN 1⟩
                  case measure => simp [intOf]; omega
                · have e8 : q = 8 := by omega
                  have hd8 : decide ((q : Int) < 8) = false := decide_eq_false (by omega)
                  obtain ⟨hh, hhe⟩ : ∃ hh, hh = compress kk by_ st := ⟨_, rfl⟩
                  have hSf : IBlk .u32 98 wr w.heap.size hh := by rw [hhe, Hres.out, ← Hz.out, ← e8]; exact hSr
                  have hhl : hh.length = 8 := by rw [hhe, compress_length, hl1]
                  have Hhe := Hid2.mk hhe
                  have hRr2 := hRr.keep hKr (by omega)
                  have hbelf : Below w.heap.size w wr := hbelr.trans (hKr.mono (fun k (hk : k < w.heap.size) => by omega)).below
                  clear hhe e8 hSr hVf Hres Hz hls hRr hbelr hKr
                  have d0 := hSf.cell 0 (by omega)
                  have d1 := hSf.cell 1 (by omega)
                  have d2 := hSf.cell 2 (by omega)
                  have d3 := hSf.cell 3 (by omega)
                  have d4 := hSf.cell 4 (by omega)
                  have d5 := hSf.cell 5 (by omega)
                  have d6 := hSf.cell 6 (by omega)
                  have d7 := hSf.cell 7 (by omega)
                  have hg1 : wr.heap[w.heap.size + 1]? = some (.cells (Z8.map (Value.int .u32)).toArray 98 (0, 0)) := hRr2
                  have eq8 : (#[.int .u32 (nth hh 0), .int .u32 (nth hh 1), .int .u32 (nth hh 2), .int .u32 (nth hh 3), .int .u32 (nth hh 4), .int .u32 (nth hh 5), .int .u32 (nth hh 6), .int .u32 (nth hh 7)] : Array Value) = (hh.map (Value.int .u32)).toArray := by
                    conv => rhs; rw [eight hh hhl]
                    rfl
                  have hone : (#[.int .u32 (nth hh 0), .int .u32 (nth hh 1), .int .u32 (nth hh 2), .int .u32 (nth hh 3), .int .u32 (nth hh 4), .int .u32 (nth hh 5), .int .u32 (nth hh 6), .int .u32 (nth hh 7)] : Array Value).all (·.oneCell') = true := by rw [eq8]; simp [Value.oneCell']
                  have Hone := Hid2.mk hone
                  clear hone
                  have Eq8 := Hid2.mk eq8
                  have Hg1 := Hid2.mk hg1
                  clear eq8 hg1
                  go_wp2_with (refine wpList_store_row rfl 98 (.tmp 6) (.tmp 195) rfl (w.heap.size + 1) (#[.int .u32 (nth hh 0), .int .u32 (nth hh 1), .int .u32 (nth hh 2), .int .u32 (nth hh 3), .int .u32 (nth hh 4), .int .u32 (nth hh 5), .int .u32 (nth hh 6), .int .u32 (nth hh 7)]) rfl rfl 98 (Z8.map (Value.int .u32)).toArray Hg1.out (by kernel_rfl) rfl Hone.out ?_)
                  refine bodyPost_ret (results_cell_row rfl _ _ (w.heap.size + 1) 98 _ (0, 0) _ rfl (setRow_heap _ _ _ _ _ _ Hg1.out) Tryz.underlying98 rfl (by kernel_rfl)) rfl ⟨by rw [Eq8.out, Hhe.out], ?_⟩
                  exact below_setRow hbelf (by omega) _

end Dig
end Go.Proofs.YtlamdhekjlnccaaGreatDoor

/- digest's reference: Sum. -/
namespace Go.Proofs.YtlamdhekjlnccaaGreatDoor
open Go.RowKit
namespace Dig

theorem elemBytes : Elem Tryz.prog 69 5 1 := Elem.mk' (k := .u8) (x := 0) Tryz.underlying69 (by kernel_rfl)

/-- n noughts behind a list. -/
def zs (n : Nat) : List Int := List.replicate n 0
/-- The length in digits, its i first bytes. -/
def lenB (n : Nat) : Nat → List Int
  | 0 => []
  | i + 1 => lenB n i ++ [(n : Int) * 8 / 2 ^ (8 * (7 - i)) % 256]
theorem lenB_length (n i : Nat) : (lenB n i).length = i := by
  induction i with
  | zero => rfl
  | succ i ih => simp [lenB, ih]

def Z32 : List Int := List.replicate 32 0
theorem zero25 (w : World) : (zeroValue 23).run Tryz.prog w = .ok (.agg (Z32.map (Value.int .u8)).toArray) w := by kernel_rfl

/-- How many noughts are laid behind n bytes and the mark. -/
def padN (n : Nat) : Nat := (119 - n % 64) % 64
theorem padN_stop (n z : Nat) (hz : z ≤ padN n) : ((n + 1 + z) % 64 = 56) ↔ z = padN n := by unfold padN at *; omega
/-- The padded message. -/
def padded (l : List Int) : List Int := l ++ [128] ++ zs (padN l.length) ++ lenB l.length 8
/-- The words as bytes, n bytes laid. -/
def outR (st : List Int) : Nat → List Int
  | 0 => Z32
  | i + 1 => (outR st i).set i (nth st (i / 4) / 2 ^ (24 - 8 * (i % 4)) % 256)
theorem outR_length (st : List Int) (i : Nat) : (outR st i).length = 32 := by
  induction i with
  | zero => rfl
  | succ i ih => simp [outR, ih]
/-- The digest, as the reference reckons it. -/
def refL (l : List Int) : List Int := outR (absorb (padded l) H0 ((padded l).length / 64)) 32

theorem buf_open {k : IntKind} {e : TypeId} {w : World} {base n c : Nat} {sp : Option Addr} {l : List Int} (h : Buf k e w base (.slice sp n c) l) (h0 : 0 < l.length) :
    ∃ g, sp = some ⟨g, 0, none⟩ ∧ n = l.length ∧ base ≤ g ∧ g < w.heap.size ∧ l.length ≤ c ∧ c ≤ 9223372036854775807 ∧ Row k w g 0 l := by
  rcases h.block with ⟨e1, e2⟩ | ⟨g, cap, rest, e1, hg, h1, h2, hb, -⟩
  · rw [e2] at h0; simp at h0
  · injection e1 with e1 e2 e3
    subst e1 e2 e3
    exact ⟨g, rfl, rfl, hg, hb.lt, h1, by unfold maxLen at h2; exact h2, h.row⟩
theorem keep_setRow {K : Nat → Prop} {a w : World} (h : Keep K a w) {g : Nat} (hg : ¬ K g) (cs : Array Value) : Keep K a (w.setRow g cs) :=
  h.trans ⟨rfl, rfl, rfl, by simp, fun k hk => setRow_other w g k cs (fun e => hg (e ▸ hk))⟩
theorem one_alloc {w w1 : World} {A : Obj} (hb : Below (w.alloc A).heap.size (w.alloc A) w1) :
    w1.heap[w.heap.size]? = some A ∧ Below w.heap.size w w1 ∧ w.heap.size + 1 ≤ w1.heap.size := by
  have hs : (w.alloc A).heap.size = w.heap.size + 1 := by simp
  refine ⟨?_, ?_, ?_⟩
  · rw [hb.block _ (by rw [hs]; omega), heap_alloc_new]
  · exact ((Below.refl _ _).alloc (Nat.le_refl _) _).trans (hb.mono (by rw [hs]; omega))
  · rw [← hs]; exact hb.size

theorem block_any8 (bb ob n cap bk : Nat) (st by_ kk : List Int) (T' : TypeId) (w : World) (hn : 64 ≤ n) (hn2 : n ≤ 9223372036854775807)
    (hbb : bb < w.heap.size) (hby : Row .u8 w bb ob by_) (hkk : IBlk .u32 T' w bk kk) (hl1 : st.length = 8) (hl2 : 64 ≤ by_.length) (hl3 : kk.length = 64) :
    Calls Tryz.prog 67 #[.agg #[.int .u32 (nth st 0), .int .u32 (nth st 1), .int .u32 (nth st 2), .int .u32 (nth st 3), .int .u32 (nth st 4), .int .u32 (nth st 5), .int .u32 (nth st 6), .int .u32 (nth st 7)], .slice (some ⟨bb, ob, none⟩) n cap, .pointer (some ⟨bk, 0, none⟩)] w
      fun e w' => e = .returned (.agg ((compress kk by_ st).map (Value.int .u32)).toArray) ∧ Below w.heap.size w w' := by
  have e : (#[.int .u32 (nth st 0), .int .u32 (nth st 1), .int .u32 (nth st 2), .int .u32 (nth st 3), .int .u32 (nth st 4), .int .u32 (nth st 5), .int .u32 (nth st 6), .int .u32 (nth st 7)] : Array Value) = (st.map (Value.int .u32)).toArray := by
    conv => rhs; rw [eight st hl1]
    rfl
  rw [e]
  exact block_any bb ob n cap bk st by_ kk T' w hn hn2 hbb hby hkk hl1 hl2 hl3

set_option maxRecDepth 100000 in
set_option maxHeartbeats 2000000 in
theorem refSum_any (v : Value) (l : List Int) (w : World) (hv : Sl .u8 w v l) (hn : l.length ≤ 35184372088832) :
    Calls Tryz.prog 39 #[v] w fun e w' => e = .returned (.agg ((refL l).map (Value.int .u8)).toArray) ∧ Below w.heap.size w w' := by
  have hv2 := hv
  obtain ⟨sp, cap, rfl, -, -, -, -⟩ := hv2
  have hz25 := zero25
  have hE0 : Buf .u8 5 ((w.alloc (.cells (Z32.map (Value.int .u8)).toArray 23)).alloc (.cells #[] 5)) (w.heap.size + 1) (.slice (some ⟨w.heap.size + 1, 0, none⟩) 0 0) [] := by
    have := Buf.empty (k := .u8) (e := 5) (w := w.alloc (.cells (Z32.map (Value.int .u8)).toArray 23)) (base := w.heap.size + 1) (by simp)
    simpa using this
  have hBe : Below w.heap.size w ((w.alloc (.cells (Z32.map (Value.int .u8)).toArray 23)).alloc (.cells #[] 5)) := ((Below.refl _ w).alloc (Nat.le_refl _) _).alloc (by simp) _
  have hSe := hv.of_below hBe
  have hHe : IBlk .u8 23 ((w.alloc (.cells (Z32.map (Value.int .u8)).toArray 23)).alloc (.cells #[] 5)) w.heap.size Z32 := IBlk.alloc (VBlk.mk w _ _) _
  have hze : ((w.alloc (.cells (Z32.map (Value.int .u8)).toArray 23)).alloc (.cells #[] 5)).heap.size = w.heap.size + 2 := by simp
  obtain ⟨W0, hW0⟩ : ∃ W0, W0 = ((w.alloc (.cells (Z32.map (Value.int .u8)).toArray 23)).alloc (.cells #[] 5)) := ⟨_, rfl⟩
  have hE1 := hE0
  rw [← hW0] at hHe hBe hze hE0 hSe
  have HE1 := Hid2.mk hE1
  have HW0 := Hid2.mk hW0
  clear hE1 hW0
  go_enter Tryz.func39, Tryz.ntmps39
  go_wp2_with (refine wpList_app rfl (.tmp 11) (.tmp 12) 69 rfl elemBytes (w.heap.size + 1) _ [] rfl HE1.out _ l rfl (by rw [← HW0.out]; exact hSe) l.length ?h1 ?h2 ?h3 ?h4 ?h5)
  case h1 => simp
  case h2 => unfold maxLen; omega
  case h3 => omega
  case h4 => simp
  case h5 =>
    intro sp1 c1 w1 hb1 hk1
    try rw [List.nil_append] at hb1
    rw [← HW0.out] at hk1
    have hs1 := hk1.size
    go_wp2_with (refine wpList_app rfl (.tmp 13) (.tmp 14) 69 rfl elemBytes (w.heap.size + 1) _ l rfl (hb1.alloc _) _ [128] rfl (Sl.one .u8 w1 128 5) (l.length + 1) ?h1 ?h2 ?h3 ?h4 ?h5)
    case h1 => simp
    case h2 => unfold maxLen; omega
    case h3 => omega
    case h4 => simp; omega
    case h5 =>
      intro sp2 c2 w2 hb2 hk2
      have hk02 : Keep (fun k => k < w.heap.size + 1) W0 w2 := (hk1.trans ((Keep.refl _ w1).alloc (fun k (hk : k < w.heap.size + 1) => by omega) _)).trans hk2
      have hbz : 0 ≤ padN l.length := Nat.zero_le _
      have hpz : padN l.length ≤ 63 := by unfold padN; omega
      clear hb1 hk1 hk2 hs1
      have hb20 : Buf .u8 5 w2 (w.heap.size + 1) (.slice sp2 (l.length + 1) c2) (l ++ [128] ++ zs 0) := by simpa [zs] using hb2
      clear hb2
      obtain ⟨M0, hM0⟩ : ∃ M0 : List Int, M0 = l ++ [128] := ⟨_, rfl⟩
      have hM0l : M0.length = l.length + 1 := by rw [hM0]; simp
      rw [← hM0] at hb20
      have HM0 := Hid2.mk hM0
      have HM0l := Hid2.mk hM0l
      clear hM0 hM0l
      go_wp2_with fail
      go_loopw [3] (fun v wr => ∃ z n sp c, z ≤ padN l.length ∧ n = l.length + 1 + z ∧ v = .slice sp n c ∧ Buf .u8 5 wr (w.heap.size + 1) (.slice sp n c) (M0 ++ zs z) ∧ Keep (fun k => k < w.heap.size + 1) W0 wr)
        (fun v _ => l.length + 65 - lenOf v)
      case atStart => exact ⟨0, _, _, _, by omega, rfl, rfl, hb20, hk02⟩
      case round =>
        clear hb20 hk02
        obtain ⟨z, n, sp3, c3, hz, hn1, rfl, hbr, hkr⟩ := hrel
        have Hn1 := Hid2.mk hn1
        have hnb : n ≤ l.length + 64 := by omega
        have hsr := hkr.size
        by_cases hzp : z = padN l.length
        · have ht : (((n : Int) % 64) != 56) = false := by
            have := (padN_stop l.length z hz).2 hzp
            rw [← hn1] at this
            rw [bne_eq_false_iff_eq]; omega
          have hn2 : n = l.length + 1 + padN l.length := by rw [hn1, hzp]
          have hbr2 : Buf .u8 5 wr (w.heap.size + 1) (.slice sp3 n c3) (M0 ++ zs (padN l.length) ++ lenB l.length 0) := by
            rw [← hzp]; simpa [lenB] using hbr
          have Hn2 := Hid2.mk hn2
          have hMl : (M0 ++ zs (padN l.length)).length = n := by rw [List.length_append, HM0l.out, hn2]; simp [zs]
          clear hn1 hzp Hn1 hbr hn2
          obtain ⟨M1, hM1⟩ : ∃ M1 : List Int, M1 = M0 ++ zs (padN l.length) := ⟨_, rfl⟩
          rw [← hM1] at hbr2 hMl
          have HM1 := Hid2.mk hM1
          have HM1l := Hid2.mk hMl
          clear hM1 hMl
          go_wp2_with fail
          go_loopw [3, 5] (fun v i wr => ∃ j nn sp c, j ≤ 8 ∧ nn = n + j ∧ i = .int .i64 (7 - (j : Int)) ∧ v = .slice sp nn c ∧ Buf .u8 5 wr (w.heap.size + 1) (.slice sp nn c) (M1 ++ lenB l.length j) ∧ Keep (fun k => k < w.heap.size + 1) W0 wr)
            (fun _ i _ => (intOf i + 1).toNat)
          case atStart => exact ⟨0, n, sp3, c3, by omega, rfl, rfl, rfl, hbr2, hkr⟩
          case round =>
            clear hbr2 hkr hsr
            obtain ⟨j, nn, sp4, c4, hj, hnn, rfl, rfl, hbr, hkr⟩ := hrel
            have Hnn := Hid2.mk hnn
            have hnb2 : nn ≤ l.length + 72 := by omega
            have hsr := hkr.size
            by_cases hj8 : j < 8
            · clear hnn
              go_wp2_with (refine wpList_app rfl (.tmp 31) (.tmp 38) 69 rfl elemBytes (w.heap.size + 1) _ (M1 ++ lenB l.length j) rfl (hbr.alloc _) _ [(l.length : Int) * 8 / 2 ^ (8 * (7 - j)) % 256] rfl (Sl.one .u8 wr _ 5) (nn + 1) ?g1 ?g2 ?g3 ?g4 ?g5)
              case g1 => rw [List.length_append, HM1l.out, lenB_length, Hnn.out]; rfl
              case g2 => unfold maxLen; omega
              case g3 => omega
              case g4 => simp; omega
              case g5 =>
                intro sp5 c5 w5 hb5 hk5
                have hb6 : Buf .u8 5 w5 (w.heap.size + 1) (.slice sp5 (nn + 1) c5) (M1 ++ lenB l.length (j + 1)) := by
                  rw [lenB]; first | exact hb5 | (rw [← List.append_assoc]; exact hb5)
                have hk6 : Keep (fun k => k < w.heap.size + 1) W0 w5 := (hkr.trans ((Keep.refl _ wr).alloc (fun k (hk : k < w.heap.size + 1) => by omega) _)).trans hk5
                clear hb5 hk5 hbr hkr hsr
                go_wp2_with fail
                go_roundw
                case rel => exact ⟨j + 1, nn + 1, sp5, c5, by omega, by rw [Hnn.out]; rfl, by go_num, rfl, hb6, hk6⟩
                case measure => simp [intOf]; omega
            · have e8 : j = 8 := by omega
              have hdj : decide ((j : Int) ≤ 7) = false := decide_eq_false (by omega)
              rw [e8] at hbr
              clear hnn
              have hnn8 : nn = n + 8 := by rw [Hnn.out, e8]
              obtain ⟨M, hM⟩ : ∃ M : List Int, M = M1 ++ lenB l.length 8 := ⟨_, rfl⟩
              rw [← hM] at hbr
              have hpad : M = padded l := by rw [hM, HM1.out, HM0.out]; rfl
              have hMl : M.length = nn := by rw [hM, List.length_append, HM1l.out, lenB_length, hnn8]
              have hN64 : nn = 64 * (nn / 64) := by
                have := (padN_stop l.length (padN l.length) (Nat.le_refl _)).2 rfl
                have := Hn2.out
                omega
              obtain ⟨q, hq⟩ : ∃ q, q = nn / 64 := ⟨_, rfl⟩
              rw [← hq] at hN64
              rw [← hMl] at hbr
              obtain ⟨g, rfl, -, hgB, hgl, hc4, hc4', hrowM⟩ := buf_open hbr (by omega)
              have hHr := hHe.keep hkr (by omega)
              have hbelr : Below w.heap.size w wr := hBe.trans (hkr.mono (fun k (hk : k < w.heap.size) => by omega)).below
              have Hpad := Hid2.mk hpad
              have HMl := Hid2.mk hMl
              have HN64 := Hid2.mk hN64
              have Hq := Hid2.mk hq
              clear hM hMl hpad hN64 hq hnn8 e8 hbr hkr hsr HM0 HM1 hHe hBe hSe hE0 HE1 hv
              go_wp2_with fail
              refine (k_any _).mono ?_
              rintro e w6 ⟨rfl, hk6⟩
              obtain ⟨hSb, hb6, hz6⟩ := one_alloc hk6
              clear hk6
              have hz43 := zero43
              go_wp2_with (refine wpList_store_row rfl 100 (.tmp 7) (.tmp 41) rfl w6.heap.size (K.map (Value.int .u32)).toArray rfl rfl 100 _ (heap_alloc_new _ _) (by kernel_rfl) (by kernel_rfl) (by kernel_rfl) ?_)
              have hKb : IBlk .u32 100 _ w6.heap.size K := setRow_heap _ w6.heap.size _ (K.map (Value.int .u32)).toArray 100 (0, 0) (heap_alloc_new w6 (.cells (Z64.map (Value.int .u32)).toArray 100))
              have hkeep : Below w6.heap.size w6 ((w6.alloc (.cells (Z64.map (Value.int .u32)).toArray 100)).setRow w6.heap.size (K.map (Value.int .u32)).toArray) :=
                below_setRow ((Below.refl _ _).alloc (Nat.le_refl _) _) (Nat.le_refl _) _
              generalize World.setRow _ _ _ = w7 at hKb hkeep ⊢
              have hS7 : IBlk .u32 98 w7 wr.heap.size H0 := (hkeep.block wr.heap.size (by omega)).trans hSb
              have hM7 : Row .u8 w7 g 0 M := (hrowM.below hb6 hgl).below hkeep (by omega)
              have hH7 : IBlk .u8 23 w7 w.heap.size Z32 := (hHr.below hb6 hHr.lt).below hkeep (by have := hHr.lt; omega)
              have hbel7 : Below w.heap.size w w7 := hbelr.trans ((hb6.mono hbelr.size).trans (hkeep.mono (by have := hbelr.size; omega)))
              have hg7 : g < w7.heap.size := by have := hkeep.size; omega
              have hBSg : g < wr.heap.size := hgl
              have hBKl : wr.heap.size < w6.heap.size := by omega
              have hBKz : w6.heap.size < w7.heap.size := hKb.lt
              have hBw : w.heap.size < g := by omega
              clear hSb hkeep hrowM hHr hbelr hb6 hz6 hz43 hz25 hgl
              generalize w6.heap.size = BK at hKb hBKl hBKz ⊢
              generalize wr.heap.size = BS at hS7 hBSg hBKl ⊢
              have Hn := HMl.out
              have hq1 : nn ≤ 64 * q := by have := HN64.out; omega
              have hq2 : 64 * q ≤ nn := by have := HN64.out; omega
              rw [Hn] at hc4
              clear Hn
              go_loopw [8] (fun c wr => ∃ i : Nat, i ≤ q ∧ c = .int .i64 (64 * (i : Int)) ∧ IBlk .u32 98 wr BS (absorb M H0 i) ∧ Keep (fun k => k < w7.heap.size ∧ k ≠ BS) w7 wr) (fun c _ => 64 * q - (intOf c).toNat)
              case atStart => exact ⟨0, by omega, rfl, hS7, Keep.refl _ _⟩
              case round =>
                clear hS7
                obtain ⟨i, hi, rfl, hSr, hKr⟩ := hrel
                have hsl : (absorb M H0 i).length = 8 := absorb_length M H0 i
                have hMr := hM7.keep hKr ⟨hg7, by omega⟩
                have hKbr := hKb.keep hKr ⟨hBKz, by omega⟩
                by_cases hiq : i < q
                · have hrow := row_drop hMr (64 * i)
                  rw [Nat.zero_add] at hrow
                  have hdl : 64 ≤ (M.drop (64 * i)).length := by rw [List.length_drop, HMl.out]; omega
                  have b0 : 0 ≤ 64 * (i : Int) := by omega
                  have b1 : 64 * (i : Int) + 64 ≤ c4 := by omega
                  have hil : (64 * (i : Int)) < (nn : Int) := by omega
                  have d0 := hSr.cell 0 (by omega)
                  have d1 := hSr.cell 1 (by omega)
                  have d2 := hSr.cell 2 (by omega)
                  have d3 := hSr.cell 3 (by omega)
                  have d4 := hSr.cell 4 (by omega)
                  have d5 := hSr.cell 5 (by omega)
                  have d6 := hSr.cell 6 (by omega)
                  have d7 := hSr.cell 7 (by omega)
                  go_wp2_with fail
                  refine wp_region_still_tail 6 (by kernel_rfl) (by kernel_rfl) ?_
                  simp only [List.take_succ_cons, List.take_zero, List.drop_succ_cons, List.drop_zero]
                  rw [show ({ heap := wr.heap, tape := wr.tape, drawn := wr.drawn + 1, os := wr.os, output := wr.output } : World) = wr.drew from rfl]
                  have g1 : 64 * (i : Int) ≤ 64 * (i : Int) + 64 := by omega
                  have g2 : 0 ≤ 64 * (i : Int) + 64 := by omega
                  have t1 : (64 * (i : Int)).toNat = 64 * i := by omega
                  have t2 : (64 * (i : Int) + 64).toNat = 64 * i + 64 := by omega
                  have t3 : ¬ c4 = 64 * i := by omega
                  have e1 : IntKind.i64.wrap (64 * (i : Int) + 64) = 64 * (i : Int) + 64 := IntWalk.i64_in _ (by omega)
                  repeat still_step
                  clear e1 t1 t2 t3
                  try refine wpStill_nil ?_
                  have hMd : Row .u8 wr.drew g (64 * i) (M.drop (64 * i)) := hrow
                  have hKd : IBlk .u32 100 wr.drew BK K := hKbr
                  have hgd : g < wr.drew.heap.size := by have := hKr.size; show g < wr.heap.size; omega
                  go_wp2_with fail
                  refine (block_any8 g (64 * i) 64 (c4 - 64 * i) BK (absorb M H0 i) (M.drop (64 * i)) K 100 _ (Nat.le_refl _) (by omega) hgd hMd hKd hsl hdl rfl).mono ?_
                  rintro e w' ⟨rfl, hb'⟩
                  have hBSw : BS < wr.heap.size := hSr.lt
                  have hS' : IBlk .u32 98 w' BS (absorb M H0 i) := hSr.of_block (hb'.block BS hBSw)
                  have hgS : w'.heap[BS]? = some (.cells ((absorb M H0 i).map (Value.int .u32)).toArray 98 (0, 0)) := hS'
                  have hsz8 : (Tryz.prog.info? 98).map (·.size) = some ((compress K (M.drop (64 * i)) (absorb M H0 i)).map (Value.int .u32)).toArray.size := by
                    rw [List.size_toArray, List.length_map, compress_length, hsl]; kernel_rfl
                  have hsz9 : ((absorb M H0 i).map (Value.int .u32)).toArray.size = ((compress K (M.drop (64 * i)) (absorb M H0 i)).map (Value.int .u32)).toArray.size := by
                    rw [List.size_toArray, List.length_map, List.size_toArray, List.length_map, compress_length]
                  have hone : ((compress K (M.drop (64 * i)) (absorb M H0 i)).map (Value.int .u32)).toArray.all (·.oneCell') = true := by simp [Value.oneCell']
                  have HgS := Hid2.mk hgS
                  have Hsz8 := Hid2.mk hsz8
                  have Hsz9 := Hid2.mk hsz9
                  have Hone := Hid2.mk hone
                  have hKp : Keep (fun k => k < w7.heap.size ∧ k ≠ BS) w7 w' := hKr.trans (((Keep.refl _ wr).drewN 1).trans ((Keep.of_below hb').mono (fun k hk => by have := hKr.size; show k < wr.heap.size; omega)))
                  clear hgS hsz8 hsz9 hone hMd hKd hgd d0 d1 d2 d3 d4 d5 d6 d7 hb' hrow hMr hKbr hKr hSr
                  go_wp2_with (refine wpList_store_row rfl 98 (.tmp 6) (.tmp 54) rfl BS _ rfl rfl 98 _ HgS.out Hsz8.out Hsz9.out Hone.out ?_)
                  have hS2 : IBlk .u32 98 (w'.setRow BS ((compress K (M.drop (64 * i)) (absorb M H0 i)).map (Value.int .u32)).toArray) BS (absorb M H0 (i + 1)) := setRow_heap _ _ _ _ _ _ HgS.out
                  have hKp2 : Keep (fun k => k < w7.heap.size ∧ k ≠ BS) w7 (w'.setRow BS ((compress K (M.drop (64 * i)) (absorb M H0 i)).map (Value.int .u32)).toArray) := keep_setRow hKp (fun h => h.2 rfl) _
                  clear hKp HgS Hsz8 Hsz9 Hone hS'
                  go_wp2_with fail
                  go_roundw
                  case rel => exact ⟨i + 1, by omega, by go_num, hS2, hKp2⟩
                  case measure => simp [intOf]; omega
                · have eiq : i = q := by omega
                  have hil : decide ((64 * (i : Int)) < (nn : Int)) = false := decide_eq_false (by omega)
                  rw [eiq] at hSr
                  have hHr := hH7.keep hKr ⟨hH7.lt, by omega⟩
                  have hbelr : Below w.heap.size w wr := hbel7.trans (hKr.mono (fun k (hk : k < w.heap.size) => ⟨Nat.lt_of_lt_of_le hk hbel7.size, by omega⟩)).below
                  obtain ⟨st, hst⟩ : ∃ st, st = absorb M H0 q := ⟨_, rfl⟩
                  have hstl : st.length = 8 := by rw [hst]; exact absorb_length M H0 q
                  rw [← hst] at hSr
                  have hres : outR st 32 = refL l := by
                    have e1 : M.length / 64 = q := by rw [HMl.out, Hq.out]
                    rw [hst, ← e1, Hpad.out]; rfl
                  have Hres := Hid2.mk hres
                  clear hres hst hMr hKbr hKr hsl eiq hKb hM7 hH7 hbel7 Hpad
                  have hz25 := zero25
                  go_wp2_with fail
                  clear hz25
                  have hO := VBlk.mk wr (Z32.map (Value.int .u8)) 23
                  have hKo : Below wr.heap.size wr (wr.alloc (.cells (Z32.map (Value.int .u8)).toArray 23)) := (Below.refl _ _).alloc (Nat.le_refl _) _
                  generalize World.alloc _ _ = w8 at hO hKo ⊢
                  have hO8 : IBlk .u8 23 w8 wr.heap.size (outR st 0) := hO
                  have hS8 := hSr.below hKo hSr.lt
                  have hH8 := hHr.below hKo hHr.lt
                  have hbel8 : Below w.heap.size w w8 := hbelr.trans (hKo.mono hbelr.size)
                  have hBO : BS < wr.heap.size := hSr.lt
                  have hHO : w.heap.size < wr.heap.size := hHr.lt
                  clear hO hKo hSr hHr hbelr
                  generalize wr.heap.size = BO at hO8 hBO hHO ⊢
                  go_loopw [10] (fun c wr => ∃ i : Nat, i ≤ 32 ∧ c = .int .i64 i ∧ IBlk .u8 23 wr BO (outR st i) ∧ Keep (fun k => k ≠ BO) w8 wr) (fun c _ => 32 - (intOf c).toNat)
                  case atStart => exact ⟨0, by omega, rfl, hO8, Keep.refl _ _⟩
                  case round =>
                    clear hO8
                    obtain ⟨i, hi, rfl, hOr, hKr⟩ := hrel
                    have hol := outR_length st i
                    by_cases hi32 : i < 32
                    · have hSr := hS8.keep hKr (by omega)
                      have c0 := hSr.cell (i / 4) (by omega)
                      have c1 := hOr.cell i (by omega)
                      have f1 := hOr.free i
                      have b4 : (i : Int) / 4 < 8 := by omega
                      have b5 : (i : Int) % 4 ≤ 3 := by omega
                      have b6 : 0 ≤ (i : Int) % 4 := by omega
                      go_wp2_with fail
                      go_roundw
                      case rel => exact ⟨i + 1, by omega, by go_num, hOr.set _ _, hKr.setCell (fun h => h rfl) _⟩
                      case measure => simp [intOf]; omega
                    · have e9 : i = 32 := by omega
                      have hd32 : decide ((i : Int) < 32) = false := decide_eq_false (by omega)
                      rw [e9, Hres.out] at hOr
                      clear e9
                      obtain ⟨hh, hhe⟩ : ∃ hh, hh = refL l := ⟨_, rfl⟩
                      rw [← hhe] at hOr
                      have hhl : hh.length = 32 := by rw [hhe]; exact outR_length _ _
                      have Hhe := Hid2.mk hhe
                      have hHr := hH8.keep hKr (by omega)
                      have hbelf : Below w.heap.size w wr := hbel8.trans (hKr.mono (fun k (hk : k < w.heap.size) => by omega)).below
                      have hgO : wr.heap[BO]? = some (.cells (hh.map (Value.int .u8)).toArray 23 (0, 0)) := hOr
                      have hgH : wr.heap[w.heap.size]? = some (.cells (Z32.map (Value.int .u8)).toArray 23 (0, 0)) := hHr
                      have hi25 : (Tryz.prog.info? 23).map (·.size) = some (hh.map (Value.int .u8)).toArray.size := by
                        rw [List.size_toArray, List.length_map, hhl]; kernel_rfl
                      have hi26 : (Z32.map (Value.int .u8)).toArray.size = (hh.map (Value.int .u8)).toArray.size := by
                        rw [List.size_toArray, List.length_map, List.size_toArray, List.length_map, hhl]; rfl
                      have hone : (hh.map (Value.int .u8)).toArray.all (·.oneCell') = true := by simp [Value.oneCell']
                      have HgO := Hid2.mk hgO
                      have HgH := Hid2.mk hgH
                      have Hi25 := Hid2.mk hi25
                      have Hi26 := Hid2.mk hi26
                      have Hone := Hid2.mk hone
                      clear hhe hOr hHr hH8 hS8 hbel8 hKr hgO hgH hi25 hi26 hone hol hhl Hres
                      go_wp2_with (first | (refine wpList_load_row rfl 23 (.tmp 9) rfl BO rfl 23 (hh.map (Value.int .u8)).toArray (0, 0) _ HgO.out Tryz.underlying23 rfl Hi25.out ?_) | (refine wpList_store_row rfl 23 (.tmp 2) (.tmp 72) rfl w.heap.size (hh.map (Value.int .u8)).toArray rfl rfl 23 (Z32.map (Value.int .u8)).toArray HgH.out Hi25.out Hi26.out Hone.out ?_))
                      refine bodyPost_ret (results_cell_row rfl _ _ w.heap.size 23 (hh.map (Value.int .u8)).toArray (0, 0) _ rfl (setRow_heap _ _ _ _ _ _ HgH.out) Tryz.underlying23 rfl Hi25.out) rfl ⟨by rw [Hhe.out], ?_⟩
                      exact below_setRow hbelf (Nat.le_refl _) _
        · have ht : (((n : Int) % 64) != 56) = true := by
            have : ¬ n % 64 = 56 := fun h => hzp ((padN_stop l.length z hz).1 (by rw [← hn1]; exact h))
            rw [bne_iff_ne]; omega
          have hzlt : z < padN l.length := by omega
          have hMl : (M0 ++ zs z).length = n := by rw [List.length_append, HM0l.out, hn1]; simp [zs]
          have HMl := Hid2.mk hMl
          clear hMl hn1 hzp
          go_wp2_with (refine wpList_app rfl (.tmp 20) (.tmp 21) 69 rfl elemBytes (w.heap.size + 1) _ (M0 ++ zs z) rfl (hbr.alloc _) _ [0] rfl (Sl.one .u8 wr 0 5) (n + 1) ?g1 ?g2 ?g3 ?g4 ?g5)
          case g1 => rw [HMl.out]; rfl
          case g2 => unfold maxLen; omega
          case g3 => omega
          case g4 => simp; omega
          case g5 =>
            intro sp5 c5 w5 hb5 hk5
            have hb6 : Buf .u8 5 w5 (w.heap.size + 1) (.slice sp5 (n + 1) c5) (M0 ++ zs (z + 1)) := by
              have e : M0 ++ zs (z + 1) = M0 ++ (zs z ++ [0]) := by unfold zs; rw [List.replicate_succ']
              rw [e]; first | exact hb5 | (rw [← List.append_assoc]; exact hb5)
            have hk6 : Keep (fun k => k < w.heap.size + 1) W0 w5 := (hkr.trans ((Keep.refl _ wr).alloc (fun k (hk : k < w.heap.size + 1) => by omega) _)).trans hk5
            clear hb5 hk5 hbr hkr hsr
            go_wp2_with fail
            go_roundw
            case rel => exact ⟨z + 1, n + 1, sp5, c5, by omega, by rw [Hn1.out]; rfl, rfl, hb6, hk6⟩
            case measure => simp [lenOf]; omega

end Dig
end Go.Proofs.YtlamdhekjlnccaaGreatDoor

/- digest: what the program reckons and what the reference reckons are one. Plain lists: no walk. -/
namespace Go.Proofs.YtlamdhekjlnccaaGreatDoor
namespace Dig

theorem ext_nth (a b : List Int) (hl : a.length = b.length) (h : ∀ i, i < a.length → nth a i = nth b i) : a = b := by
  apply List.ext_getElem hl
  intro i h1 h2
  have := h i h1
  simpa [nth, h1, h2] using this
theorem nth_outR (st : List Int) (n i : Nat) (hi : i < n) (hn : n ≤ 32) : nth (outR st n) i = nth st (i / 4) / 2 ^ (24 - 8 * (i % 4)) % 256 := by
  induction n with
  | zero => omega
  | succ n ih =>
    rw [outR]
    by_cases h : i = n
    · subst h; exact nth_set_eq _ _ _ (by rw [outR_length]; omega)
    · rw [nth_set_ne _ _ _ _ h]; exact ih (by omega) (by omega)
theorem nth_outH (st : List Int) (n i : Nat) (hi : i < 4 * n) (hn : n ≤ 8) : nth (outH st n) i = nth st (i / 4) / 2 ^ (24 - 8 * (i % 4)) % 256 := by
  induction n with
  | zero => omega
  | succ n ih =>
    rw [outH]
    have hl := outH_length st n
    by_cases h3 : i = 4 * n + 3
    · subst h3
      rw [nth_set_eq _ _ _ (by simp [hl]; omega), show (4 * n + 3) / 4 = n from by omega, show (4 * n + 3) % 4 = 3 from by omega]
      simp
    · rw [nth_set_ne _ _ _ _ h3]
      by_cases h2 : i = 4 * n + 2
      · subst h2
        rw [nth_set_eq _ _ _ (by simp [hl]; omega), show (4 * n + 2) / 4 = n from by omega, show (4 * n + 2) % 4 = 2 from by omega]
        rfl
      · rw [nth_set_ne _ _ _ _ h2]
        by_cases h1 : i = 4 * n + 1
        · subst h1
          rw [nth_set_eq _ _ _ (by simp [hl]; omega), show (4 * n + 1) / 4 = n from by omega, show (4 * n + 1) % 4 = 1 from by omega]
          rfl
        · rw [nth_set_ne _ _ _ _ h1]
          by_cases h0 : i = 4 * n
          · subst h0
            rw [nth_set_eq _ _ _ (by simp [hl]; omega), show (4 * n) / 4 = n from by omega, show (4 * n) % 4 = 0 from by omega]
            rfl
          · rw [nth_set_ne _ _ _ _ h0]; exact ih (by omega) (by omega)
theorem outR_eq (st : List Int) : outR st 32 = outH st 8 :=
  ext_nth _ _ (by rw [outR_length, outH_length]) (fun i hi => by
    rw [outR_length] at hi
    rw [nth_outR st 32 i hi (Nat.le_refl _), nth_outH st 8 i (by omega) (Nat.le_refl _)])

theorem nth_left (a b : List Int) (i : Nat) (h : i < a.length) : nth (a ++ b) i = nth a i := by
  simp [nth, List.getElem?_append_left h]
theorem nth_right (a b : List Int) (i : Nat) (h : a.length ≤ i) : nth (a ++ b) i = nth b (i - a.length) := by
  simp [nth, List.getElem?_append_right h]
theorem nth_drop (a : List Int) (n i : Nat) : nth (a.drop n) i = nth a (n + i) := by simp [nth]
theorem nth_zs (n i : Nat) : nth (zs n) i = 0 := by
  unfold nth zs
  by_cases h : i < n
  · simp [h]
  · simp [List.getElem?_eq_none (show (List.replicate n (0 : Int)).length ≤ i by simp; omega)]

theorem load_congr (a b : List Int) (n : Nat) (hn : n ≤ 16) (h : ∀ i, i < 64 → nth a i = nth b i) : load a n = load b n := by
  induction n with
  | zero => rfl
  | succ n ih =>
    rw [load, load, ih (by omega)]
    unfold wordAt
    rw [h _ (by omega), h _ (by omega), h _ (by omega), h _ (by omega)]
theorem compress_congr (kk a b st : List Int) (h : ∀ i, i < 64 → nth a i = nth b i) : compress kk a st = compress kk b st := by
  unfold compress; rw [load_congr a b 16 (Nat.le_refl _) h]
theorem absorb_congr (a b st : List Int) (e : Nat) (h : ∀ i, i < 64 * e → nth a i = nth b i) : absorb a st e = absorb b st e := by
  induction e with
  | zero => rfl
  | succ e ih =>
    rw [absorb, absorb, ih (fun i hi => h i (by omega))]
    exact compress_congr _ _ _ _ (fun i hi => by rw [nth_drop, nth_drop]; exact h _ (by omega))
theorem absorb_add (a st : List Int) (j e : Nat) : absorb a st (j + e) = absorb (a.drop (64 * j)) (absorb a st j) e := by
  induction e with
  | zero => rfl
  | succ e ih =>
    rw [← Nat.add_assoc, absorb, absorb, ih, List.drop_drop, Nat.mul_add]

theorem nth_lenB (n i t : Nat) (h : t < i) : nth (lenB n i) t = (n : Int) * 8 / 2 ^ (8 * (7 - t)) % 256 := by
  induction i with
  | zero => omega
  | succ i ih =>
    rw [lenB]
    by_cases ht : t < i
    · rw [nth_left _ _ _ (by rw [lenB_length]; exact ht)]; exact ih ht
    · have : t = i := by omega
      subst this
      rw [nth_right _ _ _ (by rw [lenB_length]; exact Nat.le_refl _), lenB_length, Nat.sub_self]
      rfl
theorem nth_putLen (p : List Int) (E n i x : Nat) (hE : E ≤ p.length) (hi : i ≤ E) :
    nth (putLen p E n i) x = if E - i ≤ x ∧ x < E then (n : Int) * 8 / 2 ^ (8 * (E - 1 - x)) % 256 else nth p x := by
  induction i with
  | zero => rw [if_neg (by omega)]; rfl
  | succ i ih =>
    rw [putLen]
    by_cases hx : x = E - 1 - i
    · rw [if_pos (by omega), hx, nth_set_eq _ _ _ (by rw [putLen_length]; omega)]
      rw [show E - 1 - (E - 1 - i) = i from by omega]
    · rw [nth_set_ne _ _ _ _ hx, ih (by omega)]
      by_cases h1 : E - i ≤ x ∧ x < E
      · rw [if_pos h1, if_pos (by omega)]
      · rw [if_neg h1, if_neg (by omega)]

theorem zs_length (n : Nat) : (zs n).length = n := by simp [zs]
theorem padded_length (l : List Int) : (padded l).length = l.length + 1 + padN l.length + 8 := by
  unfold padded; rw [List.length_append, List.length_append, List.length_append, lenB_length, zs_length]; rfl
theorem padded_lo (l : List Int) (y : Nat) (h : y < l.length) : nth (padded l) y = nth l y := by
  unfold padded; rw [List.append_assoc, List.append_assoc, nth_left _ _ _ h]
theorem padded_at (l : List Int) (y : Nat) (h : y = l.length) : nth (padded l) y = 128 := by
  unfold padded; rw [List.append_assoc, List.append_assoc, nth_right _ _ _ (by omega), h, Nat.sub_self]; rfl
theorem padded_mid (l : List Int) (y : Nat) (h : l.length < y) (h2 : y < l.length + 1 + padN l.length) : nth (padded l) y = 0 := by
  unfold padded
  have h1 : (l ++ [128]).length = l.length + 1 := by simp
  rw [List.append_assoc (l ++ [128]), nth_right _ _ _ (by omega), nth_left _ _ _ (by rw [zs_length]; omega), nth_zs]
theorem padded_hi (l : List Int) (y t : Nat) (h : y = l.length + 1 + padN l.length + t) (ht : t < 8) : nth (padded l) y = (l.length : Int) * 8 / 2 ^ (8 * (7 - t)) % 256 := by
  unfold padded
  have h1 : (l ++ [128] ++ zs (padN l.length)).length = l.length + 1 + padN l.length := by rw [List.length_append, zs_length]; simp
  rw [nth_right _ _ _ (by omega), h1, h, Nat.add_sub_cancel_left, nth_lenB _ _ _ ht]

theorem refL_eq (l : List Int) : refL l = sumL l := by
  have hrl : (l.drop (64 * (l.length / 64))).length = l.length % 64 := by rw [List.length_drop]; omega
  have hpl := padded_length l
  have hpre : ∀ i, i ≤ l.length / 64 → absorb (padded l) H0 i = absorb l H0 i := fun i hi =>
    absorb_congr _ _ _ _ (fun x hx => padded_lo l x (by omega))
  have key : ∀ e, (padded l).length / 64 = l.length / 64 + e → e ≤ 2 → l.length % 64 + 1 + padN l.length + 8 = 64 * e →
      refL l = outH (absorb (putLen ((l.drop (64 * (l.length / 64)) ++ List.replicate (128 - l.length % 64) 0).set (l.length % 64) 128) (64 * e) l.length 8) (absorb l H0 (l.length / 64)) e) 8 := by
    intro e he he2 hlen
    unfold refL
    rw [outR_eq, he, absorb_add, hpre _ (Nat.le_refl _)]
    congr 1
    refine absorb_congr _ _ _ _ (fun x hx => ?_)
    obtain ⟨rl, hrle⟩ : ∃ rl, rl = l.drop (64 * (l.length / 64)) := ⟨_, rfl⟩
    have hrx : ∀ y, nth rl y = nth l (64 * (l.length / 64) + y) := fun y => by rw [hrle, nth_drop]
    rw [← hrle] at hrl ⊢
    have hbl : (rl ++ List.replicate (128 - l.length % 64) (0 : Int)).length = 128 := by
      rw [List.length_append, hrl, List.length_replicate]; omega
    rw [nth_drop, nth_putLen _ _ _ _ _ (by rw [List.length_set, hbl]; omega) (by omega)]
    by_cases h1 : x < l.length % 64
    · rw [if_neg (by omega), nth_set_ne _ _ _ _ (by omega), nth_left _ _ _ (by rw [hrl]; exact h1), hrx]
      exact padded_lo l _ (by omega)
    · by_cases h2 : x = l.length % 64
      · rw [if_neg (by omega), h2, nth_set_eq _ _ _ (by rw [hbl]; omega)]
        exact padded_at l _ (by omega)
      · by_cases h3 : x < 64 * e - 8
        · rw [if_neg (by omega), nth_set_ne _ _ _ _ h2, nth_right _ _ _ (by rw [hrl]; omega), padded_mid l _ (by omega) (by omega)]
          exact (nth_zs _ _).symm
        · rw [if_pos (by omega), padded_hi l _ (x - (64 * e - 8)) (by omega) (by omega), show 7 - (x - (64 * e - 8)) = 64 * e - 1 - x from by omega]
  unfold sumL
  simp only [hrl]
  by_cases h56 : 56 ≤ l.length % 64
  · rw [if_pos h56]
    exact key 2 (by unfold padN at hpl; omega) (by omega) (by unfold padN; omega)
  · rw [if_neg h56]
    exact key 1 (by unfold padN at hpl; omega) (by omega) (by unfold padN; omega)

theorem outH_range (st : List Int) : ∀ i, i < 32 → 0 ≤ nth (outH st 8) i ∧ nth (outH st 8) i ≤ 255 := by
  intro i hi
  rw [nth_outH st 8 i (by omega) (Nat.le_refl _)]
  omega
theorem sumL_range (l : List Int) : ∀ i, i < 32 → 0 ≤ nth (sumL l) i ∧ nth (sumL l) i ≤ 255 := outH_range _

end Dig
end Go.Proofs.YtlamdhekjlnccaaGreatDoor

/- append onto a slice of the call's own, as one step of a region that draws its order. -/
namespace Go.Proofs.YtlamdhekjlnccaaGreatDoor
open Go.RowKit

theorem wp_app {P : Program} {w : World} {o : Oper} {a : Act} {K : Act → World → Prop} {Q : Exit → Act → World → Prop} (s x : Operand) (t : TypeId)
    (ho : o.op = .call { callee := .builtin .append, args := #[s, x], argTypes := #[t, t] }) {e : TypeId} {k : IntKind} {bytes : Nat} (E : Elem P t e bytes)
    (base : Nat) (v : Value) (l : List Int) (hs : a.eval s = v) (hown : Buf k e w base v l) (xv : Value) (l2 : List Int) (hx : a.eval x = xv) (hsl : Sl k w xv l2)
    (n : Nat) (hn : l.length + l2.length = n) (hb1 : n ≤ maxLen) (hb2 : n * bytes ≤ 140737488355328) (hbase : base ≤ w.heap.size)
    (h : ∀ sp c w', Buf k e w' base (.slice sp n c) (l ++ l2) → Keep (fun b => b < base) w w' → K (a.put o.dst (.slice sp n c)) w') : o.wp P a w K Q := by
  subst hn
  obtain ⟨i, z, hi, hz, hz1, hz2, hz3⟩ := E.ex
  obtain ⟨sp, cap, rfl, hc1, hc2, hrow, hnil⟩ := hsl
  have go : ∀ v' w', w'.ownsRow base e 1 v' (l.length + l2.length) (l.map (Value.int k) ++ l2.map (Value.int k)) → w.grownBy w' v.ownBlock → K (a.put o.dst v') w' := by
    intro v' w' h1 h2
    have h1' : Buf k e w' base v' (l ++ l2) := by
      unfold Buf; rw [List.map_append, List.length_append]; exact h1
    have hk := keep_grown h2 (fun g hg => (hown.own g hg).1) hbase
    rcases h1'.block with ⟨e1, e2⟩ | ⟨g, c, r, e1, -⟩
    · subst e1
      have e3 : l.length + l2.length = 0 := by rw [← List.length_append, e2]; rfl
      rw [e3] at h
      exact h none 0 w' h1' hk
    · subst e1
      rw [List.length_append] at h1' ⊢
      exact h _ c w' h1' hk
  by_cases h0 : sp = none
  · subst h0
    have hc0 := hnil rfl
    subst hc0
    have hl2 : l2 = [] := List.eq_nil_of_length_eq_zero (by omega)
    subst hl2
    have hrun := run_append_owned_none (P := P) (w := w) base t o.type e i 1 E.ht hi v l.length _ hown
    have hgo := go v w (by unfold Buf at hown; simpa using hown) (World.grownBy.refl _ _)
    have hx' : a.eval x = .slice none 0 0 := hx
    unfold Oper.wp
    simp [execOp, ho, resolve, invoke, builtin, hs, hx', hrun, Result.andThen]
    exact hgo
  · obtain ⟨ad, had⟩ := Option.ne_none_iff_exists'.1 h0
    refine wp_append_own w s x t ho base e i z 1 bytes E.ht hi hz hz1 hz2 hz3 (by decide) v l.length _ hs hown ad l2.length cap (l2.map (Value.int k)) (by rw [hx, had]) (by simp) ?_ ?_ hb1 hb2 hbase (fun v' w' h1 h2 _ => go v' w' h1 h2)
    · intro j u hu
      have hj : j < l2.length := by
        rcases Nat.lt_or_ge j l2.length with h | h
        · exact h
        · simp [h] at hu
      obtain ⟨b, o, e1, hlt, hr⟩ := hrow (by omega)
      rw [e1] at had
      cases had
      rw [addr_add, hr j hj]
      simpa [nth, hj] using hu
    · intro u hu
      obtain ⟨_, _, rfl⟩ := List.mem_map.1 hu
      rfl

theorem step_app {P : Program} {ops : Array Oper} {w : World} {o : Oper} {a : Act} {K : Act → World → Prop} {Q : Exit → Act → World → Prop} {F : Prop} (hgd : o.guard = none) (s x : Operand) (t : TypeId)
    (ho : o.op = .call { callee := .builtin .append, args := #[s, x], argTypes := #[t, t] }) {e : TypeId} {k : IntKind} {bytes : Nat} (E : Elem P t e bytes)
    (base : Nat) (v : Value) (l : List Int) (hs : a.eval s = v) (hown : Buf k e w base v l) (xv : Value) (l2 : List Int) (hx : a.eval x = xv) (hsl : Sl k w xv l2)
    (n : Nat) (hn : l.length + l2.length = n) (hb1 : n ≤ maxLen) (hb2 : n * bytes ≤ 140737488355328) (hbase : base ≤ w.heap.size)
    (h : ∀ sp c w', Buf k e w' base (.slice sp n c) (l ++ l2) → Keep (fun b => b < base) w w' → K (a.put o.dst (.slice sp n c)) w') :
    if Region.wanted o (yielded ops a.tmps) = true then Oper.wp P o a w K Q else F := by
  rw [if_pos (by simp [Region.wanted, hgd])]
  exact wp_app s x t ho E base v l hs hown xv l2 hx hsl n hn hb1 hb2 hbase h

end Go.Proofs.YtlamdhekjlnccaaGreatDoor

/- digest.Sum and the reference's, as one; marks. -/
namespace Go.Proofs.YtlamdhekjlnccaaGreatDoor
open Go.RowKit
namespace Dig

theorem refSum_s (v : Value) (l : List Int) (w : World) (hv : Sl .u8 w v l) (hn : l.length ≤ 35184372088832) :
    Calls Tryz.prog 39 #[v] w fun e w' => e = .returned (.agg ((sumL l).map (Value.int .u8)).toArray) ∧ Below w.heap.size w w' := by
  rw [← refL_eq]; exact refSum_any v l w hv hn
theorem progSum_s (v : Value) (l : List Int) (w : World) (hv : Sl .u8 w v l) (hn : l.length ≤ 35184372088832) :
    Calls Tryz.prog 37 #[v] w fun e w' => e = .returned (.agg ((sumL l).map (Value.int .u8)).toArray) ∧ Below w.heap.size w w' :=
  sum_any v l w hv (by omega)
/-- A mark ahead, in a new block. -/
theorem mark_buf (W : World) (m : Int) : Buf .u8 5 (W.alloc (.cells #[.int .u8 m] 5)) W.heap.size (.slice (some ⟨W.heap.size, 0, none⟩) 1 1) [m] :=
  Buf.mk (k := .u8) (e := 5) (w := W) [m] [] (Nat.le_refl _) (by unfold maxLen; simp)
theorem blk_sl {W : World} {b : Nat} {l : List Int} (h : IBlk .u8 23 W b l) (hl : l.length = 32) : Sl .u8 W (.slice (some ⟨b, 0, none⟩) 32 32) l := by
  have := Sl.mk (k := .u8) (w := W) (b := b) (o := 0) (cap := 32) (l := l) (by omega) (by omega) h.lt h.row
  rw [hl] at this; exact this
theorem info25 (l : List Int) (hl : l.length = 32) : (Tryz.prog.info? 23).map (·.size) = some (l.map (Value.int .u8)).toArray.size := by
  rw [List.size_toArray, List.length_map, hl]; kernel_rfl
theorem size25 (l : List Int) (hl : l.length = 32) : (Z32.map (Value.int .u8)).toArray.size = (l.map (Value.int .u8)).toArray.size := by
  rw [List.size_toArray, List.length_map, List.size_toArray, List.length_map, hl]; rfl
theorem one25 (l : List Int) : (l.map (Value.int .u8)).toArray.all (·.oneCell') = true := by simp [Value.oneCell']
theorem sum_named (l : List Int) : ∃ hh : List Int, Hid2 (hh = sumL l) ∧ Hid2 (hh.length = 32) := ⟨sumL l, Hid2.mk rfl, Hid2.mk (sumL_length l)⟩
theorem step_store_row {P : Program} {ops : Array Oper} {o : Oper} {a : Act} {w : World} {K : Act → World → Prop} {Q : Exit → Act → World → Prop} {F : Prop} (hgd : o.guard = none) (ty : TypeId) (x y : Operand) (ho : o.op = .store ty x y)
    (g : Nat) (cells : Array Value) (hx : a.eval x = .pointer (some ⟨g, 0, none⟩)) (hy : a.eval y = .agg cells)
    (t : TypeId) (old : Array Value) (hg : w.heap[g]? = some (.cells old t (0, 0))) (hi : (P.info? ty).map (·.size) = some cells.size)
    (hold : old.size = cells.size) (h1 : cells.all (·.oneCell') = true)
    (h : K (a.put o.dst undef) (w.setRow g cells)) : if Region.wanted o (yielded ops a.tmps) = true then Oper.wp P o a w K Q else F := by
  rw [if_pos (by simp [Region.wanted, hgd])]
  exact wp_store_row ty x y ho g cells hx hy t old hg hi hold h1 h

end Dig
end Go.Proofs.YtlamdhekjlnccaaGreatDoor

/- Equality of arrays of integers. -/
namespace Go.Proofs.YtlamdhekjlnccaaGreatDoor
open Go.RowKit

theorem part_int {P : Program} (w : World) {e : TypeId} {k : IntKind} (he : P.underlying e = some (.int k)) (l : List Int) (i : Nat) (hi : i < l.length) :
    (part e (l.map (Value.int k)).toArray i).run P w = .ok (.int k (nth l i)) w := by
  have hagg : (isAgg e).run P w = .ok false w := by
    unfold isAgg; rw [Sem.run_bind, run_underlying he w]; rfl
  have hc : (l.map (Value.int k)).toArray[i]? = some (.int k (nth l i)) := by simp [nth, hi]
  simp [part, Sem.run_bind, hagg, hc]
theorem eqItems_ints {P : Program} (w : World) (d : Nat) {e : TypeId} {k : IntKind} (he : P.underlying e = some (.int k)) (xs ys : List Int) :
    ∀ is : List Nat, (∀ i ∈ is, i < xs.length ∧ i < ys.length) → (Op.eqItems (d + 1) e 1 (xs.map (Value.int k)).toArray (ys.map (Value.int k)).toArray is).run P w = .ok (is.all fun i => nth xs i == nth ys i) w
  | [], _ => by simp [Op.eqItems]
  | i :: is, h => by
    obtain ⟨h1, h2⟩ := h i (by simp)
    have ih := eqItems_ints w d he xs ys is (fun j hj => h j (by simp [hj]))
    simp only [Op.eqItems, Sem.run_bind, Nat.mul_one, part_int w he xs i h1, part_int w he ys i h2, Result.andThen_ok, run_equalIn_int w d e k k (nth xs i) (nth ys i) he, List.all_cons]
    by_cases hx : (nth xs i == nth ys i) = true
    · simp [hx, ih]
    · simp [hx]
theorem all_nth (xs ys : List Int) (n : Nat) (ha : xs.length = n) (hb : ys.length = n) : ((List.range n).all fun i => nth xs i == nth ys i) = decide (xs = ys) := by
  rw [Bool.eq_iff_iff]
  simp only [List.all_eq_true, List.mem_range, beq_iff_eq, decide_eq_true_eq]
  constructor
  · intro h
    apply List.ext_getElem (ha.trans hb.symm)
    intro i h1 h2
    have := h i (by omega)
    simpa [nth, h1, h2] using this
  · intro h i _; rw [h]
theorem run_eql_ints {P : Program} (w : World) {t e : TypeId} {k : IntKind} {n : Nat} {i : TypeInfo} (hu : P.underlying t = some (.array n e)) (he : P.underlying e = some (.int k)) (hi : P.info? e = some i) (hs : i.size = 1)
    (xs ys : List Int) (ha : xs.length = n) (hb : ys.length = n) :
    (binOp .eql t (.agg (xs.map (Value.int k)).toArray) (.agg (ys.map (Value.int k)).toArray)).run P w = .ok (.bool (decide (xs = ys))) w := by
  have hc : P.cellsOf e = 1 := by simp [Program.cellsOf, hi, hs]
  have h1 : (Op.equalIn (9999 + 1) t (.agg (xs.map (Value.int k)).toArray) (.agg (ys.map (Value.int k)).toArray)).run P w = .ok (decide (xs = ys)) w := by
    rw [run_equalIn_array w 9999 _ _ hu hi, hc, eqItems_ints w 9998 he xs ys (List.range n) (fun j hj => by simp at hj; omega), all_nth xs ys n ha hb]
  have hg : (binOp .eql t (.agg (xs.map (Value.int k)).toArray) (.agg (ys.map (Value.int k)).toArray)).run P w = ((Op.equalIn 10000 t (.agg (xs.map (Value.int k)).toArray) (.agg (ys.map (Value.int k)).toArray)).run P w).andThen fun b w' => .ok (.bool b) w' := run_eql_struct w t _ _
  rw [hg, h1]; rfl

end Go.Proofs.YtlamdhekjlnccaaGreatDoor
