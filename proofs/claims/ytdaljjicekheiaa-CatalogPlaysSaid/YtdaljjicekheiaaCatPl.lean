/- The law CatalogPlays: walked (printed by gen_catpl.py). -/
import Derived.Test.YtdaljjicekheiaaCtC
import Derived.Test.YtdaljjicekheiaaCtT
import Derived.Test.YtdaljjicekheiaaCrE
import Derived.Test.YtdaljjicekheiaaCatJ
import Derived.Test.YtdaljjicekheiaaCatHeavy
namespace Go.Proofs.Ytdaljjicekheiaa
open Go.RowKit
namespace Cr
open K Cat
/-- Both catalogs, between two steps. -/
structure Pl (w0 w : World) (c rc n : Nat) (L : List Tb) (O O' : Nat → Prop) : Prop where
  cat : IsCat w c O n L
  ref : RCat w rc O' L
  sep : ∀ b, O b → ¬ O' b
  o : ∀ b, O b → w0.heap.size ≤ b
  o' : ∀ b, O' b → w0.heap.size ≤ b
  bel : Below w0.heap.size w0 w
theorem Pl.below {w0 w w' : World} {c rc n : Nat} {L : List Tb} {O O' : Nat → Prop} (h : Pl w0 w c rc n L O O') (hb : Below w.heap.size w w') : Pl w0 w' c rc n L O O' :=
  ⟨h.cat.below hb (Nat.le_refl _), h.ref.below hb, h.sep, h.o, h.o', h.bel.trans (hb.mono h.bel.size)⟩
theorem Pl.both {w0 w w1 w2 : World} {c rc n k : Nat} {L L' : List Tb} {O O' O1 O2 : Nat → Prop} (h : Pl w0 w c rc n L O O') (a : IsCat w1 c O1 k L') (ak : Keep (fun b => b < w.heap.size ∧ ¬ O b) w w1) (ao : ∀ b, O1 b → O b ∨ w.heap.size ≤ b)
    (r : RCat w2 rc O2 L') (rk : Keep (fun b => b < w1.heap.size ∧ ¬ O' b) w1 w2) (ro : ∀ b, O2 b → O' b ∨ w1.heap.size ≤ b) : Pl w0 w2 c rc k L' O1 O2 := by
  have z := h.bel.size
  have z1 := ak.size
  have l1 := a.lt
  have l' := h.ref.lt
  have s : ∀ b, O1 b → ¬ O' b := fun b hb hb' => (ao b hb).elim (fun hh => h.sep b hh hb') (fun hh => by have := l' b hb'; omega)
  refine ⟨a.keep rk fun b hb => ⟨l1 b hb, s b hb⟩, r, fun b hb hb2 => ?_, fun b hb => (ao b hb).elim (h.o b) (fun hh => by omega), fun b hb => (ro b hb).elim (h.o' b) (fun hh => by omega), ?_⟩
  · rcases ro b hb2 with hh | hh
    · exact s b hb hh
    · have := l1 b hb; omega
  · exact (((Keep.of_below h.bel).trans (ak.mono fun b (hb : b < w0.heap.size) => ⟨by omega, fun hh => by have := h.o b hh; omega⟩)).trans (rk.mono fun b (hb : b < w0.heap.size) => ⟨by omega, fun hh => by have := h.o' b hh; omega⟩)).below
/-- The document's catalog stands while the program's is written. -/
theorem Pl.ref1 {w0 w w1 : World} {c rc n : Nat} {L : List Tb} {O O' : Nat → Prop} (h : Pl w0 w c rc n L O O') (ak : Keep (fun b => b < w.heap.size ∧ ¬ O b) w w1) : RCat w1 rc O' L :=
  h.ref.keep ak fun b hb => ⟨h.ref.lt b hb, fun hh => h.sep b hh hb⟩
theorem Pl.bel1 {w0 w w1 : World} {c rc n : Nat} {L : List Tb} {O O' : Nat → Prop} (h : Pl w0 w c rc n L O O') (ak : Keep (fun b => b < w.heap.size ∧ ¬ O b) w w1) : Below w0.heap.size w0 w1 := by
  have z := h.bel.size
  exact ((Keep.of_below h.bel).trans (ak.mono fun b (hb : b < w0.heap.size) => ⟨by omega, fun hh => by have := h.o b hh; omega⟩)).below
/-- Two answers, each in a block. -/
def Two (w : World) (r : Int × Tb × Int) (ga gb : Nat) : Prop :=
  ∃ va vb O1 O2, VBlk cbT w ga [.int .i64 r.1, .string r.2.1.name, .bool r.2.1.dropped, va] ∧ OwnV ixT 1 w O1 va r.2.1.fs.length (r.2.1.fs.map Value.string) ∧ VBlk rtT w gb [.int .i64 r.1, .string r.2.1.name, .bool r.2.1.dropped, vb] ∧ OwnV stT 1 w O2 vb r.2.1.fs.length (r.2.1.fs.map Value.string)
abbrev enT : Nat := 37
def entC (k : Int) (tx : ByteArray) (tb : Int) : List Value := [.int .i64 k, .string tx, .int .i64 tb, .int .i64 0, .int .i64 0, .int .i64 0, .int .i64 0, .int .i64 0, .string ByteArray.empty, .slice none 0 0, .slice none 0 0] ++ List.replicate 32 (.int .u8 0) ++ [.bool false, .int .i64 0, .int .i64 0]
theorem built_drop (tb : Int) : Try.prog.built enT [(0, .int .i64 6), (2, .int .i64 tb)] = some (entC 6 ByteArray.empty tb).toArray := by kernel_rfl
theorem ent_drop {tb : Int} (h : (Lit.int .i64 tb).wf = true) : Ent (entC 6 ByteArray.empty tb).toArray 6 ByteArray.empty tb := ⟨rfl, rfl, rfl, rfl, by decide +kernel, h⟩
def spoilt : ByteArray := ⟨#[115, 112, 111, 105, 108, 116]⟩
theorem built_ix : Try.prog.built enT [(0, .int .i64 7), (2, .int .i64 1), (1, .string spoilt)] = some (entC 7 spoilt 1).toArray := by kernel_rfl
theorem ent_ix : Ent (entC 7 spoilt 1).toArray 7 spoilt 1 := ⟨rfl, rfl, rfl, rfl, by decide +kernel, by decide⟩
theorem zeroCb (w : World) : (zeroValue cbT).run Try.prog w = .ok (.agg zTab.toArray) w := by kernel_rfl
theorem dbl (d : Bool) : (!(d == d)) = false := by cases d <;> rfl
theorem rowed {w5 w6 w7 : World} {g T : Nat} {cs' : List Value} (cs : List Value) (b6 : Below w5.heap.size w5 w6) (f : Fresh w6 g w7 T cs') : VBlk T (w7.setRow g cs.toArray) g cs ∧ Below w5.heap.size w5 (w7.setRow g cs.toArray) ∧ Below w6.heap.size w6 (w7.setRow g cs.toArray) ∧ w6.heap.size ≤ g := by
  have e := f.eq
  have z := b6.size
  exact ⟨f.blk.setRow cs, (keepRow (Keep.of_below (b6.trans (f.below.mono z))) (fun hh => by omega) _).below, (keepRow (Keep.of_below f.below) (fun hh => by omega) _).below, by omega⟩
theorem Pl.poke {w0 w : World} {c rc n : Nat} {L : List Tb} {O O' : Nat → Prop} (h : Pl w0 w c rc n L O O') {p : Addr} (hp : ¬ O p.block ∧ ¬ O' p.block ∧ w0.heap.size ≤ p.block) (v : Value) : Pl w0 (w.setCell p v) c rc n L O O' := by
  have hk : Keep (fun b => b ≠ p.block) w (w.setCell p v) := (Keep.refl _ _).setCell (by simp) _
  refine ⟨h.cat.keep hk fun b hb e => hp.1 (e ▸ hb), h.ref.keep hk fun b hb e => hp.2.1 (e ▸ hb), h.sep, h.o, h.o', ?_⟩
  exact ((Keep.of_below h.bel).trans (hk.mono fun b (hb : b < w0.heap.size) e => by have := hp.2.2; omega)).below
/-- While another catalog's blocks are written. -/
theorem Pl.aside {w0 w w' : World} {c rc n : Nat} {L : List Tb} {O O' X : Nat → Prop} (h : Pl w0 w c rc n L O O') (hk : Keep (fun b => b < w.heap.size ∧ ¬ X b) w w') (h1 : ∀ b, X b → ¬ O b ∧ ¬ O' b ∧ w0.heap.size ≤ b) : Pl w0 w' c rc n L O O' := by
  have z := h.bel.size
  have l1 := h.cat.lt
  have l2 := h.ref.lt
  exact ⟨h.cat.keep hk fun b hb => ⟨l1 b hb, fun hh => (h1 b hh).1 hb⟩, h.ref.keep hk fun b hb => ⟨l2 b hb, fun hh => (h1 b hh).2.1 hb⟩, h.sep, h.o, h.o',
    ((Keep.of_below h.bel).trans (hk.mono fun b (hb : b < w0.heap.size) => ⟨by omega, fun hh => by have := (h1 b hh).2.2; omega⟩)).below⟩
set_option maxRecDepth 100000 in
set_option maxHeartbeats 16000000 in
theorem plays14_law {w : World} {v : Value} {l : List En} (h : Ents w v l) (copies : Int) (field : ByteArray) : Calls Try.prog 5 #[v, .int .i64 copies, .string field] w fun e w' => e = .returned (.bool true) ∧ Below w.heap.size w w' := by
  obtain ⟨sp, cap, rfl, -, -, -, -⟩ := id h
  refine enter (args := [.slice sp l.length cap, .int .i64 copies, .string field]) Try.func5 rfl Try.ntmps5 rfl ?_
  have kn : ∀ {wx : World} {r : Ending} {wy : World}, Below w.heap.size w wx → (r = .returned (.bool true) ∧ Below wx.heap.size wx wy) → Below w.heap.size w wy := fun h1 h2 => h1.trans (h2.2.mono h1.size)
  repeat (first | ((with_reducible refine WL.topT ?_ ?_); omega) | ((with_reducible refine WL.topF ?_ ?_); omega) | ((with_reducible refine WL.top64 ?_ ?_); omega) | refine WC.seq ?_ | refine WC.block ?_ | refine WC.region ?_ | refine WL.nil ?_ | refine WC.skip ?_ | refine WC.exit ?_ | refine WC.ret ?_ | refine WQ.then rfl ?_ | refine WQ.thenExit ?_ | refine WQ.thenRet ?_ | refine WQ.blk ?_ | refine WQ.blkRet ?_ | refine WQ.blkHere rfl ?_ | refine WQ.blkOther rfl ?_ | refine WL.pure rfl rfl rfl rfl ?_ | refine WL.on rfl rfl ?_ | refine WL.off rfl rfl rfl ?_ | refine WC.condTrue rfl ?_ | refine WC.condFalse rfl ?_)
  refine WL.call rfl rfl rfl rfl rfl Try.func10 rfl (by kernel_rfl) (heavy_any w h) ?_
  rintro _ w ⟨hv, rfl, rfl⟩
  refine ⟨_, rfl, ?_⟩
  cases hv with
  | true =>
    repeat (first | ((with_reducible refine WL.topT ?_ ?_); omega) | ((with_reducible refine WL.topF ?_ ?_); omega) | ((with_reducible refine WL.top64 ?_ ?_); omega) | refine WC.seq ?_ | refine WC.block ?_ | refine WC.region ?_ | refine WL.nil ?_ | refine WC.skip ?_ | refine WC.exit ?_ | refine WC.ret ?_ | refine WQ.then rfl ?_ | refine WQ.thenExit ?_ | refine WQ.thenRet ?_ | refine WQ.blk ?_ | refine WQ.blkRet ?_ | refine WQ.blkHere rfl ?_ | refine WQ.blkOther rfl ?_ | refine WL.pure rfl rfl rfl rfl ?_ | refine WL.on rfl rfl ?_ | refine WL.off rfl rfl rfl ?_ | refine WC.condTrue rfl ?_ | refine WC.condFalse rfl ?_)
    refine WL.call rfl rfl rfl rfl rfl Try.func7 rfl (by kernel_rfl) (known_any w) ?_
    rintro _ w1 ⟨rfl, hb1⟩
    refine ⟨_, rfl, ?_⟩
    repeat (first | ((with_reducible refine WL.topT ?_ ?_); omega) | ((with_reducible refine WL.topF ?_ ?_); omega) | ((with_reducible refine WL.top64 ?_ ?_); omega) | refine WC.seq ?_ | refine WC.block ?_ | refine WC.region ?_ | refine WL.nil ?_ | refine WC.skip ?_ | refine WC.exit ?_ | refine WC.ret ?_ | refine WQ.then rfl ?_ | refine WQ.thenExit ?_ | refine WQ.thenRet ?_ | refine WQ.blk ?_ | refine WQ.blkRet ?_ | refine WQ.blkHere rfl ?_ | refine WQ.blkOther rfl ?_ | refine WL.pure rfl rfl rfl rfl ?_ | refine WL.on rfl rfl ?_ | refine WL.off rfl rfl rfl ?_ | refine WC.condTrue rfl ?_ | refine WC.condFalse rfl ?_)
    exact WQ.ret1 rfl rfl ⟨rfl, hb1⟩
  | false =>
  by_cases hf : 500 < field.size
  · repeat (first | ((with_reducible refine WL.topT ?_ ?_); omega) | ((with_reducible refine WL.topF ?_ ?_); omega) | ((with_reducible refine WL.top64 ?_ ?_); omega) | refine WC.seq ?_ | refine WC.block ?_ | refine WC.region ?_ | refine WL.nil ?_ | refine WC.skip ?_ | refine WC.exit ?_ | refine WC.ret ?_ | refine WQ.then rfl ?_ | refine WQ.thenExit ?_ | refine WQ.thenRet ?_ | refine WQ.blk ?_ | refine WQ.blkRet ?_ | refine WQ.blkHere rfl ?_ | refine WQ.blkOther rfl ?_ | refine WL.pure rfl rfl rfl rfl ?_ | refine WL.on rfl rfl ?_ | refine WL.off rfl rfl rfl ?_ | refine WC.condTrue rfl ?_ | refine WC.condFalse rfl ?_)
    refine WL.call rfl rfl rfl rfl rfl Try.func7 rfl (by kernel_rfl) (known_any w) ?_
    rintro _ w1 ⟨rfl, hb1⟩
    refine ⟨_, rfl, ?_⟩
    repeat (first | ((with_reducible refine WL.topT ?_ ?_); omega) | ((with_reducible refine WL.topF ?_ ?_); omega) | ((with_reducible refine WL.top64 ?_ ?_); omega) | refine WC.seq ?_ | refine WC.block ?_ | refine WC.region ?_ | refine WL.nil ?_ | refine WC.skip ?_ | refine WC.exit ?_ | refine WC.ret ?_ | refine WQ.then rfl ?_ | refine WQ.thenExit ?_ | refine WQ.thenRet ?_ | refine WQ.blk ?_ | refine WQ.blkRet ?_ | refine WQ.blkHere rfl ?_ | refine WQ.blkOther rfl ?_ | refine WL.pure rfl rfl rfl rfl ?_ | refine WL.on rfl rfl ?_ | refine WL.off rfl rfl rfl ?_ | refine WC.condTrue rfl ?_ | refine WC.condFalse rfl ?_)
    exact WQ.ret1 rfl rfl ⟨rfl, hb1⟩
  repeat (first | ((with_reducible refine WL.topT ?_ ?_); omega) | ((with_reducible refine WL.topF ?_ ?_); omega) | ((with_reducible refine WL.top64 ?_ ?_); omega) | refine WC.seq ?_ | refine WC.block ?_ | refine WC.region ?_ | refine WL.nil ?_ | refine WC.skip ?_ | refine WC.exit ?_ | refine WC.ret ?_ | refine WQ.then rfl ?_ | refine WQ.thenExit ?_ | refine WQ.thenRet ?_ | refine WQ.blk ?_ | refine WQ.blkRet ?_ | refine WQ.blkHere rfl ?_ | refine WQ.blkOther rfl ?_ | refine WL.pure rfl rfl rfl rfl ?_ | refine WL.on rfl rfl ?_ | refine WL.off rfl rfl rfl ?_ | refine WC.condTrue rfl ?_ | refine WC.condFalse rfl ?_)
  refine WL.call rfl rfl rfl rfl rfl Try.func8 rfl (by kernel_rfl) (new_any w) ?_
  rintro _ w1 ⟨Oc, rfl, hc1, hb1, ho1⟩
  refine ⟨_, rfl, ?_⟩
  generalize w.heap.size + 1 = c0 at hc1 ⊢
  repeat (first | ((with_reducible refine WL.topT ?_ ?_); omega) | ((with_reducible refine WL.topF ?_ ?_); omega) | ((with_reducible refine WL.top64 ?_ ?_); omega) | refine WC.seq ?_ | refine WC.block ?_ | refine WC.region ?_ | refine WL.nil ?_ | refine WC.skip ?_ | refine WC.exit ?_ | refine WC.ret ?_ | refine WQ.then rfl ?_ | refine WQ.thenExit ?_ | refine WQ.thenRet ?_ | refine WQ.blk ?_ | refine WQ.blkRet ?_ | refine WQ.blkHere rfl ?_ | refine WQ.blkOther rfl ?_ | refine WL.pure rfl rfl rfl rfl ?_ | refine WL.on rfl rfl ?_ | refine WL.off rfl rfl rfl ?_ | refine WC.condTrue rfl ?_ | refine WC.condFalse rfl ?_)
  refine WL.nilP rfl rfl rfl rfl rfl rfl (by kernel_rfl) ?_
  repeat (first | ((with_reducible refine WL.topT ?_ ?_); omega) | ((with_reducible refine WL.topF ?_ ?_); omega) | ((with_reducible refine WL.top64 ?_ ?_); omega) | refine WC.seq ?_ | refine WC.block ?_ | refine WC.region ?_ | refine WL.nil ?_ | refine WC.skip ?_ | refine WC.exit ?_ | refine WC.ret ?_ | refine WQ.then rfl ?_ | refine WQ.thenExit ?_ | refine WQ.thenRet ?_ | refine WQ.blk ?_ | refine WQ.blkRet ?_ | refine WQ.blkHere rfl ?_ | refine WQ.blkOther rfl ?_ | refine WL.pure rfl rfl rfl rfl ?_ | refine WL.on rfl rfl ?_ | refine WL.off rfl rfl rfl ?_ | refine WC.condTrue rfl ?_ | refine WC.condFalse rfl ?_)
  refine WL.build [Value.slice none 0 0] rfl rfl rfl rfl rfl builtRC ?_
  refine WL.box rfl rfl rfl rfl rfl fun rc0 w2 f2 => ?_
  have hP : Pl w w2 c0 rc0 0 [] Oc (fun b => b = rc0) := ⟨hc1.below f2.below (Nat.le_refl _), ⟨.slice none 0 0, [], f2.blk, OwnV.nil _ _ _ _, fun i hi => absurd hi (Nat.not_lt_zero i), rfl, fun b hb => by rw [hb]; exact f2.blk.lt, ⟨by simp, fun i hi => absurd hi (Nat.not_lt_zero i)⟩⟩,
    fun b hb e => by have := hc1.lt b hb; have := f2.eq; omega, ho1, fun b hb => by have := f2.eq; have := hb1.size; omega, hb1.trans (f2.below.mono hb1.size)⟩
  clear f2 hc1 ho1 hb1 w1
  repeat (first | ((with_reducible refine WL.topT ?_ ?_); omega) | ((with_reducible refine WL.topF ?_ ?_); omega) | ((with_reducible refine WL.top64 ?_ ?_); omega) | refine WC.seq ?_ | refine WC.block ?_ | refine WC.region ?_ | refine WL.nil ?_ | refine WC.skip ?_ | refine WC.exit ?_ | refine WC.ret ?_ | refine WQ.then rfl ?_ | refine WQ.thenExit ?_ | refine WQ.thenRet ?_ | refine WQ.blk ?_ | refine WQ.blkRet ?_ | refine WQ.blkHere rfl ?_ | refine WQ.blkOther rfl ?_ | refine WL.pure rfl rfl rfl rfl ?_ | refine WL.on rfl rfl ?_ | refine WL.off rfl rfl rfl ?_ | refine WC.condTrue rfl ?_ | refine WC.condFalse rfl ?_)
  refine WC.loop (fun x : Nat × Nat × Nat => [(0, .slice sp l.length cap), (1, .int .i64 copies), (2, .string field), (7, .pointer (some ⟨x.2.1, 0, none⟩)), (8, .pointer (some ⟨x.2.2, 0, none⟩)), (9, .int .i64 x.1)])
    (fun x w' => x.1 ≤ 150 ∧ x.1 ≤ l.length ∧ ∃ L O O', Pl w w' x.2.1 x.2.2 x.1 L O O') (fun x => 150 - x.1) (0, c0, rc0) ⟨rfl, rfl, rfl, rfl, rfl, rfl, trivial⟩ ⟨by show 0 ≤ 150; omega, Nat.zero_le _, _, _, _, hP⟩ ?_
  clear hP
  rintro ⟨i, c, rc⟩ wr ⟨hi, hil, L, O, O', hP⟩
  simp only at hi hil hP
  by_cases hgo : i < l.length ∧ i < 150
  · obtain ⟨hil', hi'⟩ := hgo
    clear hi hil
    obtain ⟨b, o, cap', es, -, -, hlt, hok, hrow, x0, x1, x2⟩ := ents_at h i hil'
    obtain ⟨rfl, rfl⟩ : sp = some ⟨b, o, none⟩ ∧ cap = cap' := by simpa using es
    clear es
    generalize l.getD i noEn = en at hok hrow x0 x1 x2
    have hE : Ent en.cs en.kind en.txt en.tbl := hok
    obtain ⟨cs, kind, txt, tbl⟩ := en
    simp only at hE hrow x0 x1 x2
    clear hok
    have hG0 := hP.cat.good
    repeat (first | ((with_reducible refine WL.topT ?_ ?_); omega) | ((with_reducible refine WL.topF ?_ ?_); omega) | ((with_reducible refine WL.top64 ?_ ?_); omega) | refine WC.seq ?_ | refine WC.block ?_ | refine WC.region ?_ | refine WL.nil ?_ | refine WC.skip ?_ | refine WC.exit ?_ | refine WC.ret ?_ | refine WQ.then rfl ?_ | refine WQ.thenExit ?_ | refine WQ.thenRet ?_ | refine WQ.blk ?_ | refine WQ.blkRet ?_ | refine WQ.blkHere rfl ?_ | refine WQ.blkOther rfl ?_ | refine WL.pure rfl rfl rfl rfl ?_ | refine WL.on rfl rfl ?_ | refine WL.off rfl rfl rfl ?_ | refine WC.condTrue rfl ?_ | refine WC.condFalse rfl ?_)
    refine WC.drawn 11 (fun wx => Below w.heap.size w wx) fun w3 hd => ?_
    have hP3 := hP.below (hd.below _)
    have hS := hP3.bel
    have rg : ∀ {wx : World}, Below w.heap.size w wx → wx.rangeAt b (o + i * 46) cs.toList := fun hx k u hu => (hx.cell (p := ⟨b, o + i * 46 + k, none⟩) hlt).trans (hrow k u hu)
    clear hP hd
    have hcsl : cs.toList.length = 46 := by simpa using hE.hsz
    (((first | refine WD.free 0 rfl (by kernel_rfl) rfl rfl (fun _ _ _ _ _ h => h) rfl rfl (.inr hS) ?_ | refine WD.skip 0 rfl (by kernel_rfl) rfl rfl (fun _ _ _ _ _ h => h) rfl (.inr hS) ?_); try (first | ((with_reducible refine WD.topT ?_ ?_); omega) | ((with_reducible refine WD.topF ?_ ?_); omega) | ((with_reducible refine WD.top64 ?_ ?_); omega))); ((first | refine WD.free 1 rfl (by kernel_rfl) rfl rfl (fun _ _ _ _ _ h => h) rfl rfl (.inr hS) ?_ | refine WD.skip 1 rfl (by kernel_rfl) rfl rfl (fun _ _ _ _ _ h => h) rfl (.inr hS) ?_); try (first | ((with_reducible refine WD.topT ?_ ?_); omega) | ((with_reducible refine WD.topF ?_ ?_); omega) | ((with_reducible refine WD.top64 ?_ ?_); omega))); ((first | refine WD.free 2 rfl (by kernel_rfl) rfl rfl (fun _ _ _ _ _ h => h) rfl rfl (.inr hS) ?_ | refine WD.skip 2 rfl (by kernel_rfl) rfl rfl (fun _ _ _ _ _ h => h) rfl (.inr hS) ?_); try (first | ((with_reducible refine WD.topT ?_ ?_); omega) | ((with_reducible refine WD.topF ?_ ?_); omega) | ((with_reducible refine WD.top64 ?_ ?_); omega))))
    refine WD.idx 3 i (o + i * 46) rfl (by kernel_rfl) rfl rfl (fun _ _ _ _ _ h => h) rfl rfl rfl rfl rfl rfl hil' rfl (.inr hS) ?_
    refine WD.loadMid 4 [5, 11, 12] rfl (by kernel_rfl) rfl rfl (fun _ _ _ _ _ h => h) rfl rfl rfl rfl (fun wx hx => rg hx) hcsl hS ?_
    (((first | refine WD.free 6 rfl (by kernel_rfl) rfl rfl (fun _ _ _ _ _ h => h) rfl rfl (.inr hS) ?_ | refine WD.skip 6 rfl (by kernel_rfl) rfl rfl (fun _ _ _ _ _ h => h) rfl (.inr hS) ?_); try (first | ((with_reducible refine WD.topT ?_ ?_); omega) | ((with_reducible refine WD.topF ?_ ?_); omega) | ((with_reducible refine WD.top64 ?_ ?_); omega))); ((first | refine WD.free 7 rfl (by kernel_rfl) rfl rfl (fun _ _ _ _ _ h => h) rfl rfl (.inr hS) ?_ | refine WD.skip 7 rfl (by kernel_rfl) rfl rfl (fun _ _ _ _ _ h => h) rfl (.inr hS) ?_); try (first | ((with_reducible refine WD.topT ?_ ?_); omega) | ((with_reducible refine WD.topF ?_ ?_); omega) | ((with_reducible refine WD.top64 ?_ ?_); omega))); ((first | refine WD.free 8 rfl (by kernel_rfl) rfl rfl (fun _ _ _ _ _ h => h) rfl rfl (.inr hS) ?_ | refine WD.skip 8 rfl (by kernel_rfl) rfl rfl (fun _ _ _ _ _ h => h) rfl (.inr hS) ?_); try (first | ((with_reducible refine WD.topT ?_ ?_); omega) | ((with_reducible refine WD.topF ?_ ?_); omega) | ((with_reducible refine WD.top64 ?_ ?_); omega))))
    refine WD.idx 9 i (o + i * 46) rfl (by kernel_rfl) rfl rfl (fun _ _ _ _ _ h => h) rfl rfl rfl rfl rfl rfl hil' rfl (.inr hS) ?_
    refine WD.loadMid 10 [11, 12] rfl (by kernel_rfl) rfl rfl (fun _ _ _ _ _ h => h) rfl rfl rfl rfl (fun wx hx => rg hx) hcsl hS ?_
    refine WD.one 5 (by kernel_rfl) rfl ?_
    refine WL.call rfl rfl rfl rfl rfl Try.func9 rfl (by kernel_rfl) (apply_any hP3.cat hE (by omega)) ?_
    rintro _ w4 ⟨O1, rfl, hc4, k4, o4⟩
    refine ⟨_, rfl, ?_⟩
    have hS4 := hP3.bel1 k4
    refine WL.nil (WQ.dk (.inr hS4) ?_)
    refine WD.one 11 (by kernel_rfl) rfl ?_
    refine WL.call rfl rfl rfl rfl rfl Try.func13 rfl (by kernel_rfl) (rapply_any (hP3.ref1 k4) hE) ?_
    rintro _ w5 ⟨O2, rfl, hr5, k5, o5⟩
    refine ⟨_, rfl, ?_⟩
    refine WL.nil (WQ.dk (.inl rfl) ?_)
    have hP5 := hP3.both hc4 k4 o4 hr5 k5 o5
    clear hP3 hS hS4 hc4 k4 o4 hr5 k5 o5
    generalize appC L kind txt tbl = code
    generalize appL L kind txt tbl = L at hP5
    (((first | refine WD.free 12 rfl (by kernel_rfl) rfl rfl (fun _ _ _ _ _ h => h) rfl rfl (.inl rfl) ?_ | refine WD.skip 12 rfl (by kernel_rfl) rfl rfl (fun _ _ _ _ _ h => h) rfl (.inl rfl) ?_); try (first | ((with_reducible refine WD.topT ?_ ?_); omega) | ((with_reducible refine WD.topF ?_ ?_); omega) | ((with_reducible refine WD.top64 ?_ ?_); omega))))
    refine WD.done (by kernel_rfl) ?_
    repeat (first | ((with_reducible refine WL.topT ?_ ?_); omega) | ((with_reducible refine WL.topF ?_ ?_); omega) | ((with_reducible refine WL.top64 ?_ ?_); omega) | refine WC.seq ?_ | refine WC.block ?_ | refine WC.region ?_ | refine WL.nil ?_ | refine WC.skip ?_ | refine WC.exit ?_ | refine WC.ret ?_ | refine WQ.then rfl ?_ | refine WQ.thenExit ?_ | refine WQ.thenRet ?_ | refine WQ.blk ?_ | refine WQ.blkRet ?_ | refine WQ.blkHere rfl ?_ | refine WQ.blkOther rfl ?_ | refine WL.pure rfl rfl rfl rfl ?_ | refine WL.on rfl rfl ?_ | refine WL.off rfl rfl rfl ?_ | refine WC.condTrue rfl ?_ | refine WC.condFalse rfl ?_)
    have y6 := (hP5.bel.cell (p := ⟨b, o + i * 46 + 1, none⟩) hlt).trans x1
    refine WL.idx i (o + i * 46) rfl rfl rfl rfl rfl rfl rfl rfl hil' rfl ?_
    repeat (first | ((with_reducible refine WL.topT ?_ ?_); omega) | ((with_reducible refine WL.topF ?_ ?_); omega) | ((with_reducible refine WL.top64 ?_ ?_); omega) | refine WC.seq ?_ | refine WC.block ?_ | refine WC.region ?_ | refine WL.nil ?_ | refine WC.skip ?_ | refine WC.exit ?_ | refine WC.ret ?_ | refine WQ.then rfl ?_ | refine WQ.thenExit ?_ | refine WQ.thenRet ?_ | refine WQ.blk ?_ | refine WQ.blkRet ?_ | refine WQ.blkHere rfl ?_ | refine WQ.blkOther rfl ?_ | refine WL.pure rfl rfl rfl rfl ?_ | refine WL.on rfl rfl ?_ | refine WL.off rfl rfl rfl ?_ | refine WL.load rfl rfl rfl rfl rfl rfl (by assumption) ?_ | refine WC.condTrue rfl ?_ | refine WC.condFalse rfl ?_)
    refine WL.call rfl rfl rfl rfl rfl Try.func12 rfl (by kernel_rfl) (find_any hP5.cat txt) ?_
    rintro _ wa6 ⟨sp6, c6, rfl, ho6, e6⟩
    refine ⟨_, rfl, ?_⟩
    repeat (first | ((with_reducible refine WL.topT ?_ ?_); omega) | ((with_reducible refine WL.topF ?_ ?_); omega) | ((with_reducible refine WL.top64 ?_ ?_); omega) | refine WC.seq ?_ | refine WC.block ?_ | refine WC.region ?_ | refine WL.nil ?_ | refine WC.skip ?_ | refine WC.exit ?_ | refine WC.ret ?_ | refine WQ.then rfl ?_ | refine WQ.thenExit ?_ | refine WQ.thenRet ?_ | refine WQ.blk ?_ | refine WQ.blkRet ?_ | refine WQ.blkHere rfl ?_ | refine WQ.blkOther rfl ?_ | refine WL.pure rfl rfl rfl rfl ?_ | refine WL.on rfl rfl ?_ | refine WL.off rfl rfl rfl ?_ | refine WC.condTrue rfl ?_ | refine WC.condFalse rfl ?_)
    refine WL.alloc (z := .agg zTab.toArray) rfl rfl rfl rfl zeroCb fun g10 wb6 f6 => ?_
    refine WL.storeRow rfl rfl rfl rfl rfl rfl f6.blk rfl rfl (ones4 (by first | rfl | exact OwnV.one ho6)) ?_
    obtain ⟨v6, b6, d6, q6⟩ := rowed [.int .i64 (findR L txt).1, .string (findR L txt).2.1.name, .bool (findR L txt).2.1.dropped, .slice sp6 (findR L txt).2.1.fs.length c6] e6 f6
    replace ho6 := ho6.keep (Keep.of_below d6) (fun g hg => ho6.lt hg)
    have lv6 := VBlk.lt v6
    generalize wb6.setRow g10 _ = w6 at v6 b6 ho6 lv6 ⊢
    clear f6 d6 y6 e6
    have hP5' := hP5.below b6
    repeat (first | ((with_reducible refine WL.topT ?_ ?_); omega) | ((with_reducible refine WL.topF ?_ ?_); omega) | ((with_reducible refine WL.top64 ?_ ?_); omega) | refine WC.seq ?_ | refine WC.block ?_ | refine WC.region ?_ | refine WL.nil ?_ | refine WC.skip ?_ | refine WC.exit ?_ | refine WC.ret ?_ | refine WQ.then rfl ?_ | refine WQ.thenExit ?_ | refine WQ.thenRet ?_ | refine WQ.blk ?_ | refine WQ.blkRet ?_ | refine WQ.blkHere rfl ?_ | refine WQ.blkOther rfl ?_ | refine WL.pure rfl rfl rfl rfl ?_ | refine WL.on rfl rfl ?_ | refine WL.off rfl rfl rfl ?_ | refine WC.condTrue rfl ?_ | refine WC.condFalse rfl ?_)
    replace hP5 := hP5'
    clear hP5'
    have y7 := (hP5.bel.cell (p := ⟨b, o + i * 46 + 1, none⟩) hlt).trans x1
    refine WL.idx i (o + i * 46) rfl rfl rfl rfl rfl rfl rfl rfl hil' rfl ?_
    repeat (first | ((with_reducible refine WL.topT ?_ ?_); omega) | ((with_reducible refine WL.topF ?_ ?_); omega) | ((with_reducible refine WL.top64 ?_ ?_); omega) | refine WC.seq ?_ | refine WC.block ?_ | refine WC.region ?_ | refine WL.nil ?_ | refine WC.skip ?_ | refine WC.exit ?_ | refine WC.ret ?_ | refine WQ.then rfl ?_ | refine WQ.thenExit ?_ | refine WQ.thenRet ?_ | refine WQ.blk ?_ | refine WQ.blkRet ?_ | refine WQ.blkHere rfl ?_ | refine WQ.blkOther rfl ?_ | refine WL.pure rfl rfl rfl rfl ?_ | refine WL.on rfl rfl ?_ | refine WL.off rfl rfl rfl ?_ | refine WL.load rfl rfl rfl rfl rfl rfl (by assumption) ?_ | refine WC.condTrue rfl ?_ | refine WC.condFalse rfl ?_)
    refine WL.call rfl rfl rfl rfl rfl Try.func14 rfl (by kernel_rfl) (rfind_any hP5.ref txt) ?_
    rintro _ wa7 ⟨fv7, rfl, ho7, e7⟩
    refine ⟨_, rfl, ?_⟩
    repeat (first | ((with_reducible refine WL.topT ?_ ?_); omega) | ((with_reducible refine WL.topF ?_ ?_); omega) | ((with_reducible refine WL.top64 ?_ ?_); omega) | refine WC.seq ?_ | refine WC.block ?_ | refine WC.region ?_ | refine WL.nil ?_ | refine WC.skip ?_ | refine WC.exit ?_ | refine WC.ret ?_ | refine WQ.then rfl ?_ | refine WQ.thenExit ?_ | refine WQ.thenRet ?_ | refine WQ.blk ?_ | refine WQ.blkRet ?_ | refine WQ.blkHere rfl ?_ | refine WQ.blkOther rfl ?_ | refine WL.pure rfl rfl rfl rfl ?_ | refine WL.on rfl rfl ?_ | refine WL.off rfl rfl rfl ?_ | refine WC.condTrue rfl ?_ | refine WC.condFalse rfl ?_)
    refine WL.alloc (z := .agg zTab.toArray) rfl rfl rfl rfl zeroRT fun g12 wb7 f7 => ?_
    refine WL.storeRow rfl rfl rfl rfl rfl rfl f7.blk rfl rfl (ones4 (by first | rfl | exact OwnV.one ho7)) ?_
    obtain ⟨v7, b7, d7, q7⟩ := rowed [.int .i64 (findR L txt).1, .string (findR L txt).2.1.name, .bool (findR L txt).2.1.dropped, fv7] e7 f7
    replace ho7 := ho7.keep (Keep.of_below d7) (fun g hg => ho7.lt hg)
    have lv7 := VBlk.lt v7
    generalize wb7.setRow g12 _ = w7 at v7 b7 ho7 lv7 ⊢
    clear f7 d7 y7 e7
    have hP5' := hP5.below b7
    repeat (first | ((with_reducible refine WL.topT ?_ ?_); omega) | ((with_reducible refine WL.topF ?_ ?_); omega) | ((with_reducible refine WL.top64 ?_ ?_); omega) | refine WC.seq ?_ | refine WC.block ?_ | refine WC.region ?_ | refine WL.nil ?_ | refine WC.skip ?_ | refine WC.exit ?_ | refine WC.ret ?_ | refine WQ.then rfl ?_ | refine WQ.thenExit ?_ | refine WQ.thenRet ?_ | refine WQ.blk ?_ | refine WQ.blkRet ?_ | refine WQ.blkHere rfl ?_ | refine WQ.blkOther rfl ?_ | refine WL.pure rfl rfl rfl rfl ?_ | refine WL.on rfl rfl ?_ | refine WL.off rfl rfl rfl ?_ | refine WC.condTrue rfl ?_ | refine WC.condFalse rfl ?_)
    replace hP5 := hP5'
    clear hP5'
    have sep8 : ∀ b, w7.heap.size ≤ b → ¬ O1 b ∧ ¬ O2 b ∧ w.heap.size ≤ b := fun b hb => ⟨fun hh => by have := hP5.cat.lt b hh; omega, fun hh => by have := hP5.ref.lt b hh; omega, by have := hP5.bel.size; omega⟩
    have ext : ∀ {wx : World}, Below w.heap.size w wx → wx.cell? ⟨b, o + i * 46 + 1, none⟩ = some (.string txt) := fun hx => (hx.cell (p := ⟨b, o + i * 46 + 1, none⟩) hlt).trans x1
    have exn : ∀ {wx : World}, Below w.heap.size w wx → wx.cell? ⟨b, o + i * 46 + 2, none⟩ = some (.int .i64 tbl) := fun hx => (hx.cell (p := ⟨b, o + i * 46 + 2, none⟩) hlt).trans x2
    have y8 := (hP5.bel.cell (p := ⟨b, o + i * 46 + 2, none⟩) hlt).trans x2
    refine WL.idx i (o + i * 46) rfl rfl rfl rfl rfl rfl rfl rfl hil' rfl ?_
    repeat (first | ((with_reducible refine WL.topT ?_ ?_); omega) | ((with_reducible refine WL.topF ?_ ?_); omega) | ((with_reducible refine WL.top64 ?_ ?_); omega) | refine WC.seq ?_ | refine WC.block ?_ | refine WC.region ?_ | refine WL.nil ?_ | refine WC.skip ?_ | refine WC.exit ?_ | refine WC.ret ?_ | refine WQ.then rfl ?_ | refine WQ.thenExit ?_ | refine WQ.thenRet ?_ | refine WQ.blk ?_ | refine WQ.blkRet ?_ | refine WQ.blkHere rfl ?_ | refine WQ.blkOther rfl ?_ | refine WL.pure rfl rfl rfl rfl ?_ | refine WL.on rfl rfl ?_ | refine WL.off rfl rfl rfl ?_ | refine WL.load rfl rfl rfl rfl rfl rfl (by assumption) ?_ | refine WC.condTrue rfl ?_ | refine WC.condFalse rfl ?_)
    refine WL.call rfl rfl rfl rfl rfl Try.func15 rfl (by kernel_rfl) (table_any hP5.cat tbl) ?_
    rintro _ wa8 ⟨sp8, c8, rfl, ho8, e8⟩
    refine ⟨_, rfl, ?_⟩
    repeat (first | ((with_reducible refine WL.topT ?_ ?_); omega) | ((with_reducible refine WL.topF ?_ ?_); omega) | ((with_reducible refine WL.top64 ?_ ?_); omega) | refine WC.seq ?_ | refine WC.block ?_ | refine WC.region ?_ | refine WL.nil ?_ | refine WC.skip ?_ | refine WC.exit ?_ | refine WC.ret ?_ | refine WQ.then rfl ?_ | refine WQ.thenExit ?_ | refine WQ.thenRet ?_ | refine WQ.blk ?_ | refine WQ.blkRet ?_ | refine WQ.blkHere rfl ?_ | refine WQ.blkOther rfl ?_ | refine WL.pure rfl rfl rfl rfl ?_ | refine WL.on rfl rfl ?_ | refine WL.off rfl rfl rfl ?_ | refine WC.condTrue rfl ?_ | refine WC.condFalse rfl ?_)
    refine WL.alloc (z := .agg zTab.toArray) rfl rfl rfl rfl zeroCb fun g14 wb8 f8 => ?_
    refine WL.storeRow rfl rfl rfl rfl rfl rfl f8.blk rfl rfl (ones4 (by first | rfl | exact OwnV.one ho8)) ?_
    obtain ⟨v8, b8, d8, q8⟩ := rowed [.int .i64 (tabR L tbl).1, .string (tabR L tbl).2.1.name, .bool (tabR L tbl).2.1.dropped, .slice sp8 (tabR L tbl).2.1.fs.length c8] e8 f8
    replace ho8 := ho8.keep (Keep.of_below d8) (fun g hg => ho8.lt hg)
    have lv8 := VBlk.lt v8
    generalize wb8.setRow g14 _ = w8 at v8 b8 ho8 lv8 ⊢
    clear f8 d8 y8 e8
    have hP5' := hP5.below b8
    repeat (first | ((with_reducible refine WL.topT ?_ ?_); omega) | ((with_reducible refine WL.topF ?_ ?_); omega) | ((with_reducible refine WL.top64 ?_ ?_); omega) | refine WC.seq ?_ | refine WC.block ?_ | refine WC.region ?_ | refine WL.nil ?_ | refine WC.skip ?_ | refine WC.exit ?_ | refine WC.ret ?_ | refine WQ.then rfl ?_ | refine WQ.thenExit ?_ | refine WQ.thenRet ?_ | refine WQ.blk ?_ | refine WQ.blkRet ?_ | refine WQ.blkHere rfl ?_ | refine WQ.blkOther rfl ?_ | refine WL.pure rfl rfl rfl rfl ?_ | refine WL.on rfl rfl ?_ | refine WL.off rfl rfl rfl ?_ | refine WC.condTrue rfl ?_ | refine WC.condFalse rfl ?_)
    replace hP5 := hP5'
    clear hP5'
    have y9 := (hP5.bel.cell (p := ⟨b, o + i * 46 + 2, none⟩) hlt).trans x2
    refine WL.idx i (o + i * 46) rfl rfl rfl rfl rfl rfl rfl rfl hil' rfl ?_
    repeat (first | ((with_reducible refine WL.topT ?_ ?_); omega) | ((with_reducible refine WL.topF ?_ ?_); omega) | ((with_reducible refine WL.top64 ?_ ?_); omega) | refine WC.seq ?_ | refine WC.block ?_ | refine WC.region ?_ | refine WL.nil ?_ | refine WC.skip ?_ | refine WC.exit ?_ | refine WC.ret ?_ | refine WQ.then rfl ?_ | refine WQ.thenExit ?_ | refine WQ.thenRet ?_ | refine WQ.blk ?_ | refine WQ.blkRet ?_ | refine WQ.blkHere rfl ?_ | refine WQ.blkOther rfl ?_ | refine WL.pure rfl rfl rfl rfl ?_ | refine WL.on rfl rfl ?_ | refine WL.off rfl rfl rfl ?_ | refine WL.load rfl rfl rfl rfl rfl rfl (by assumption) ?_ | refine WC.condTrue rfl ?_ | refine WC.condFalse rfl ?_)
    refine WL.call rfl rfl rfl rfl rfl Try.func16 rfl (by kernel_rfl) (rtable_any hP5.ref tbl) ?_
    rintro _ wa9 ⟨fv9, rfl, ho9, e9⟩
    refine ⟨_, rfl, ?_⟩
    repeat (first | ((with_reducible refine WL.topT ?_ ?_); omega) | ((with_reducible refine WL.topF ?_ ?_); omega) | ((with_reducible refine WL.top64 ?_ ?_); omega) | refine WC.seq ?_ | refine WC.block ?_ | refine WC.region ?_ | refine WL.nil ?_ | refine WC.skip ?_ | refine WC.exit ?_ | refine WC.ret ?_ | refine WQ.then rfl ?_ | refine WQ.thenExit ?_ | refine WQ.thenRet ?_ | refine WQ.blk ?_ | refine WQ.blkRet ?_ | refine WQ.blkHere rfl ?_ | refine WQ.blkOther rfl ?_ | refine WL.pure rfl rfl rfl rfl ?_ | refine WL.on rfl rfl ?_ | refine WL.off rfl rfl rfl ?_ | refine WC.condTrue rfl ?_ | refine WC.condFalse rfl ?_)
    refine WL.alloc (z := .agg zTab.toArray) rfl rfl rfl rfl zeroRT fun g16 wb9 f9 => ?_
    refine WL.storeRow rfl rfl rfl rfl rfl rfl f9.blk rfl rfl (ones4 (by first | rfl | exact OwnV.one ho9)) ?_
    obtain ⟨v9, b9, d9, q9⟩ := rowed [.int .i64 (tabR L tbl).1, .string (tabR L tbl).2.1.name, .bool (tabR L tbl).2.1.dropped, fv9] e9 f9
    replace ho9 := ho9.keep (Keep.of_below d9) (fun g hg => ho9.lt hg)
    have lv9 := VBlk.lt v9
    generalize wb9.setRow g16 _ = w9 at v9 b9 ho9 lv9 ⊢
    clear f9 d9 y9 e9
    have hP5' := hP5.below b9
    repeat (first | ((with_reducible refine WL.topT ?_ ?_); omega) | ((with_reducible refine WL.topF ?_ ?_); omega) | ((with_reducible refine WL.top64 ?_ ?_); omega) | refine WC.seq ?_ | refine WC.block ?_ | refine WC.region ?_ | refine WL.nil ?_ | refine WC.skip ?_ | refine WC.exit ?_ | refine WC.ret ?_ | refine WQ.then rfl ?_ | refine WQ.thenExit ?_ | refine WQ.thenRet ?_ | refine WQ.blk ?_ | refine WQ.blkRet ?_ | refine WQ.blkHere rfl ?_ | refine WQ.blkOther rfl ?_ | refine WL.pure rfl rfl rfl rfl ?_ | refine WL.on rfl rfl ?_ | refine WL.off rfl rfl rfl ?_ | refine WC.condTrue rfl ?_ | refine WC.condFalse rfl ?_)
    replace hP5 := hP5'
    clear hP5'
    have b79 := b7.trans ((b8.trans (b9.mono b8.size)).mono b7.size)
    have b89 := b8.trans (b9.mono b8.size)
    replace v6 := v6.below b79 lv6
    replace ho6 := ho6.keep (Keep.of_below b79) (fun g hg => ho6.lt hg)
    replace v7 := v7.below b89 lv7
    replace ho7 := ho7.keep (Keep.of_below b89) (fun g hg => ho7.lt hg)
    replace v8 := v8.below b9 lv8
    replace ho8 := ho8.keep (Keep.of_below b9) (fun g hg => ho8.lt hg)
    have l6 := VBlk.lt v6
    have l7 := VBlk.lt v7
    have l8 := VBlk.lt v8
    have l9 := VBlk.lt v9
    clear b79 b89 b7 b8 b9 b6 lv6 lv7 lv8 lv9 x0 x1 x2
    refine WC.drawn 63 (fun wx => Below w9.heap.size w9 wx) fun w3 hd => ?_
    have hS : Below w9.heap.size w9 w3 := hd.below _
    clear hd
    refine WD.loadMid 0 [2, 3, 4, 5, 6, 7, 8, 9, 10, 11, 12, 13, 14, 15, 16, 17, 18, 19, 20, 21, 22, 23, 24, 25, 26, 27, 28, 29, 30, 31, 32, 33, 34, 35, 36, 37, 38, 39, 40, 41, 42, 43, 44, 45, 46, 47, 48, 49, 50, 51, 52, 53, 54, 55, 56, 57, 58, 59, 60, 61, 62, 63, 64, 65] rfl (by kernel_rfl) rfl rfl (fun _ _ _ _ _ h => h) rfl rfl rfl rfl (fun wx hx => VBlk.rangeAt (v6.below hx l6)) rfl hS ?_
    refine WD.loadMid 1 [2, 3, 4, 5, 6, 7, 8, 9, 10, 11, 12, 13, 14, 15, 16, 17, 18, 19, 20, 21, 22, 23, 24, 25, 26, 27, 28, 29, 30, 31, 32, 33, 34, 35, 36, 37, 38, 39, 40, 41, 42, 43, 44, 45, 46, 47, 48, 49, 50, 51, 52, 53, 54, 55, 56, 57, 58, 59, 60, 61, 62, 63, 64, 65] rfl (by kernel_rfl) rfl rfl (fun _ _ _ _ _ h => h) rfl rfl rfl rfl (fun wx hx => VBlk.rangeAt (v7.below hx l7)) rfl hS ?_
    refine WD.one 2 (by kernel_rfl) rfl ?_
    refine WL.call rfl rfl rfl rfl rfl Try.func17 rfl (by kernel_rfl) (tables_any (a := (findR L txt).1) (t := (findR L txt).2.1) (ho6.keep (Keep.of_below hS) (fun g hg => ho6.lt hg)) (ho7.keep (Keep.of_below hS) (fun g hg => ho7.lt hg))) ?_
    rintro _ wy ⟨rfl, by1⟩
    refine ⟨_, rfl, ?_⟩
    replace hS := hS.trans (by1.mono hS.size)
    clear by1
    refine WL.nil (WQ.dk (.inr hS) ?_)
    (((first | refine WD.free 3 rfl (by kernel_rfl) rfl rfl (fun _ _ _ _ _ h => h) rfl rfl (.inr hS) ?_ | refine WD.skip 3 rfl (by kernel_rfl) rfl rfl (fun _ _ _ _ _ h => h) rfl (.inr hS) ?_); try (first | ((with_reducible refine WD.topT ?_ ?_); omega) | ((with_reducible refine WD.topF ?_ ?_); omega) | ((with_reducible refine WD.top64 ?_ ?_); omega))); ((first | refine WD.free 4 rfl (by kernel_rfl) rfl rfl (fun _ _ _ _ _ h => h) rfl rfl (.inr hS) ?_ | refine WD.skip 4 rfl (by kernel_rfl) rfl rfl (fun _ _ _ _ _ h => h) rfl (.inr hS) ?_); try (first | ((with_reducible refine WD.topT ?_ ?_); omega) | ((with_reducible refine WD.topF ?_ ?_); omega) | ((with_reducible refine WD.top64 ?_ ?_); omega))); ((first | refine WD.free 5 rfl (by kernel_rfl) rfl rfl (fun _ _ _ _ _ h => h) rfl rfl (.inr hS) ?_ | refine WD.skip 5 rfl (by kernel_rfl) rfl rfl (fun _ _ _ _ _ h => h) rfl (.inr hS) ?_); try (first | ((with_reducible refine WD.topT ?_ ?_); omega) | ((with_reducible refine WD.topF ?_ ?_); omega) | ((with_reducible refine WD.top64 ?_ ?_); omega))); ((first | refine WD.free 6 rfl (by kernel_rfl) rfl rfl (fun _ _ _ _ _ h => h) rfl rfl (.inr hS) ?_ | refine WD.skip 6 rfl (by kernel_rfl) rfl rfl (fun _ _ _ _ _ h => h) rfl (.inr hS) ?_); try (first | ((with_reducible refine WD.topT ?_ ?_); omega) | ((with_reducible refine WD.topF ?_ ?_); omega) | ((with_reducible refine WD.top64 ?_ ?_); omega))); ((first | refine WD.free 7 rfl (by kernel_rfl) rfl rfl (fun _ _ _ _ _ h => h) rfl rfl (.inr hS) ?_ | refine WD.skip 7 rfl (by kernel_rfl) rfl rfl (fun _ _ _ _ _ h => h) rfl (.inr hS) ?_); try (first | ((with_reducible refine WD.topT ?_ ?_); omega) | ((with_reducible refine WD.topF ?_ ?_); omega) | ((with_reducible refine WD.top64 ?_ ?_); omega))); ((first | refine WD.free 8 rfl (by kernel_rfl) rfl rfl (fun _ _ _ _ _ h => h) rfl rfl (.inr hS) ?_ | refine WD.skip 8 rfl (by kernel_rfl) rfl rfl (fun _ _ _ _ _ h => h) rfl (.inr hS) ?_); try (first | ((with_reducible refine WD.topT ?_ ?_); omega) | ((with_reducible refine WD.topF ?_ ?_); omega) | ((with_reducible refine WD.top64 ?_ ?_); omega))); ((first | refine WD.free 9 rfl (by kernel_rfl) rfl rfl (fun _ _ _ _ _ h => h) rfl rfl (.inr hS) ?_ | refine WD.skip 9 rfl (by kernel_rfl) rfl rfl (fun _ _ _ _ _ h => h) rfl (.inr hS) ?_); try (first | ((with_reducible refine WD.topT ?_ ?_); omega) | ((with_reducible refine WD.topF ?_ ?_); omega) | ((with_reducible refine WD.top64 ?_ ?_); omega))))
    refine WD.loadMid 10 [12, 13, 14, 15, 16, 17, 18, 19, 20, 21, 22, 23, 24, 25, 26, 27, 28, 29, 30, 31, 32, 33, 34, 35, 36, 37, 38, 39, 40, 41, 42, 43, 44, 45, 46, 47, 48, 49, 50, 51, 52, 53, 54, 55, 56, 57, 58, 59, 60, 61, 62, 63, 64, 65] rfl (by kernel_rfl) rfl rfl (fun _ _ _ _ _ h => h) rfl rfl rfl rfl (fun wx hx => VBlk.rangeAt (v8.below hx l8)) rfl hS ?_
    refine WD.loadMid 11 [12, 13, 14, 15, 16, 17, 18, 19, 20, 21, 22, 23, 24, 25, 26, 27, 28, 29, 30, 31, 32, 33, 34, 35, 36, 37, 38, 39, 40, 41, 42, 43, 44, 45, 46, 47, 48, 49, 50, 51, 52, 53, 54, 55, 56, 57, 58, 59, 60, 61, 62, 63, 64, 65] rfl (by kernel_rfl) rfl rfl (fun _ _ _ _ _ h => h) rfl rfl rfl rfl (fun wx hx => VBlk.rangeAt (v9.below hx l9)) rfl hS ?_
    refine WD.one 12 (by kernel_rfl) rfl ?_
    refine WL.on rfl rfl ?_
    refine WL.call rfl rfl rfl rfl rfl Try.func17 rfl (by kernel_rfl) (tables_any (a := (tabR L tbl).1) (t := (tabR L tbl).2.1) (ho8.keep (Keep.of_below hS) (fun g hg => ho8.lt hg)) (ho9.keep (Keep.of_below hS) (fun g hg => ho9.lt hg))) ?_
    rintro _ wy ⟨rfl, by1⟩
    refine ⟨_, rfl, ?_⟩
    replace hS := hS.trans (by1.mono hS.size)
    clear by1
    refine WL.nil (WQ.dk (.inr hS) ?_)
    (((first | refine WD.free 13 rfl (by kernel_rfl) rfl rfl (fun _ _ _ _ _ h => h) rfl rfl (.inr hS) ?_ | refine WD.skip 13 rfl (by kernel_rfl) rfl rfl (fun _ _ _ _ _ h => h) rfl (.inr hS) ?_); try (first | ((with_reducible refine WD.topT ?_ ?_); omega) | ((with_reducible refine WD.topF ?_ ?_); omega) | ((with_reducible refine WD.top64 ?_ ?_); omega))); ((first | refine WD.free 14 rfl (by kernel_rfl) rfl rfl (fun _ _ _ _ _ h => h) rfl rfl (.inr hS) ?_ | refine WD.skip 14 rfl (by kernel_rfl) rfl rfl (fun _ _ _ _ _ h => h) rfl (.inr hS) ?_); try (first | ((with_reducible refine WD.topT ?_ ?_); omega) | ((with_reducible refine WD.topF ?_ ?_); omega) | ((with_reducible refine WD.top64 ?_ ?_); omega))); ((first | refine WD.free 15 rfl (by kernel_rfl) rfl rfl (fun _ _ _ _ _ h => h) rfl rfl (.inr hS) ?_ | refine WD.skip 15 rfl (by kernel_rfl) rfl rfl (fun _ _ _ _ _ h => h) rfl (.inr hS) ?_); try (first | ((with_reducible refine WD.topT ?_ ?_); omega) | ((with_reducible refine WD.topF ?_ ?_); omega) | ((with_reducible refine WD.top64 ?_ ?_); omega))); ((first | refine WD.free 16 rfl (by kernel_rfl) rfl rfl (fun _ _ _ _ _ h => h) rfl rfl (.inr hS) ?_ | refine WD.skip 16 rfl (by kernel_rfl) rfl rfl (fun _ _ _ _ _ h => h) rfl (.inr hS) ?_); try (first | ((with_reducible refine WD.topT ?_ ?_); omega) | ((with_reducible refine WD.topF ?_ ?_); omega) | ((with_reducible refine WD.top64 ?_ ?_); omega))); ((first | refine WD.free 17 rfl (by kernel_rfl) rfl rfl (fun _ _ _ _ _ h => h) rfl rfl (.inr hS) ?_ | refine WD.skip 17 rfl (by kernel_rfl) rfl rfl (fun _ _ _ _ _ h => h) rfl (.inr hS) ?_); try (first | ((with_reducible refine WD.topT ?_ ?_); omega) | ((with_reducible refine WD.topF ?_ ?_); omega) | ((with_reducible refine WD.top64 ?_ ?_); omega))); ((first | refine WD.free 18 rfl (by kernel_rfl) rfl rfl (fun _ _ _ _ _ h => h) rfl rfl (.inr hS) ?_ | refine WD.skip 18 rfl (by kernel_rfl) rfl rfl (fun _ _ _ _ _ h => h) rfl (.inr hS) ?_); try (first | ((with_reducible refine WD.topT ?_ ?_); omega) | ((with_reducible refine WD.topF ?_ ?_); omega) | ((with_reducible refine WD.top64 ?_ ?_); omega))); ((first | refine WD.free 19 rfl (by kernel_rfl) rfl rfl (fun _ _ _ _ _ h => h) rfl rfl (.inr hS) ?_ | refine WD.skip 19 rfl (by kernel_rfl) rfl rfl (fun _ _ _ _ _ h => h) rfl (.inr hS) ?_); try (first | ((with_reducible refine WD.topT ?_ ?_); omega) | ((with_reducible refine WD.topF ?_ ?_); omega) | ((with_reducible refine WD.top64 ?_ ?_); omega))); ((first | refine WD.free 20 rfl (by kernel_rfl) rfl rfl (fun _ _ _ _ _ h => h) rfl rfl (.inr hS) ?_ | refine WD.skip 20 rfl (by kernel_rfl) rfl rfl (fun _ _ _ _ _ h => h) rfl (.inr hS) ?_); try (first | ((with_reducible refine WD.topT ?_ ?_); omega) | ((with_reducible refine WD.topF ?_ ?_); omega) | ((with_reducible refine WD.top64 ?_ ?_); omega))); ((first | refine WD.free 21 rfl (by kernel_rfl) rfl rfl (fun _ _ _ _ _ h => h) rfl rfl (.inr hS) ?_ | refine WD.skip 21 rfl (by kernel_rfl) rfl rfl (fun _ _ _ _ _ h => h) rfl (.inr hS) ?_); try (first | ((with_reducible refine WD.topT ?_ ?_); omega) | ((with_reducible refine WD.topF ?_ ?_); omega) | ((with_reducible refine WD.top64 ?_ ?_); omega))); ((first | refine WD.free 22 rfl (by kernel_rfl) rfl rfl (fun _ _ _ _ _ h => h) rfl rfl (.inr hS) ?_ | refine WD.skip 22 rfl (by kernel_rfl) rfl rfl (fun _ _ _ _ _ h => h) rfl (.inr hS) ?_); try (first | ((with_reducible refine WD.topT ?_ ?_); omega) | ((with_reducible refine WD.topF ?_ ?_); omega) | ((with_reducible refine WD.top64 ?_ ?_); omega))); ((first | refine WD.free 23 rfl (by kernel_rfl) rfl rfl (fun _ _ _ _ _ h => h) rfl rfl (.inr hS) ?_ | refine WD.skip 23 rfl (by kernel_rfl) rfl rfl (fun _ _ _ _ _ h => h) rfl (.inr hS) ?_); try (first | ((with_reducible refine WD.topT ?_ ?_); omega) | ((with_reducible refine WD.topF ?_ ?_); omega) | ((with_reducible refine WD.top64 ?_ ?_); omega))))
    refine WD.idx 24 i (o + i * 46) rfl (by kernel_rfl) rfl rfl (fun _ _ _ _ _ h => h) rfl rfl rfl rfl rfl rfl hil' rfl (.inr hS) ?_
    (((first | refine WD.free 25 rfl (by kernel_rfl) rfl rfl (fun _ _ _ _ _ h => h) rfl rfl (.inr hS) ?_ | refine WD.skip 25 rfl (by kernel_rfl) rfl rfl (fun _ _ _ _ _ h => h) rfl (.inr hS) ?_); try (first | ((with_reducible refine WD.topT ?_ ?_); omega) | ((with_reducible refine WD.topF ?_ ?_); omega) | ((with_reducible refine WD.top64 ?_ ?_); omega))))
    refine WD.load 26 [32, 44, 45, 46, 47, 48, 49, 50, 51, 52, 53, 54, 55, 56, 57, 58, 59, 60, 61, 62, 63, 64, 65] rfl (by kernel_rfl) rfl rfl (fun _ _ _ _ _ h => h) rfl rfl rfl rfl (fun wx hx => exn (hP5.bel.trans (hx.mono hP5.bel.size))) hS ?_
    (((first | refine WD.free 27 rfl (by kernel_rfl) rfl rfl (fun _ _ _ _ _ h => h) rfl rfl (.inr hS) ?_ | refine WD.skip 27 rfl (by kernel_rfl) rfl rfl (fun _ _ _ _ _ h => h) rfl (.inr hS) ?_); try (first | ((with_reducible refine WD.topT ?_ ?_); omega) | ((with_reducible refine WD.topF ?_ ?_); omega) | ((with_reducible refine WD.top64 ?_ ?_); omega))); ((first | refine WD.free 28 rfl (by kernel_rfl) rfl rfl (fun _ _ _ _ _ h => h) rfl rfl (.inr hS) ?_ | refine WD.skip 28 rfl (by kernel_rfl) rfl rfl (fun _ _ _ _ _ h => h) rfl (.inr hS) ?_); try (first | ((with_reducible refine WD.topT ?_ ?_); omega) | ((with_reducible refine WD.topF ?_ ?_); omega) | ((with_reducible refine WD.top64 ?_ ?_); omega))))
    refine WD.idx 29 i (o + i * 46) rfl (by kernel_rfl) rfl rfl (fun _ _ _ _ _ h => h) rfl rfl rfl rfl rfl rfl hil' rfl (.inr hS) ?_
    (((first | refine WD.free 30 rfl (by kernel_rfl) rfl rfl (fun _ _ _ _ _ h => h) rfl rfl (.inr hS) ?_ | refine WD.skip 30 rfl (by kernel_rfl) rfl rfl (fun _ _ _ _ _ h => h) rfl (.inr hS) ?_); try (first | ((with_reducible refine WD.topT ?_ ?_); omega) | ((with_reducible refine WD.topF ?_ ?_); omega) | ((with_reducible refine WD.top64 ?_ ?_); omega))))
    refine WD.load 31 [32, 44, 45, 46, 47, 48, 49, 50, 51, 52, 53, 54, 55, 56, 57, 58, 59, 60, 61, 62, 63, 64, 65] rfl (by kernel_rfl) rfl rfl (fun _ _ _ _ _ h => h) rfl rfl rfl rfl (fun wx hx => ext (hP5.bel.trans (hx.mono hP5.bel.size))) hS ?_
    (((first | refine WD.free 33 rfl (by kernel_rfl) rfl rfl (fun _ _ _ _ _ h => h) rfl rfl (.inr hS) ?_ | refine WD.skip 33 rfl (by kernel_rfl) rfl rfl (fun _ _ _ _ _ h => h) rfl (.inr hS) ?_); try (first | ((with_reducible refine WD.topT ?_ ?_); omega) | ((with_reducible refine WD.topF ?_ ?_); omega) | ((with_reducible refine WD.top64 ?_ ?_); omega))); ((first | refine WD.free 34 rfl (by kernel_rfl) rfl rfl (fun _ _ _ _ _ h => h) rfl rfl (.inr hS) ?_ | refine WD.skip 34 rfl (by kernel_rfl) rfl rfl (fun _ _ _ _ _ h => h) rfl (.inr hS) ?_); try (first | ((with_reducible refine WD.topT ?_ ?_); omega) | ((with_reducible refine WD.topF ?_ ?_); omega) | ((with_reducible refine WD.top64 ?_ ?_); omega))); ((first | refine WD.free 35 rfl (by kernel_rfl) rfl rfl (fun _ _ _ _ _ h => h) rfl rfl (.inr hS) ?_ | refine WD.skip 35 rfl (by kernel_rfl) rfl rfl (fun _ _ _ _ _ h => h) rfl (.inr hS) ?_); try (first | ((with_reducible refine WD.topT ?_ ?_); omega) | ((with_reducible refine WD.topF ?_ ?_); omega) | ((with_reducible refine WD.top64 ?_ ?_); omega))))
    refine WD.idx 36 i (o + i * 46) rfl (by kernel_rfl) rfl rfl (fun _ _ _ _ _ h => h) rfl rfl rfl rfl rfl rfl hil' rfl (.inr hS) ?_
    (((first | refine WD.free 37 rfl (by kernel_rfl) rfl rfl (fun _ _ _ _ _ h => h) rfl rfl (.inr hS) ?_ | refine WD.skip 37 rfl (by kernel_rfl) rfl rfl (fun _ _ _ _ _ h => h) rfl (.inr hS) ?_); try (first | ((with_reducible refine WD.topT ?_ ?_); omega) | ((with_reducible refine WD.topF ?_ ?_); omega) | ((with_reducible refine WD.top64 ?_ ?_); omega))))
    refine WD.load 38 [44, 45, 46, 47, 48, 49, 50, 51, 52, 53, 54, 55, 56, 57, 58, 59, 60, 61, 62, 63, 64, 65] rfl (by kernel_rfl) rfl rfl (fun _ _ _ _ _ h => h) rfl rfl rfl rfl (fun wx hx => exn (hP5.bel.trans (hx.mono hP5.bel.size))) hS ?_
    (((first | refine WD.free 39 rfl (by kernel_rfl) rfl rfl (fun _ _ _ _ _ h => h) rfl rfl (.inr hS) ?_ | refine WD.skip 39 rfl (by kernel_rfl) rfl rfl (fun _ _ _ _ _ h => h) rfl (.inr hS) ?_); try (first | ((with_reducible refine WD.topT ?_ ?_); omega) | ((with_reducible refine WD.topF ?_ ?_); omega) | ((with_reducible refine WD.top64 ?_ ?_); omega))); ((first | refine WD.free 40 rfl (by kernel_rfl) rfl rfl (fun _ _ _ _ _ h => h) rfl rfl (.inr hS) ?_ | refine WD.skip 40 rfl (by kernel_rfl) rfl rfl (fun _ _ _ _ _ h => h) rfl (.inr hS) ?_); try (first | ((with_reducible refine WD.topT ?_ ?_); omega) | ((with_reducible refine WD.topF ?_ ?_); omega) | ((with_reducible refine WD.top64 ?_ ?_); omega))))
    refine WD.idx 41 i (o + i * 46) rfl (by kernel_rfl) rfl rfl (fun _ _ _ _ _ h => h) rfl rfl rfl rfl rfl rfl hil' rfl (.inr hS) ?_
    (((first | refine WD.free 42 rfl (by kernel_rfl) rfl rfl (fun _ _ _ _ _ h => h) rfl rfl (.inr hS) ?_ | refine WD.skip 42 rfl (by kernel_rfl) rfl rfl (fun _ _ _ _ _ h => h) rfl (.inr hS) ?_); try (first | ((with_reducible refine WD.topT ?_ ?_); omega) | ((with_reducible refine WD.topF ?_ ?_); omega) | ((with_reducible refine WD.top64 ?_ ?_); omega))))
    refine WD.load 43 [44, 45, 46, 47, 48, 49, 50, 51, 52, 53, 54, 55, 56, 57, 58, 59, 60, 61, 62, 63, 64, 65] rfl (by kernel_rfl) rfl rfl (fun _ _ _ _ _ h => h) rfl rfl rfl rfl (fun wx hx => ext (hP5.bel.trans (hx.mono hP5.bel.size))) hS ?_
    refine WD.one 32 (by kernel_rfl) rfl ?_
    refine WL.on rfl rfl ?_
    refine WL.call rfl rfl rfl rfl rfl Try.func18 rfl (by kernel_rfl) (has_any (hP5.below hS).cat tbl txt hE.hsh) ?_
    rintro _ wy ⟨rfl, rfl⟩
    refine ⟨_, rfl, ?_⟩
    refine WL.nil (WQ.dk (.inr hS) ?_)
    refine WD.one 44 (by kernel_rfl) rfl ?_
    refine WL.on rfl rfl ?_
    refine WL.call rfl rfl rfl rfl rfl Try.func19 rfl (by kernel_rfl) (rhas_any (hP5.below hS).ref tbl txt) ?_
    rintro _ wy ⟨rfl, rfl⟩
    refine ⟨_, rfl, ?_⟩
    refine WL.nil (WQ.dk (.inr hS) ?_)
    (((first | refine WD.free 45 rfl (by kernel_rfl) rfl rfl (fun _ _ _ _ _ h => h) rfl rfl (.inr hS) ?_ | refine WD.skip 45 rfl (by kernel_rfl) rfl rfl (fun _ _ _ _ _ h => h) rfl (.inr hS) ?_); try (first | ((with_reducible refine WD.topT ?_ ?_); omega) | ((with_reducible refine WD.topF ?_ ?_); omega) | ((with_reducible refine WD.top64 ?_ ?_); omega))))
    refine WD.top (v' := .bool false) (congrArg Value.bool (dbl _)) ?_
    (((first | refine WD.free 46 rfl (by kernel_rfl) rfl rfl (fun _ _ _ _ _ h => h) rfl rfl (.inr hS) ?_ | refine WD.skip 46 rfl (by kernel_rfl) rfl rfl (fun _ _ _ _ _ h => h) rfl (.inr hS) ?_); try (first | ((with_reducible refine WD.topT ?_ ?_); omega) | ((with_reducible refine WD.topF ?_ ?_); omega) | ((with_reducible refine WD.top64 ?_ ?_); omega))); ((first | refine WD.free 47 rfl (by kernel_rfl) rfl rfl (fun _ _ _ _ _ h => h) rfl rfl (.inr hS) ?_ | refine WD.skip 47 rfl (by kernel_rfl) rfl rfl (fun _ _ _ _ _ h => h) rfl (.inr hS) ?_); try (first | ((with_reducible refine WD.topT ?_ ?_); omega) | ((with_reducible refine WD.topF ?_ ?_); omega) | ((with_reducible refine WD.top64 ?_ ?_); omega))); ((first | refine WD.free 48 rfl (by kernel_rfl) rfl rfl (fun _ _ _ _ _ h => h) rfl rfl (.inr hS) ?_ | refine WD.skip 48 rfl (by kernel_rfl) rfl rfl (fun _ _ _ _ _ h => h) rfl (.inr hS) ?_); try (first | ((with_reducible refine WD.topT ?_ ?_); omega) | ((with_reducible refine WD.topF ?_ ?_); omega) | ((with_reducible refine WD.top64 ?_ ?_); omega))); ((first | refine WD.free 49 rfl (by kernel_rfl) rfl rfl (fun _ _ _ _ _ h => h) rfl rfl (.inr hS) ?_ | refine WD.skip 49 rfl (by kernel_rfl) rfl rfl (fun _ _ _ _ _ h => h) rfl (.inr hS) ?_); try (first | ((with_reducible refine WD.topT ?_ ?_); omega) | ((with_reducible refine WD.topF ?_ ?_); omega) | ((with_reducible refine WD.top64 ?_ ?_); omega))); ((first | refine WD.free 50 rfl (by kernel_rfl) rfl rfl (fun _ _ _ _ _ h => h) rfl rfl (.inr hS) ?_ | refine WD.skip 50 rfl (by kernel_rfl) rfl rfl (fun _ _ _ _ _ h => h) rfl (.inr hS) ?_); try (first | ((with_reducible refine WD.topT ?_ ?_); omega) | ((with_reducible refine WD.topF ?_ ?_); omega) | ((with_reducible refine WD.top64 ?_ ?_); omega))))
    refine WD.idx 51 i (o + i * 46) rfl (by kernel_rfl) rfl rfl (fun _ _ _ _ _ h => h) rfl rfl rfl rfl rfl rfl hil' rfl (.inr hS) ?_
    (((first | refine WD.free 52 rfl (by kernel_rfl) rfl rfl (fun _ _ _ _ _ h => h) rfl rfl (.inr hS) ?_ | refine WD.skip 52 rfl (by kernel_rfl) rfl rfl (fun _ _ _ _ _ h => h) rfl (.inr hS) ?_); try (first | ((with_reducible refine WD.topT ?_ ?_); omega) | ((with_reducible refine WD.topF ?_ ?_); omega) | ((with_reducible refine WD.top64 ?_ ?_); omega))))
    refine WD.load 53 [55, 63, 64, 65] rfl (by kernel_rfl) rfl rfl (fun _ _ _ _ _ h => h) rfl rfl rfl rfl (fun wx hx => exn (hP5.bel.trans (hx.mono hP5.bel.size))) hS ?_
    (((first | refine WD.free 54 rfl (by kernel_rfl) rfl rfl (fun _ _ _ _ _ h => h) rfl rfl (.inr hS) ?_ | refine WD.skip 54 rfl (by kernel_rfl) rfl rfl (fun _ _ _ _ _ h => h) rfl (.inr hS) ?_); try (first | ((with_reducible refine WD.topT ?_ ?_); omega) | ((with_reducible refine WD.topF ?_ ?_); omega) | ((with_reducible refine WD.top64 ?_ ?_); omega))); ((first | refine WD.free 56 rfl (by kernel_rfl) rfl rfl (fun _ _ _ _ _ h => h) rfl rfl (.inr hS) ?_ | refine WD.skip 56 rfl (by kernel_rfl) rfl rfl (fun _ _ _ _ _ h => h) rfl (.inr hS) ?_); try (first | ((with_reducible refine WD.topT ?_ ?_); omega) | ((with_reducible refine WD.topF ?_ ?_); omega) | ((with_reducible refine WD.top64 ?_ ?_); omega))); ((first | refine WD.free 57 rfl (by kernel_rfl) rfl rfl (fun _ _ _ _ _ h => h) rfl rfl (.inr hS) ?_ | refine WD.skip 57 rfl (by kernel_rfl) rfl rfl (fun _ _ _ _ _ h => h) rfl (.inr hS) ?_); try (first | ((with_reducible refine WD.topT ?_ ?_); omega) | ((with_reducible refine WD.topF ?_ ?_); omega) | ((with_reducible refine WD.top64 ?_ ?_); omega))); ((first | refine WD.free 58 rfl (by kernel_rfl) rfl rfl (fun _ _ _ _ _ h => h) rfl rfl (.inr hS) ?_ | refine WD.skip 58 rfl (by kernel_rfl) rfl rfl (fun _ _ _ _ _ h => h) rfl (.inr hS) ?_); try (first | ((with_reducible refine WD.topT ?_ ?_); omega) | ((with_reducible refine WD.topF ?_ ?_); omega) | ((with_reducible refine WD.top64 ?_ ?_); omega))))
    refine WD.idx 59 i (o + i * 46) rfl (by kernel_rfl) rfl rfl (fun _ _ _ _ _ h => h) rfl rfl rfl rfl rfl rfl hil' rfl (.inr hS) ?_
    (((first | refine WD.free 60 rfl (by kernel_rfl) rfl rfl (fun _ _ _ _ _ h => h) rfl rfl (.inr hS) ?_ | refine WD.skip 60 rfl (by kernel_rfl) rfl rfl (fun _ _ _ _ _ h => h) rfl (.inr hS) ?_); try (first | ((with_reducible refine WD.topT ?_ ?_); omega) | ((with_reducible refine WD.topF ?_ ?_); omega) | ((with_reducible refine WD.top64 ?_ ?_); omega))))
    refine WD.load 61 [63, 64, 65] rfl (by kernel_rfl) rfl rfl (fun _ _ _ _ _ h => h) rfl rfl rfl rfl (fun wx hx => exn (hP5.bel.trans (hx.mono hP5.bel.size))) hS ?_
    (((first | refine WD.free 62 rfl (by kernel_rfl) rfl rfl (fun _ _ _ _ _ h => h) rfl rfl (.inr hS) ?_ | refine WD.skip 62 rfl (by kernel_rfl) rfl rfl (fun _ _ _ _ _ h => h) rfl (.inr hS) ?_); try (first | ((with_reducible refine WD.topT ?_ ?_); omega) | ((with_reducible refine WD.topF ?_ ?_); omega) | ((with_reducible refine WD.top64 ?_ ?_); omega))))
    refine WD.one 55 (by kernel_rfl) rfl ?_
    refine WL.on rfl rfl ?_
    refine WL.call rfl rfl rfl rfl rfl Try.func18 rfl (by kernel_rfl) (has_any (hP5.below hS).cat tbl field (by unfold maxLen; omega)) ?_
    rintro _ wy ⟨rfl, rfl⟩
    refine ⟨_, rfl, ?_⟩
    refine WL.nil (WQ.dk (.inr hS) ?_)
    refine WD.one 63 (by kernel_rfl) rfl ?_
    refine WL.on rfl rfl ?_
    refine WL.call rfl rfl rfl rfl rfl Try.func19 rfl (by kernel_rfl) (rhas_any (hP5.below hS).ref tbl field) ?_
    rintro _ wy ⟨rfl, rfl⟩
    refine ⟨_, rfl, ?_⟩
    refine WL.nil (WQ.dk (.inl rfl) ?_)
    (((first | refine WD.free 64 rfl (by kernel_rfl) rfl rfl (fun _ _ _ _ _ h => h) rfl rfl (.inl rfl) ?_ | refine WD.skip 64 rfl (by kernel_rfl) rfl rfl (fun _ _ _ _ _ h => h) rfl (.inl rfl) ?_); try (first | ((with_reducible refine WD.topT ?_ ?_); omega) | ((with_reducible refine WD.topF ?_ ?_); omega) | ((with_reducible refine WD.top64 ?_ ?_); omega))))
    refine WD.top (v' := .bool false) (congrArg Value.bool (dbl _)) ?_
    (((first | refine WD.free 65 rfl (by kernel_rfl) rfl rfl (fun _ _ _ _ _ h => h) rfl rfl (.inl rfl) ?_ | refine WD.skip 65 rfl (by kernel_rfl) rfl rfl (fun _ _ _ _ _ h => h) rfl (.inl rfl) ?_); try (first | ((with_reducible refine WD.topT ?_ ?_); omega) | ((with_reducible refine WD.topF ?_ ?_); omega) | ((with_reducible refine WD.top64 ?_ ?_); omega))))
    refine WD.done (by kernel_rfl) ?_
    replace hP5 := hP5.below hS
    replace v8 := v8.below hS l8
    replace ho8 := ho8.keep (Keep.of_below hS) (fun g hg => ho8.lt hg)
    have hG := hP5.cat.good
    have hfs : (tabR L tbl).2.1.fs.length ≤ 16 := by
      unfold tabR
      split
      · exact (hG.each _ (by omega)).2.1
      · exact Nat.zero_le _
    clear v6 v7 v9 ho6 ho7 ho9 l6 l7 l8 l9 hS
    obtain ⟨strs, hstrs, hsl⟩ : ∃ strs : List ByteArray, strs = (tabR L tbl).2.1.fs ∧ strs.length = (tabR L tbl).2.1.fs.length := ⟨_, rfl, rfl⟩
    replace ho8 : OwnV ixT 1 wy (fun b => w7.heap.size ≤ b) (.slice sp8 (tabR L tbl).2.1.fs.length c8) (tabR L tbl).2.1.fs.length (strs.map Value.string) := by rw [hstrs]; exact ho8
    generalize (tabR L tbl).2.1.fs.length = n8 at v8 ho8 hsl hfs
    clear hstrs
    repeat (first | ((with_reducible refine WL.topT ?_ ?_); omega) | ((with_reducible refine WL.topF ?_ ?_); omega) | ((with_reducible refine WL.top64 ?_ ?_); omega) | refine WC.seq ?_ | refine WC.block ?_ | refine WC.region ?_ | refine WL.nil ?_ | refine WC.skip ?_ | refine WC.exit ?_ | refine WC.ret ?_ | refine WQ.then rfl ?_ | refine WQ.thenExit ?_ | refine WQ.thenRet ?_ | refine WQ.blk ?_ | refine WQ.blkRet ?_ | refine WQ.blkHere rfl ?_ | refine WQ.blkOther rfl ?_ | refine WL.pure rfl rfl rfl rfl ?_ | refine WL.on rfl rfl ?_ | refine WL.off rfl rfl rfl ?_ | refine WC.condTrue rfl ?_ | refine WC.condFalse rfl ?_)
    refine WC.loop (fun k : Nat => [(0, .slice (some ⟨b, o, none⟩) l.length cap), (1, .int .i64 copies), (2, .string field), (7, .pointer (some ⟨c, 0, none⟩)), (8, .pointer (some ⟨rc, 0, none⟩)), (9, .int .i64 i), (14, .pointer (some ⟨g14, 0, none⟩)), (18, .int .i64 k)])
      (fun k w' => k ≤ n8 ∧ Pl w w' c rc (i + 1) L O1 O2 ∧ VBlk cbT w' g14 [.int .i64 (tabR L tbl).1, .string (tabR L tbl).2.1.name, .bool (tabR L tbl).2.1.dropped, .slice sp8 n8 c8] ∧ ∃ strs : List ByteArray, strs.length = n8 ∧ OwnV ixT 1 w' (fun b => w7.heap.size ≤ b) (.slice sp8 n8 c8) n8 (strs.map Value.string))
      (fun k => n8 - k) 0 ⟨rfl, rfl, rfl, rfl, rfl, rfl, rfl, rfl, trivial⟩ ⟨Nat.zero_le _, hP5, v8, strs, hsl, ho8⟩ ?_
    clear hP5 v8 ho8 hsl strs w3
    rintro k wk ⟨hk, hP5, v8, strs, hsl, ho8⟩
    have c8' := v8.cell 3 (by simp)
    simp only [List.getD_cons_succ, List.getD_cons_zero] at c8'
    by_cases hkn : k < n8
    · rcases ho8.form with ⟨-, hz, -⟩ | ⟨gx, cpx, cur, es, -⟩
      · omega
      obtain ⟨rfl, rfl⟩ : sp8 = some ⟨gx, 0, none⟩ ∧ c8 = cpx := by simpa using es
      clear es
      have hx1 := ho8.at k (by simp; omega)
      have hx2 := OwnV.free ho8 k
      have hx3 := OwnV.stored ho8 k (u := .string spoilt) rfl
      have hx4 : w7.heap.size ≤ gx := ho8.own rfl
      have hx5 : g14 ≠ gx := fun e => by obtain ⟨cur, hc⟩ := ho8.tag (g := gx) rfl; exact vb_ne v8 hc (by decide) e.symm
      repeat (first | ((with_reducible refine WL.topT ?_ ?_); omega) | ((with_reducible refine WL.topF ?_ ?_); omega) | ((with_reducible refine WL.top64 ?_ ?_); omega) | refine WC.seq ?_ | refine WC.block ?_ | refine WC.region ?_ | refine WL.nil ?_ | refine WC.skip ?_ | refine WC.exit ?_ | refine WC.ret ?_ | refine WQ.then rfl ?_ | refine WQ.thenExit ?_ | refine WQ.thenRet ?_ | refine WQ.blk ?_ | refine WQ.blkRet ?_ | refine WQ.blkHere rfl ?_ | refine WQ.blkOther rfl ?_ | refine WL.pure rfl rfl rfl rfl ?_ | refine WL.on rfl rfl ?_ | refine WL.off rfl rfl rfl ?_ | refine WL.load rfl rfl rfl rfl rfl rfl (by assumption) ?_ | refine WC.condTrue rfl ?_ | refine WC.condFalse rfl ?_)
      refine WL.idx k k rfl rfl rfl rfl rfl rfl rfl rfl hkn (by omega) ?_
      repeat (first | ((with_reducible refine WL.topT ?_ ?_); omega) | ((with_reducible refine WL.topF ?_ ?_); omega) | ((with_reducible refine WL.top64 ?_ ?_); omega) | refine WC.seq ?_ | refine WC.block ?_ | refine WC.region ?_ | refine WL.nil ?_ | refine WC.skip ?_ | refine WC.exit ?_ | refine WC.ret ?_ | refine WQ.then rfl ?_ | refine WQ.thenExit ?_ | refine WQ.thenRet ?_ | refine WQ.blk ?_ | refine WQ.blkRet ?_ | refine WQ.blkHere rfl ?_ | refine WQ.blkOther rfl ?_ | refine WL.pure rfl rfl rfl rfl ?_ | refine WL.on rfl rfl ?_ | refine WL.off rfl rfl rfl ?_ | refine WC.condTrue rfl ?_ | refine WC.condFalse rfl ?_)
      refine WL.store rfl rfl rfl rfl rfl rfl (by kernel_rfl) hx1 hx2 ?_
      repeat (first | ((with_reducible refine WL.topT ?_ ?_); omega) | ((with_reducible refine WL.topF ?_ ?_); omega) | ((with_reducible refine WL.top64 ?_ ?_); omega) | refine WC.seq ?_ | refine WC.block ?_ | refine WC.region ?_ | refine WL.nil ?_ | refine WC.skip ?_ | refine WC.exit ?_ | refine WC.ret ?_ | refine WQ.then rfl ?_ | refine WQ.thenExit ?_ | refine WQ.thenRet ?_ | refine WQ.blk ?_ | refine WQ.blkRet ?_ | refine WQ.blkHere rfl ?_ | refine WQ.blkOther rfl ?_ | refine WL.pure rfl rfl rfl rfl ?_ | refine WL.on rfl rfl ?_ | refine WL.off rfl rfl rfl ?_ | refine WC.condTrue rfl ?_ | refine WC.condFalse rfl ?_)
      refine WQ.again (k + 1) ⟨rfl, rfl, rfl, rfl, rfl, rfl, rfl, rfl, trivial⟩ ⟨hkn, hP5.poke (sep8 gx hx4) _, v8.other ⟨gx, k, none⟩ _ hx5, strs.set k spoilt, by rw [List.length_set]; exact hsl, ?_⟩ (by omega)
      rw [List.map_set]
      exact hx3
    obtain rfl : k = n8 := by omega
    clear hkn hk ho8 v8 hsl strs sep8
    repeat (first | ((with_reducible refine WL.topT ?_ ?_); omega) | ((with_reducible refine WL.topF ?_ ?_); omega) | ((with_reducible refine WL.top64 ?_ ?_); omega) | refine WC.seq ?_ | refine WC.block ?_ | refine WC.region ?_ | refine WL.nil ?_ | refine WC.skip ?_ | refine WC.exit ?_ | refine WC.ret ?_ | refine WQ.then rfl ?_ | refine WQ.thenExit ?_ | refine WQ.thenRet ?_ | refine WQ.blk ?_ | refine WQ.blkRet ?_ | refine WQ.blkHere rfl ?_ | refine WQ.blkOther rfl ?_ | refine WL.pure rfl rfl rfl rfl ?_ | refine WL.on rfl rfl ?_ | refine WL.off rfl rfl rfl ?_ | refine WL.load rfl rfl rfl rfl rfl rfl (by assumption) ?_ | refine WC.condTrue rfl ?_ | refine WC.condFalse rfl ?_)
    clear c8'
    refine WC.mid (fun x : Nat × Nat => [(0, .slice (some ⟨b, o, none⟩) l.length cap), (1, .int .i64 copies), (2, .string field), (7, .pointer (some ⟨x.1, 0, none⟩)), (8, .pointer (some ⟨x.2, 0, none⟩)), (9, .int .i64 i)])
      (fun x w' => ∃ O O', Pl w w' x.1 x.2 (i + 1) L O O') rfl ?_ ?_
    · by_cases hcp : (i : Int) = copies
      · refine WC.condT rfl hcp ?_
        repeat (first | ((with_reducible refine WL.topT ?_ ?_); omega) | ((with_reducible refine WL.topF ?_ ?_); omega) | ((with_reducible refine WL.top64 ?_ ?_); omega) | refine WC.seq ?_ | refine WC.block ?_ | refine WC.region ?_ | refine WL.nil ?_ | refine WC.skip ?_ | refine WC.exit ?_ | refine WC.ret ?_ | refine WQ.then rfl ?_ | refine WQ.thenExit ?_ | refine WQ.thenRet ?_ | refine WQ.blk ?_ | refine WQ.blkRet ?_ | refine WQ.blkHere rfl ?_ | refine WQ.blkOther rfl ?_ | refine WL.pure rfl rfl rfl rfl ?_ | refine WL.on rfl rfl ?_ | refine WL.off rfl rfl rfl ?_ | refine WC.condTrue rfl ?_ | refine WC.condFalse rfl ?_)
        refine WL.call rfl rfl rfl rfl rfl Try.func20 rfl (by kernel_rfl) (ccopy_any hP5.cat) ?_
        rintro _ wa ⟨c', O3, rfl, hc3, ba, o3⟩
        refine ⟨_, rfl, ?_⟩
        have hPa := hP5.below ba
        repeat (first | ((with_reducible refine WL.topT ?_ ?_); omega) | ((with_reducible refine WL.topF ?_ ?_); omega) | ((with_reducible refine WL.top64 ?_ ?_); omega) | refine WC.seq ?_ | refine WC.block ?_ | refine WC.region ?_ | refine WL.nil ?_ | refine WC.skip ?_ | refine WC.exit ?_ | refine WC.ret ?_ | refine WQ.then rfl ?_ | refine WQ.thenExit ?_ | refine WQ.thenRet ?_ | refine WQ.blk ?_ | refine WQ.blkRet ?_ | refine WQ.blkHere rfl ?_ | refine WQ.blkOther rfl ?_ | refine WL.pure rfl rfl rfl rfl ?_ | refine WL.on rfl rfl ?_ | refine WL.off rfl rfl rfl ?_ | refine WC.condTrue rfl ?_ | refine WC.condFalse rfl ?_)
        refine WL.call rfl rfl rfl rfl rfl Try.func21 rfl (by kernel_rfl) (rcopy_cat hPa.ref) ?_
        rintro _ wb ⟨rc', O4, rfl, hr4, bb, o4⟩
        refine ⟨_, rfl, ?_⟩
        have hPb := hPa.below bb
        have z1 := ba.size
        have z2 := bb.size
        have z0 := hP5.bel.size
        have l3 := hc3.lt
        have l5 := hP5.cat.lt
        have hN : Pl w wb c' rc' (i + 1) L O3 O4 := ⟨hc3.below bb (Nat.le_refl _), hr4, fun b h1 h2 => by have := l3 b h1; have := o4 b h2; omega, fun b hb => by have := o3 b hb; omega, fun b hb => by have := o4 b hb; omega, hPb.bel⟩
        have hX : ∀ b, O1 b → ¬ O3 b ∧ ¬ O4 b ∧ w.heap.size ≤ b := fun b hb => ⟨fun hh => by have := o3 b hh; have := l5 b hb; omega, fun hh => by have := o4 b hh; have := l5 b hb; omega, hP5.o b hb⟩
        repeat (first | ((with_reducible refine WL.topT ?_ ?_); omega) | ((with_reducible refine WL.topF ?_ ?_); omega) | ((with_reducible refine WL.top64 ?_ ?_); omega) | refine WC.seq ?_ | refine WC.block ?_ | refine WC.region ?_ | refine WL.nil ?_ | refine WC.skip ?_ | refine WC.exit ?_ | refine WC.ret ?_ | refine WQ.then rfl ?_ | refine WQ.thenExit ?_ | refine WQ.thenRet ?_ | refine WQ.blk ?_ | refine WQ.blkRet ?_ | refine WQ.blkHere rfl ?_ | refine WQ.blkOther rfl ?_ | refine WL.pure rfl rfl rfl rfl ?_ | refine WL.on rfl rfl ?_ | refine WL.off rfl rfl rfl ?_ | refine WC.condTrue rfl ?_ | refine WC.condFalse rfl ?_)
        refine WL.nilP rfl rfl rfl rfl rfl rfl (by kernel_rfl) ?_
        have y2 := exn hN.bel
        repeat (first | ((with_reducible refine WL.topT ?_ ?_); omega) | ((with_reducible refine WL.topF ?_ ?_); omega) | ((with_reducible refine WL.top64 ?_ ?_); omega) | refine WC.seq ?_ | refine WC.block ?_ | refine WC.region ?_ | refine WL.nil ?_ | refine WC.skip ?_ | refine WC.exit ?_ | refine WC.ret ?_ | refine WQ.then rfl ?_ | refine WQ.thenExit ?_ | refine WQ.thenRet ?_ | refine WQ.blk ?_ | refine WQ.blkRet ?_ | refine WQ.blkHere rfl ?_ | refine WQ.blkOther rfl ?_ | refine WL.pure rfl rfl rfl rfl ?_ | refine WL.on rfl rfl ?_ | refine WL.off rfl rfl rfl ?_ | refine WC.condTrue rfl ?_ | refine WC.condFalse rfl ?_)
        refine WL.idx i (o + i * 46) rfl rfl rfl rfl rfl rfl rfl rfl hil' rfl ?_
        repeat (first | ((with_reducible refine WL.topT ?_ ?_); omega) | ((with_reducible refine WL.topF ?_ ?_); omega) | ((with_reducible refine WL.top64 ?_ ?_); omega) | refine WC.seq ?_ | refine WC.block ?_ | refine WC.region ?_ | refine WL.nil ?_ | refine WC.skip ?_ | refine WC.exit ?_ | refine WC.ret ?_ | refine WQ.then rfl ?_ | refine WQ.thenExit ?_ | refine WQ.thenRet ?_ | refine WQ.blk ?_ | refine WQ.blkRet ?_ | refine WQ.blkHere rfl ?_ | refine WQ.blkOther rfl ?_ | refine WL.pure rfl rfl rfl rfl ?_ | refine WL.on rfl rfl ?_ | refine WL.off rfl rfl rfl ?_ | refine WL.load rfl rfl rfl rfl rfl rfl (by assumption) ?_ | refine WC.condTrue rfl ?_ | refine WC.condFalse rfl ?_)
        refine WL.build (entC 6 ByteArray.empty tbl) rfl rfl rfl rfl rfl (built_drop tbl) ?_
        refine WL.call rfl rfl rfl rfl rfl Try.func9 rfl (by kernel_rfl) (apply_any hPb.cat (ent_drop hE.hwf) (by omega)) ?_
        rintro _ wc ⟨O5, rfl, hc5, k5, o5⟩
        refine ⟨_, rfl, ?_⟩
        have hNc := hN.aside k5 hX
        have z3 := k5.size
        have l4 := hN.cat.lt
        have l6 := hN.ref.lt
        have hX5 : ∀ b, O5 b → ¬ O3 b ∧ ¬ O4 b ∧ w.heap.size ≤ b := fun b hb => (o5 b hb).elim (hX b) fun hh => ⟨fun h3 => by have := l4 b h3; omega, fun h3 => by have := l6 b h3; omega, by omega⟩
        repeat (first | ((with_reducible refine WL.topT ?_ ?_); omega) | ((with_reducible refine WL.topF ?_ ?_); omega) | ((with_reducible refine WL.top64 ?_ ?_); omega) | refine WC.seq ?_ | refine WC.block ?_ | refine WC.region ?_ | refine WL.nil ?_ | refine WC.skip ?_ | refine WC.exit ?_ | refine WC.ret ?_ | refine WQ.then rfl ?_ | refine WQ.thenExit ?_ | refine WQ.thenRet ?_ | refine WQ.blk ?_ | refine WQ.blkRet ?_ | refine WQ.blkHere rfl ?_ | refine WQ.blkOther rfl ?_ | refine WL.pure rfl rfl rfl rfl ?_ | refine WL.on rfl rfl ?_ | refine WL.off rfl rfl rfl ?_ | refine WC.condTrue rfl ?_ | refine WC.condFalse rfl ?_)
        refine WL.build (entC 7 spoilt 1) rfl rfl rfl rfl rfl built_ix ?_
        refine WL.call rfl rfl rfl rfl rfl Try.func9 rfl (by kernel_rfl) (apply_any hc5 ent_ix (by omega)) ?_
        rintro _ wd ⟨O6, rfl, -, k6, -⟩
        refine ⟨_, rfl, ?_⟩
        repeat (first | ((with_reducible refine WL.topT ?_ ?_); omega) | ((with_reducible refine WL.topF ?_ ?_); omega) | ((with_reducible refine WL.top64 ?_ ?_); omega) | refine WC.seq ?_ | refine WC.block ?_ | refine WC.region ?_ | refine WL.nil ?_ | refine WC.skip ?_ | refine WC.exit ?_ | refine WC.ret ?_ | refine WQ.then rfl ?_ | refine WQ.thenExit ?_ | refine WQ.thenRet ?_ | refine WQ.blk ?_ | refine WQ.blkRet ?_ | refine WQ.blkHere rfl ?_ | refine WQ.blkOther rfl ?_ | refine WL.pure rfl rfl rfl rfl ?_ | refine WL.on rfl rfl ?_ | refine WL.off rfl rfl rfl ?_ | refine WC.condTrue rfl ?_ | refine WC.condFalse rfl ?_)
        exact WQ.meet (c', rc') ⟨rfl, rfl, rfl, rfl, rfl, rfl, trivial⟩ ⟨O3, O4, hNc.aside k6 hX5⟩
      · refine WC.condF rfl hcp ?_
        repeat (first | ((with_reducible refine WL.topT ?_ ?_); omega) | ((with_reducible refine WL.topF ?_ ?_); omega) | ((with_reducible refine WL.top64 ?_ ?_); omega) | refine WC.seq ?_ | refine WC.block ?_ | refine WC.region ?_ | refine WL.nil ?_ | refine WC.skip ?_ | refine WC.exit ?_ | refine WC.ret ?_ | refine WQ.then rfl ?_ | refine WQ.thenExit ?_ | refine WQ.thenRet ?_ | refine WQ.blk ?_ | refine WQ.blkRet ?_ | refine WQ.blkHere rfl ?_ | refine WQ.blkOther rfl ?_ | refine WL.pure rfl rfl rfl rfl ?_ | refine WL.on rfl rfl ?_ | refine WL.off rfl rfl rfl ?_ | refine WC.condTrue rfl ?_ | refine WC.condFalse rfl ?_)
        exact WQ.meet (c, rc) ⟨rfl, rfl, rfl, rfl, rfl, rfl, trivial⟩ ⟨O1, O2, hP5⟩
    clear hP5 wk
    rintro ⟨c, rc⟩ wk ⟨O1, O2, hP⟩
    simp only at hP
    repeat (first | ((with_reducible refine WL.topT ?_ ?_); omega) | ((with_reducible refine WL.topF ?_ ?_); omega) | ((with_reducible refine WL.top64 ?_ ?_); omega) | refine WC.seq ?_ | refine WC.block ?_ | refine WC.region ?_ | refine WL.nil ?_ | refine WC.skip ?_ | refine WC.exit ?_ | refine WC.ret ?_ | refine WQ.then rfl ?_ | refine WQ.thenExit ?_ | refine WQ.thenRet ?_ | refine WQ.blk ?_ | refine WQ.blkRet ?_ | refine WQ.blkHere rfl ?_ | refine WQ.blkOther rfl ?_ | refine WL.pure rfl rfl rfl rfl ?_ | refine WL.on rfl rfl ?_ | refine WL.off rfl rfl rfl ?_ | refine WC.condTrue rfl ?_ | refine WC.condFalse rfl ?_)
    refine WL.call rfl rfl rfl rfl rfl Try.func11 rfl (by kernel_rfl) (all_any hP.cat) ?_
    rintro _ wa ⟨spq, cq, rfl, hTa, ba⟩
    refine ⟨_, rfl, ?_⟩
    have hPa := hP.below ba
    obtain ⟨tv, rcells, hR⟩ := hPa.ref
    obtain ⟨spr, cpr, rfl, -, -⟩ := hR.own.slice
    obtain ⟨acells, hAo, hAt⟩ := hTa
    have cr := hR.vb.cell 0 (by simp)
    simp only [List.getD_cons_zero] at cr
    have lrc := hR.lt _ hR.rc
    have hlen := hR.good.len
    repeat (first | ((with_reducible refine WL.topT ?_ ?_); omega) | ((with_reducible refine WL.topF ?_ ?_); omega) | ((with_reducible refine WL.top64 ?_ ?_); omega) | refine WC.seq ?_ | refine WC.block ?_ | refine WC.region ?_ | refine WL.nil ?_ | refine WC.skip ?_ | refine WC.exit ?_ | refine WC.ret ?_ | refine WQ.then rfl ?_ | refine WQ.thenExit ?_ | refine WQ.thenRet ?_ | refine WQ.blk ?_ | refine WQ.blkRet ?_ | refine WQ.blkHere rfl ?_ | refine WQ.blkOther rfl ?_ | refine WL.pure rfl rfl rfl rfl ?_ | refine WL.on rfl rfl ?_ | refine WL.off rfl rfl rfl ?_ | refine WL.load rfl rfl rfl rfl rfl rfl (by assumption) ?_ | refine WC.condTrue rfl ?_ | refine WC.condFalse rfl ?_)
    refine WC.loop (fun k : Nat => [(0, .slice (some ⟨b, o, none⟩) l.length cap), (1, .int .i64 copies), (2, .string field), (7, .pointer (some ⟨c, 0, none⟩)), (8, .pointer (some ⟨rc, 0, none⟩)), (9, .int .i64 i), (20, .slice spq L.length cq), (21, .int .i64 k)])
      (fun k w' => k ≤ L.length ∧ Below wa.heap.size wa w') (fun k => L.length - k) 0 ⟨rfl, rfl, rfl, rfl, rfl, rfl, rfl, rfl, trivial⟩ ⟨Nat.zero_le _, Below.refl _ _⟩ ?_
    rintro k wk' ⟨hk, hbk⟩
    by_cases hkn : k < L.length
    · obtain ⟨ga, ca, es, -, -, lga, -, a0, a1, a2, spa, caa, a3, hoa⟩ := tab_cells hAo hkn (hAt k hkn)
      obtain ⟨rfl, rfl⟩ : spq = some ⟨ga, 0, none⟩ ∧ cq = ca := by simpa using es
      clear es
      obtain ⟨gb, cb, es, -, -, lgb, -, d0, d1, d2, spb, cbb, d3, hob⟩ := tab_cells hR.own hkn (hR.tab k hkn)
      obtain ⟨rfl, rfl⟩ : spr = some ⟨gb, 0, none⟩ ∧ cpr = cb := by simpa using es
      clear es
      have ra := range4 a0 a1 a2 a3
      have rb := range4 d0 d1 d2 d3
      generalize L.getD k noTb = t at ra rb hoa hob
      clear a0 a1 a2 a3 d0 d1 d2 d3
      have up : ∀ {g off : Nat} {cs : List Value} {wx : World}, g < wa.heap.size → wa.rangeAt g off cs → Below wa.heap.size wa wx → wx.rangeAt g off cs := fun hg hr hx k u hu => (hx.cell (p := ⟨_, _, none⟩) hg).trans (hr k u hu)
      repeat (first | ((with_reducible refine WL.topT ?_ ?_); omega) | ((with_reducible refine WL.topF ?_ ?_); omega) | ((with_reducible refine WL.top64 ?_ ?_); omega) | refine WC.seq ?_ | refine WC.block ?_ | refine WC.region ?_ | refine WL.nil ?_ | refine WC.skip ?_ | refine WC.exit ?_ | refine WC.ret ?_ | refine WQ.then rfl ?_ | refine WQ.thenExit ?_ | refine WQ.thenRet ?_ | refine WQ.blk ?_ | refine WQ.blkRet ?_ | refine WQ.blkHere rfl ?_ | refine WQ.blkOther rfl ?_ | refine WL.pure rfl rfl rfl rfl ?_ | refine WL.on rfl rfl ?_ | refine WL.off rfl rfl rfl ?_ | refine WC.condTrue rfl ?_ | refine WC.condFalse rfl ?_)
      refine WC.drawn 11 (fun wx => Below wa.heap.size wa wx) fun w3 hd => ?_
      have hS : Below wa.heap.size wa w3 := hbk.trans (hd.below _)
      (((first | refine WD.free 0 rfl (by kernel_rfl) rfl rfl (fun _ _ _ _ _ h => h) rfl rfl (.inr hS) ?_ | refine WD.skip 0 rfl (by kernel_rfl) rfl rfl (fun _ _ _ _ _ h => h) rfl (.inr hS) ?_); try (first | ((with_reducible refine WD.topT ?_ ?_); omega) | ((with_reducible refine WD.topF ?_ ?_); omega) | ((with_reducible refine WD.top64 ?_ ?_); omega))); ((first | refine WD.free 1 rfl (by kernel_rfl) rfl rfl (fun _ _ _ _ _ h => h) rfl rfl (.inr hS) ?_ | refine WD.skip 1 rfl (by kernel_rfl) rfl rfl (fun _ _ _ _ _ h => h) rfl (.inr hS) ?_); try (first | ((with_reducible refine WD.topT ?_ ?_); omega) | ((with_reducible refine WD.topF ?_ ?_); omega) | ((with_reducible refine WD.top64 ?_ ?_); omega))))
      refine WD.idx 2 k (k * 4) rfl (by kernel_rfl) rfl rfl (fun _ _ _ _ _ h => h) rfl rfl rfl rfl rfl rfl hkn (by omega) (.inr hS) ?_
      refine WD.loadMid 3 [11, 12] rfl (by kernel_rfl) rfl rfl (fun _ _ _ _ _ h => h) rfl rfl rfl rfl (fun wx hx => up lga ra hx) rfl hS ?_
      (((first | refine WD.free 4 rfl (by kernel_rfl) rfl rfl (fun _ _ _ _ _ h => h) rfl rfl (.inr hS) ?_ | refine WD.skip 4 rfl (by kernel_rfl) rfl rfl (fun _ _ _ _ _ h => h) rfl (.inr hS) ?_); try (first | ((with_reducible refine WD.topT ?_ ?_); omega) | ((with_reducible refine WD.topF ?_ ?_); omega) | ((with_reducible refine WD.top64 ?_ ?_); omega))); ((first | refine WD.free 5 rfl (by kernel_rfl) rfl rfl (fun _ _ _ _ _ h => h) rfl rfl (.inr hS) ?_ | refine WD.skip 5 rfl (by kernel_rfl) rfl rfl (fun _ _ _ _ _ h => h) rfl (.inr hS) ?_); try (first | ((with_reducible refine WD.topT ?_ ?_); omega) | ((with_reducible refine WD.topF ?_ ?_); omega) | ((with_reducible refine WD.top64 ?_ ?_); omega))); ((first | refine WD.free 6 rfl (by kernel_rfl) rfl rfl (fun _ _ _ _ _ h => h) rfl rfl (.inr hS) ?_ | refine WD.skip 6 rfl (by kernel_rfl) rfl rfl (fun _ _ _ _ _ h => h) rfl (.inr hS) ?_); try (first | ((with_reducible refine WD.topT ?_ ?_); omega) | ((with_reducible refine WD.topF ?_ ?_); omega) | ((with_reducible refine WD.top64 ?_ ?_); omega))))
      refine WD.load 7 [9, 10, 11, 12] rfl (by kernel_rfl) rfl rfl (fun _ _ _ _ _ h => h) rfl rfl rfl rfl (fun wx hx => (hx.cell (p := ⟨rc, 0, none⟩) lrc).trans cr) hS ?_
      (((first | refine WD.free 8 rfl (by kernel_rfl) rfl rfl (fun _ _ _ _ _ h => h) rfl rfl (.inr hS) ?_ | refine WD.skip 8 rfl (by kernel_rfl) rfl rfl (fun _ _ _ _ _ h => h) rfl (.inr hS) ?_); try (first | ((with_reducible refine WD.topT ?_ ?_); omega) | ((with_reducible refine WD.topF ?_ ?_); omega) | ((with_reducible refine WD.top64 ?_ ?_); omega))))
      refine WD.idx 9 k (k * 4) rfl (by kernel_rfl) rfl rfl (fun _ _ _ _ _ h => h) rfl rfl rfl rfl rfl rfl hkn (by omega) (.inr hS) ?_
      refine WD.loadMid 10 [11, 12] rfl (by kernel_rfl) rfl rfl (fun _ _ _ _ _ h => h) rfl rfl rfl rfl (fun wx hx => up lgb rb hx) rfl hS ?_
      refine WD.one 11 (by kernel_rfl) rfl ?_
      refine WL.call rfl rfl rfl rfl rfl Try.func17 rfl (by kernel_rfl) (tables_any (a := ((k + 1 : Nat) : Int)) (t := t) (hoa.keep (Keep.of_below hS) (fun g hg => hoa.lt hg)) (hob.keep (Keep.of_below hS) (fun g hg => hob.lt hg))) ?_
      rintro _ wy ⟨rfl, by1⟩
      refine ⟨_, rfl, ?_⟩
      replace hS := hS.trans (by1.mono hS.size)
      refine WL.nil (WQ.dk (.inl rfl) ?_)
      (((first | refine WD.free 12 rfl (by kernel_rfl) rfl rfl (fun _ _ _ _ _ h => h) rfl rfl (.inl rfl) ?_ | refine WD.skip 12 rfl (by kernel_rfl) rfl rfl (fun _ _ _ _ _ h => h) rfl (.inl rfl) ?_); try (first | ((with_reducible refine WD.topT ?_ ?_); omega) | ((with_reducible refine WD.topF ?_ ?_); omega) | ((with_reducible refine WD.top64 ?_ ?_); omega))))
      refine WD.done (by kernel_rfl) ?_
      repeat (first | ((with_reducible refine WL.topT ?_ ?_); omega) | ((with_reducible refine WL.topF ?_ ?_); omega) | ((with_reducible refine WL.top64 ?_ ?_); omega) | refine WC.seq ?_ | refine WC.block ?_ | refine WC.region ?_ | refine WL.nil ?_ | refine WC.skip ?_ | refine WC.exit ?_ | refine WC.ret ?_ | refine WQ.then rfl ?_ | refine WQ.thenExit ?_ | refine WQ.thenRet ?_ | refine WQ.blk ?_ | refine WQ.blkRet ?_ | refine WQ.blkHere rfl ?_ | refine WQ.blkOther rfl ?_ | refine WL.pure rfl rfl rfl rfl ?_ | refine WL.on rfl rfl ?_ | refine WL.off rfl rfl rfl ?_ | refine WC.condTrue rfl ?_ | refine WC.condFalse rfl ?_)
      exact WQ.again (k + 1) ⟨rfl, rfl, rfl, rfl, rfl, rfl, rfl, rfl, trivial⟩ ⟨hkn, hS⟩ (by omega)
    · obtain rfl : k = L.length := by omega
      repeat (first | ((with_reducible refine WL.topT ?_ ?_); omega) | ((with_reducible refine WL.topF ?_ ?_); omega) | ((with_reducible refine WL.top64 ?_ ?_); omega) | refine WC.seq ?_ | refine WC.block ?_ | refine WC.region ?_ | refine WL.nil ?_ | refine WC.skip ?_ | refine WC.exit ?_ | refine WC.ret ?_ | refine WQ.then rfl ?_ | refine WQ.thenExit ?_ | refine WQ.thenRet ?_ | refine WQ.blk ?_ | refine WQ.blkRet ?_ | refine WQ.blkHere rfl ?_ | refine WQ.blkOther rfl ?_ | refine WL.pure rfl rfl rfl rfl ?_ | refine WL.on rfl rfl ?_ | refine WL.off rfl rfl rfl ?_ | refine WC.condTrue rfl ?_ | refine WC.condFalse rfl ?_)
      exact WQ.again (i + 1, c, rc) ⟨rfl, rfl, rfl, rfl, rfl, rfl, trivial⟩ ⟨hi', hil', L, O1, O2, hPa.below hbk⟩ (by show 150 - (i + 1) < 150 - i; omega)
  · have hx : ¬ i < l.length ∨ (i < l.length ∧ ¬ i < 150) := by omega
    rcases hx with hx | ⟨hx, hy⟩
    all_goals
      repeat (first | ((with_reducible refine WL.topT ?_ ?_); omega) | ((with_reducible refine WL.topF ?_ ?_); omega) | ((with_reducible refine WL.top64 ?_ ?_); omega) | refine WC.seq ?_ | refine WC.block ?_ | refine WC.region ?_ | refine WL.nil ?_ | refine WC.skip ?_ | refine WC.exit ?_ | refine WC.ret ?_ | refine WQ.then rfl ?_ | refine WQ.thenExit ?_ | refine WQ.thenRet ?_ | refine WQ.blk ?_ | refine WQ.blkRet ?_ | refine WQ.blkHere rfl ?_ | refine WQ.blkOther rfl ?_ | refine WL.pure rfl rfl rfl rfl ?_ | refine WL.on rfl rfl ?_ | refine WL.off rfl rfl rfl ?_ | refine WC.condTrue rfl ?_ | refine WC.condFalse rfl ?_)
      refine WL.call rfl rfl rfl rfl rfl Try.func7 rfl (by kernel_rfl) (known_any wr) ?_
      rintro _ w7 ⟨rfl, b7⟩
      refine ⟨_, rfl, ?_⟩
      repeat (first | ((with_reducible refine WL.topT ?_ ?_); omega) | ((with_reducible refine WL.topF ?_ ?_); omega) | ((with_reducible refine WL.top64 ?_ ?_); omega) | refine WC.seq ?_ | refine WC.block ?_ | refine WC.region ?_ | refine WL.nil ?_ | refine WC.skip ?_ | refine WC.exit ?_ | refine WC.ret ?_ | refine WQ.then rfl ?_ | refine WQ.thenExit ?_ | refine WQ.thenRet ?_ | refine WQ.blk ?_ | refine WQ.blkRet ?_ | refine WQ.blkHere rfl ?_ | refine WQ.blkOther rfl ?_ | refine WL.pure rfl rfl rfl rfl ?_ | refine WL.on rfl rfl ?_ | refine WL.off rfl rfl rfl ?_ | refine WC.condTrue rfl ?_ | refine WC.condFalse rfl ?_)
      exact WQ.ret1 rfl rfl ⟨rfl, hP.bel.trans (b7.mono hP.bel.size)⟩
end Cr
end Go.Proofs.Ytdaljjicekheiaa
