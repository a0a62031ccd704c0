/- The document's catalog (chapter 14): what it is in memory; what reads it. -/
import Derived.Test.YtdaljjicekheiaaCatE
import Derived.Test.YtdaljjicekheiaaKg
import Derived.Test.YtdaljjicekheiaaKl
namespace Go.Proofs.Ytdaljjicekheiaa
open Go.RowKit
namespace K
section
variable {fn : Func} {R : Ending → World → Prop} {l : Env} {w : World}
/-- The results are a whole block and a slot. -/
theorem WQ.retBT {kn : Nat} {md : Option (Option Nat)} {p q g T m : Nat} {ty' : TypeId} {cs : List Value} {x : Value} (hr : fn.results = #[.cell p ty', .tmp q]) (hl : look l p = some (.pointer (some ⟨g, 0, none⟩))) (hq : look l q = some x) (ht : cellsN (tyOf ty ty') = some m) (hm : cs.length = m) (hb : VBlk T w g cs)
    (h : R (.returned (.tuple #[.agg cs.toArray, x])) w) : WQ ⟨kn, [], md⟩ (bodyPost Try.prog fn R) .ret l w :=
  ⟨fun a ha => ⟨ha.defers, _, by
    obtain ⟨_, hu, hdd, hsz⟩ := cellsN_ok tyOk ht
    have hp := ha.getD hl
    have hx := ha.getD hq
    simp only [Array.getD_eq_getD_getElem?] at hp hx
    have := run_loadVar_mid (P := Try.prog) w g 0 ty' cs _ (VBlk.rangeAt hb) hu hdd (by rw [hsz, hm])
    simp [results, hr, hp, hx, asAddr, this], h⟩⟩
end
theorem range4 {w : World} {b o : Nat} {a0 a1 a2 a3 : Value} (h0 : w.cell? ⟨b, o, none⟩ = some a0) (h1 : w.cell? ⟨b, o + 1, none⟩ = some a1) (h2 : w.cell? ⟨b, o + 2, none⟩ = some a2) (h3 : w.cell? ⟨b, o + 3, none⟩ = some a3) : w.rangeAt b o [a0, a1, a2, a3] := by
  intro j u hu
  match j, hu with
  | 0, hu => cases hu; exact h0
  | 1, hu => cases hu; exact h1
  | 2, hu => cases hu; exact h2
  | 3, hu => cases hu; exact h3
  | k + 4, hu => simp at hu
end K
namespace Cr
open K Cat
section
variable {n : NN} {Q : Exit → Act → World → Prop} {l : Env} {w : World} {ops : Array Oper} {d : Nat} {S : World → Prop} {m fuel : Nat} {listed : Array Bool}
/-- A struct of parts, taken first. -/
theorem WDbuild {oi : Oper} {t : Nat} {parts : List (Nat × Operand)} {ps : List (Nat × Value)} (cells : List Value) (i : Nat) (hi : ops[i]? = some oi) (hs : mayB ops listed i m = true) (hd : oi.dst = some d) (hn : Nat.blt d n.n = true)
    (hQ : Passes Q) (hw : wants ops l oi = some true) (ho : oi.op = .build t parts.toArray) (hp : evlParts l parts = some ps) (hf : Try.prog.built t ps = some cells.toArray) (hS : listed.getD m false = true ∨ S w)
    (h : WD n ops Q S m fuel (listed.setIfInBounds i true) ((d, .agg cells.toArray) :: l) w) : WD n ops Q S m (fuel + 1) listed l w :=
  K.WD.first i hi hs hd hn hQ (fun a ha => .inl ⟨wants_run ha hw, fun w _ => by
    unfold execOp
    rw [ho]
    have := run_build (P := Try.prog) w t (parts.toArray.map fun (i, x) => (i, a.eval x)) cells.toArray (by
      rw [show (parts.toArray.map fun (x : Nat × Operand) => (x.1, a.eval x.2)).toList = ps by rw [Array.toList_map]; exact evlParts_map ha hp]
      exact hf)
    simp only [Sem.run_bind, this, Result.andThen_ok]
    rfl⟩) hS h
end
abbrev rtT : Nat := 54
abbrev rcT : Nat := 51
abbrev stT : Nat := 9
theorem keepRow {K : Nat → Prop} {a w : World} (h : Keep K a w) {g : Nat} (hg : ¬ K g) (cs : Array Value) : Keep K a (w.setRow g cs) :=
  ⟨h.os, h.tape, h.output, by simpa using h.size, fun k hk => (setRow_other w g k cs (fun e => hg (e ▸ hk))).trans (h.block k hk)⟩
/-- Block rc is the document's Catalog of the tables L, which lie in tv; O: its blocks. -/
structure RC (w : World) (rc : Nat) (O : Nat → Prop) (L : List Tb) (tv : Value) (cells : List Value) : Prop where
  vb : VBlk rcT w rc [tv]
  own : OwnV rtT 4 w O tv L.length cells
  tab : ∀ i, i < L.length → IsTab stT w O cells i (L.getD i noTb)
  rc : O rc
  lt : ∀ b, O b → b < w.heap.size
  good : Cat.Good L
def RCat (w : World) (rc : Nat) (O : Nat → Prop) (L : List Tb) : Prop := ∃ tv cells, RC w rc O L tv cells
theorem RC.keep {w w' : World} {rc : Nat} {O : Nat → Prop} {L : List Tb} {tv : Value} {cells : List Value} (h : RC w rc O L tv cells) {K : Nat → Prop} (hk : Keep K w w') (hK : ∀ b, O b → K b) : RC w' rc O L tv cells :=
  ⟨h.vb.keep hk (hK _ h.rc), h.own.keep hk fun g hg => hK g (h.own.own hg), fun i hi => (h.tab i hi).of_block fun b hb _ => hk.block b (hK b hb), h.rc, fun b hb => Nat.lt_of_lt_of_le (h.lt b hb) hk.size, h.good⟩
theorem RC.below {w w' : World} {rc : Nat} {O : Nat → Prop} {L : List Tb} {tv : Value} {cells : List Value} (h : RC w rc O L tv cells) (hk : Below w.heap.size w w') : RC w' rc O L tv cells := h.keep (Keep.of_below hk) h.lt
theorem RCat.keep {w w' : World} {rc : Nat} {O : Nat → Prop} {L : List Tb} (h : RCat w rc O L) {K : Nat → Prop} (hk : Keep K w w') (hK : ∀ b, O b → K b) : RCat w' rc O L := by obtain ⟨tv, cells, h⟩ := h; exact ⟨tv, cells, h.keep hk hK⟩
theorem RCat.below {w w' : World} {rc : Nat} {O : Nat → Prop} {L : List Tb} (h : RCat w rc O L) (hk : Below w.heap.size w w') : RCat w' rc O L := by obtain ⟨tv, cells, h⟩ := h; exact ⟨tv, cells, h.below hk⟩
theorem RCat.good {w : World} {rc : Nat} {O : Nat → Prop} {L : List Tb} (h : RCat w rc O L) : Cat.Good L := by obtain ⟨tv, cells, h⟩ := h; exact h.good
theorem RCat.lt {w : World} {rc : Nat} {O : Nat → Prop} {L : List Tb} (h : RCat w rc O L) : ∀ b, O b → b < w.heap.size := by obtain ⟨tv, cells, h⟩ := h; exact h.lt
theorem RCat.rc {w : World} {rc : Nat} {O : Nat → Prop} {L : List Tb} (h : RCat w rc O L) : O rc := by obtain ⟨tv, cells, h⟩ := h; exact h.rc
theorem there_split {L : List Tb} {id : Int} : (∃ k : Nat, k < L.length ∧ id = (k : Int) + 1 ∧ there L id = !(L.getD k noTb).dropped) ∨ ((id < 1 ∨ (L.length : Int) < id) ∧ there L id = false) := by
  by_cases h1 : 1 ≤ id
  · by_cases h2 : id ≤ L.length
    · refine .inl ⟨(id - 1).toNat, by omega, by omega, ?_⟩
      unfold there
      rw [decide_eq_true h1, decide_eq_true h2]
      simp
    · refine .inr ⟨.inr (by omega), ?_⟩
      unfold there
      rw [decide_eq_false h2]
      simp
  · refine .inr ⟨.inl (by omega), ?_⟩
    unfold there
    rw [decide_eq_false h1]
    simp
set_option maxHeartbeats 1000000 in
theorem rthere_any {w : World} {rc : Nat} {O : Nat → Prop} {L : List Tb} {tv : Value} {cells : List Value} (h : RC w rc O L tv cells) (id : Int) :
    Calls Try.prog 26 #[.pointer (some ⟨rc, 0, none⟩), .int .i64 id] w fun e w' => w' = w ∧
      ((there L id = false ∧ e = .returned (.pointer none)) ∨ ∃ k g cap, k < L.length ∧ id = (k : Int) + 1 ∧ there L id = true ∧ (L.getD k noTb).dropped = false ∧ tv = .slice (some ⟨g, 0, none⟩) L.length cap ∧ e = .returned (.pointer (some ⟨g, k * 4, none⟩))) := by
  have hlen := h.good.len
  rcases there_split (L := L) (id := id) with ⟨k, hk, rfl, ht⟩ | ⟨ho, ht⟩
  · obtain ⟨g, cap, rfl, -, -, -, -, c0, c1, c2, sp, c, c3, -⟩ := tab_cells h.own hk (h.tab k hk)
    have cv := h.vb.cell 0 (by simp)
    simp only [List.getD_cons_zero] at cv
    generalize ht0 : L.getD k noTb = t at ht c0 c1 c2 c3
    refine enter (args := [.pointer (some ⟨rc, 0, none⟩), .int .i64 ((k : Int) + 1)]) Try.func26 rfl Try.ntmps26 rfl ?_
    cases hd : t.dropped with
    | true =>
      rw [hd] at c2 ht
      repeat (first | ((with_reducible refine WL.topT ?_ ?_); omega) | ((with_reducible refine WL.topF ?_ ?_); omega) | ((with_reducible refine WL.top64 ?_ ?_); omega) | refine WC.seq ?_ | refine WC.block ?_ | refine WC.region ?_ | refine WL.nil ?_ | refine WC.skip ?_ | refine WC.exit ?_ | refine WC.ret ?_ | refine WQ.then rfl ?_ | refine WQ.thenExit ?_ | refine WQ.thenRet ?_ | refine WQ.blk ?_ | refine WQ.blkRet ?_ | refine WQ.blkHere rfl ?_ | refine WQ.blkOther rfl ?_ | refine WL.pure rfl rfl rfl rfl ?_ | refine WL.on rfl rfl ?_ | refine WL.off rfl rfl rfl ?_ | refine WL.load rfl rfl rfl rfl rfl rfl (by assumption) ?_ | refine WC.condTrue rfl ?_ | refine WC.condFalse rfl ?_)
      refine WL.idx k (k * 4) rfl rfl rfl rfl rfl rfl rfl (by omega) hk (by omega) ?_
      repeat (first | ((with_reducible refine WL.topT ?_ ?_); omega) | ((with_reducible refine WL.topF ?_ ?_); omega) | ((with_reducible refine WL.top64 ?_ ?_); omega) | refine WC.seq ?_ | refine WC.block ?_ | refine WC.region ?_ | refine WL.nil ?_ | refine WC.skip ?_ | refine WC.exit ?_ | refine WC.ret ?_ | refine WQ.then rfl ?_ | refine WQ.thenExit ?_ | refine WQ.thenRet ?_ | refine WQ.blk ?_ | refine WQ.blkRet ?_ | refine WQ.blkHere rfl ?_ | refine WQ.blkOther rfl ?_ | refine WL.pure rfl rfl rfl rfl ?_ | refine WL.on rfl rfl ?_ | refine WL.off rfl rfl rfl ?_ | refine WL.load rfl rfl rfl rfl rfl rfl (by assumption) ?_ | refine WC.condTrue rfl ?_ | refine WC.condFalse rfl ?_)
      exact WQ.ret1 rfl rfl ⟨rfl, .inl ⟨ht, rfl⟩⟩
    | false =>
      rw [hd] at c2 ht
      repeat (first | ((with_reducible refine WL.topT ?_ ?_); omega) | ((with_reducible refine WL.topF ?_ ?_); omega) | ((with_reducible refine WL.top64 ?_ ?_); omega) | refine WC.seq ?_ | refine WC.block ?_ | refine WC.region ?_ | refine WL.nil ?_ | refine WC.skip ?_ | refine WC.exit ?_ | refine WC.ret ?_ | refine WQ.then rfl ?_ | refine WQ.thenExit ?_ | refine WQ.thenRet ?_ | refine WQ.blk ?_ | refine WQ.blkRet ?_ | refine WQ.blkHere rfl ?_ | refine WQ.blkOther rfl ?_ | refine WL.pure rfl rfl rfl rfl ?_ | refine WL.on rfl rfl ?_ | refine WL.off rfl rfl rfl ?_ | refine WL.load rfl rfl rfl rfl rfl rfl (by assumption) ?_ | refine WC.condTrue rfl ?_ | refine WC.condFalse rfl ?_)
      refine WL.idx k (k * 4) rfl rfl rfl rfl rfl rfl rfl (by omega) hk (by omega) ?_
      repeat (first | ((with_reducible refine WL.topT ?_ ?_); omega) | ((with_reducible refine WL.topF ?_ ?_); omega) | ((with_reducible refine WL.top64 ?_ ?_); omega) | refine WC.seq ?_ | refine WC.block ?_ | refine WC.region ?_ | refine WL.nil ?_ | refine WC.skip ?_ | refine WC.exit ?_ | refine WC.ret ?_ | refine WQ.then rfl ?_ | refine WQ.thenExit ?_ | refine WQ.thenRet ?_ | refine WQ.blk ?_ | refine WQ.blkRet ?_ | refine WQ.blkHere rfl ?_ | refine WQ.blkOther rfl ?_ | refine WL.pure rfl rfl rfl rfl ?_ | refine WL.on rfl rfl ?_ | refine WL.off rfl rfl rfl ?_ | refine WL.load rfl rfl rfl rfl rfl rfl (by assumption) ?_ | refine WC.condTrue rfl ?_ | refine WC.condFalse rfl ?_)
      refine WL.idx k (k * 4) rfl rfl rfl rfl rfl rfl rfl (by omega) hk (by omega) ?_
      repeat (first | ((with_reducible refine WL.topT ?_ ?_); omega) | ((with_reducible refine WL.topF ?_ ?_); omega) | ((with_reducible refine WL.top64 ?_ ?_); omega) | refine WC.seq ?_ | refine WC.block ?_ | refine WC.region ?_ | refine WL.nil ?_ | refine WC.skip ?_ | refine WC.exit ?_ | refine WC.ret ?_ | refine WQ.then rfl ?_ | refine WQ.thenExit ?_ | refine WQ.thenRet ?_ | refine WQ.blk ?_ | refine WQ.blkRet ?_ | refine WQ.blkHere rfl ?_ | refine WQ.blkOther rfl ?_ | refine WL.pure rfl rfl rfl rfl ?_ | refine WL.on rfl rfl ?_ | refine WL.off rfl rfl rfl ?_ | refine WL.load rfl rfl rfl rfl rfl rfl (by assumption) ?_ | refine WC.condTrue rfl ?_ | refine WC.condFalse rfl ?_)
      exact WQ.ret1 rfl rfl ⟨rfl, .inr ⟨k, g, cap, hk, rfl, ht, by rw [ht0, hd], rfl, rfl⟩⟩
  · obtain ⟨sp, cap, rfl, -, -⟩ := h.own.slice
    have cv := h.vb.cell 0 (by simp)
    simp only [List.getD_cons_zero] at cv
    refine enter (args := [.pointer (some ⟨rc, 0, none⟩), .int .i64 id]) Try.func26 rfl Try.ntmps26 rfl ?_
    rcases ho with ho | ho
    · repeat (first | ((with_reducible refine WL.topT ?_ ?_); omega) | ((with_reducible refine WL.topF ?_ ?_); omega) | ((with_reducible refine WL.top64 ?_ ?_); omega) | refine WC.seq ?_ | refine WC.block ?_ | refine WC.region ?_ | refine WL.nil ?_ | refine WC.skip ?_ | refine WC.exit ?_ | refine WC.ret ?_ | refine WQ.then rfl ?_ | refine WQ.thenExit ?_ | refine WQ.thenRet ?_ | refine WQ.blk ?_ | refine WQ.blkRet ?_ | refine WQ.blkHere rfl ?_ | refine WQ.blkOther rfl ?_ | refine WL.pure rfl rfl rfl rfl ?_ | refine WL.on rfl rfl ?_ | refine WL.off rfl rfl rfl ?_ | refine WL.load rfl rfl rfl rfl rfl rfl (by assumption) ?_ | refine WC.condTrue rfl ?_ | refine WC.condFalse rfl ?_)
      exact WQ.ret1 rfl rfl ⟨rfl, .inl ⟨ht, rfl⟩⟩
    · by_cases h1 : id < 1
      · repeat (first | ((with_reducible refine WL.topT ?_ ?_); omega) | ((with_reducible refine WL.topF ?_ ?_); omega) | ((with_reducible refine WL.top64 ?_ ?_); omega) | refine WC.seq ?_ | refine WC.block ?_ | refine WC.region ?_ | refine WL.nil ?_ | refine WC.skip ?_ | refine WC.exit ?_ | refine WC.ret ?_ | refine WQ.then rfl ?_ | refine WQ.thenExit ?_ | refine WQ.thenRet ?_ | refine WQ.blk ?_ | refine WQ.blkRet ?_ | refine WQ.blkHere rfl ?_ | refine WQ.blkOther rfl ?_ | refine WL.pure rfl rfl rfl rfl ?_ | refine WL.on rfl rfl ?_ | refine WL.off rfl rfl rfl ?_ | refine WL.load rfl rfl rfl rfl rfl rfl (by assumption) ?_ | refine WC.condTrue rfl ?_ | refine WC.condFalse rfl ?_)
        exact WQ.ret1 rfl rfl ⟨rfl, .inl ⟨ht, rfl⟩⟩
      · repeat (first | ((with_reducible refine WL.topT ?_ ?_); omega) | ((with_reducible refine WL.topF ?_ ?_); omega) | ((with_reducible refine WL.top64 ?_ ?_); omega) | refine WC.seq ?_ | refine WC.block ?_ | refine WC.region ?_ | refine WL.nil ?_ | refine WC.skip ?_ | refine WC.exit ?_ | refine WC.ret ?_ | refine WQ.then rfl ?_ | refine WQ.thenExit ?_ | refine WQ.thenRet ?_ | refine WQ.blk ?_ | refine WQ.blkRet ?_ | refine WQ.blkHere rfl ?_ | refine WQ.blkOther rfl ?_ | refine WL.pure rfl rfl rfl rfl ?_ | refine WL.on rfl rfl ?_ | refine WL.off rfl rfl rfl ?_ | refine WL.load rfl rfl rfl rfl rfl rfl (by assumption) ?_ | refine WC.condTrue rfl ?_ | refine WC.condFalse rfl ?_)
        exact WQ.ret1 rfl rfl ⟨rfl, .inl ⟨ht, rfl⟩⟩
theorem rname_any (s : ByteArray) (w : World) : Calls Try.prog 25 #[.string s] w fun e w' => w' = w ∧ e = .returned (.bool (isNm s)) := by
  refine enter (args := [.string s]) Try.func25 rfl Try.ntmps25 rfl ?_
  unfold isNm
  by_cases h1 : 1 ≤ s.size
  · by_cases h2 : s.size ≤ 40
    · repeat (first | ((with_reducible refine WL.topT ?_ ?_); omega) | ((with_reducible refine WL.topF ?_ ?_); omega) | ((with_reducible refine WL.top64 ?_ ?_); omega) | refine WC.seq ?_ | refine WC.block ?_ | refine WC.region ?_ | refine WL.nil ?_ | refine WC.skip ?_ | refine WC.exit ?_ | refine WC.ret ?_ | refine WQ.then rfl ?_ | refine WQ.thenExit ?_ | refine WQ.thenRet ?_ | refine WQ.blk ?_ | refine WQ.blkRet ?_ | refine WQ.blkHere rfl ?_ | refine WQ.blkOther rfl ?_ | refine WL.pure rfl rfl rfl rfl ?_ | refine WL.on rfl rfl ?_ | refine WL.off rfl rfl rfl ?_ | refine WC.condTrue rfl ?_ | refine WC.condFalse rfl ?_)
      exact WQ.ret1 rfl rfl ⟨rfl, by simp [h1, h2]⟩
    · repeat (first | ((with_reducible refine WL.topT ?_ ?_); omega) | ((with_reducible refine WL.topF ?_ ?_); omega) | ((with_reducible refine WL.top64 ?_ ?_); omega) | refine WC.seq ?_ | refine WC.block ?_ | refine WC.region ?_ | refine WL.nil ?_ | refine WC.skip ?_ | refine WC.exit ?_ | refine WC.ret ?_ | refine WQ.then rfl ?_ | refine WQ.thenExit ?_ | refine WQ.thenRet ?_ | refine WQ.blk ?_ | refine WQ.blkRet ?_ | refine WQ.blkHere rfl ?_ | refine WQ.blkOther rfl ?_ | refine WL.pure rfl rfl rfl rfl ?_ | refine WL.on rfl rfl ?_ | refine WL.off rfl rfl rfl ?_ | refine WC.condTrue rfl ?_ | refine WC.condFalse rfl ?_)
      exact WQ.ret1 rfl rfl ⟨rfl, by simp [h2]⟩
  · repeat (first | ((with_reducible refine WL.topT ?_ ?_); omega) | ((with_reducible refine WL.topF ?_ ?_); omega) | ((with_reducible refine WL.top64 ?_ ?_); omega) | refine WC.seq ?_ | refine WC.block ?_ | refine WC.region ?_ | refine WL.nil ?_ | refine WC.skip ?_ | refine WC.exit ?_ | refine WC.ret ?_ | refine WQ.then rfl ?_ | refine WQ.thenExit ?_ | refine WQ.thenRet ?_ | refine WQ.blk ?_ | refine WQ.blkRet ?_ | refine WQ.blkHere rfl ?_ | refine WQ.blkOther rfl ?_ | refine WL.pure rfl rfl rfl rfl ?_ | refine WL.on rfl rfl ?_ | refine WL.off rfl rfl rfl ?_ | refine WC.condTrue rfl ?_ | refine WC.condFalse rfl ?_)
    exact WQ.ret1 rfl rfl ⟨rfl, by simp [h1]⟩
/-- What an answer with a table says: its number, itself, a code. -/
def RtPost (w : World) (O : Nat → Prop) (r : Int × Tb × Int) (e : Ending) (w' : World) : Prop :=
  ∃ fv, e = .returned (.tuple #[.agg #[.int .i64 r.1, .string r.2.1.name, .bool r.2.1.dropped, fv], .int .i64 r.2.2]) ∧ OwnV stT 1 w' O fv r.2.1.fs.length (r.2.1.fs.map Value.string) ∧ Below w.heap.size w w'
def zTab : List Value := [.int .i64 0, .string ByteArray.empty, .bool false, .slice none 0 0]
theorem zeroRT (w : World) : (zeroValue rtT).run Try.prog w = .ok (.agg zTab.toArray) w := by kernel_rfl
theorem builtRT : Try.prog.built rtT [] = some zTab.toArray := by kernel_rfl
theorem ones4 {a : Int} {b : ByteArray} {c : Bool} {v : Value} (hv : v.oneCell' = true) : Ones [.int .i64 a, .string b, .bool c, v] := fun u hu => by
  simp at hu
  rcases hu with rfl | rfl | rfl | rfl <;> first | rfl | exact hv
theorem OwnV.one {e : TypeId} {m : Nat} {w : World} {O : Nat → Prop} {v : Value} {n : Nat} {l : List Value} (h : OwnV e m w O v n l) : v.oneCell' = true := by obtain ⟨_, _, rfl, -⟩ := h.slice; rfl
set_option maxHeartbeats 1000000 in
theorem rtable_any {w : World} {rc : Nat} {O : Nat → Prop} {L : List Tb} (h : RCat w rc O L) (id : Int) : Calls Try.prog 16 #[.pointer (some ⟨rc, 0, none⟩), .int .i64 id] w (RtPost w O (tabR L id)) := by
  obtain ⟨tv, cells, h⟩ := h
  have hlen := h.good.len
  obtain ⟨sp0, cap0, rfl, -, -⟩ := h.own.slice
  refine enter (args := [.pointer (some ⟨rc, 0, none⟩), .int .i64 id]) Try.func16 rfl Try.ntmps16 rfl ?_
  repeat (first | refine WC.seq ?_ | refine WC.block ?_ | refine WC.region ?_ | refine WL.nil ?_ | refine WC.skip ?_ | refine WC.exit ?_ | refine WC.ret ?_ | refine WQ.then rfl ?_ | refine WQ.thenExit ?_ | refine WQ.thenRet ?_ | refine WQ.blk ?_ | refine WQ.blkRet ?_ | refine WQ.blkHere rfl ?_ | refine WQ.blkOther rfl ?_)
  refine WL.alloc (z := .agg zTab.toArray) rfl rfl rfl rfl zeroRT fun g w1 f1 => ?_
  have h1 := h.below f1.below
  have cv := h1.vb.cell 0 (by simp)
  simp only [List.getD_cons_zero] at cv
  have bz := f1.blk
  have b1 := f1.below
  have eg := f1.eq
  by_cases hin : 1 ≤ id ∧ id ≤ L.length
  · obtain ⟨hi1, hi2⟩ := hin
    obtain ⟨k, rfl⟩ : ∃ k : Nat, id = (k : Int) + 1 := ⟨(id - 1).toNat, by omega⟩
    have hk : k < L.length := by omega
    have hr : tabR L ((k : Int) + 1) = ((k : Int) + 1, L.getD k noTb, 0) := by
      unfold tabR
      rw [if_pos ⟨by omega, by omega⟩, show ((k : Int) + 1 - 1).toNat = k by omega]
    rw [hr]
    obtain ⟨g', cap, es, -, -, -, -, c0, c1, c2, sp, c, c3, hown⟩ := tab_cells h1.own hk (h1.tab k hk)
    obtain ⟨rfl, rfl⟩ : sp0 = some ⟨g', 0, none⟩ ∧ cap0 = cap := by simpa using es
    clear es
    generalize L.getD k noTb = t at c0 c1 c2 c3 hown ⊢
    repeat (first | ((with_reducible refine WL.topT ?_ ?_); omega) | ((with_reducible refine WL.topF ?_ ?_); omega) | ((with_reducible refine WL.top64 ?_ ?_); omega) | refine WC.seq ?_ | refine WC.block ?_ | refine WC.region ?_ | refine WL.nil ?_ | refine WC.skip ?_ | refine WC.exit ?_ | refine WC.ret ?_ | refine WQ.then rfl ?_ | refine WQ.thenExit ?_ | refine WQ.thenRet ?_ | refine WQ.blk ?_ | refine WQ.blkRet ?_ | refine WQ.blkHere rfl ?_ | refine WQ.blkOther rfl ?_ | refine WL.pure rfl rfl rfl rfl ?_ | refine WL.on rfl rfl ?_ | refine WL.off rfl rfl rfl ?_ | refine WL.load rfl rfl rfl rfl rfl rfl (by assumption) ?_ | refine WC.condTrue rfl ?_ | refine WC.condFalse rfl ?_)
    refine WL.idx k (k * 4) rfl rfl rfl rfl rfl rfl rfl (by omega) hk (by omega) ?_
    refine WL.loadMid rfl rfl rfl rfl rfl rfl (range4 c0 c1 c2 c3) rfl ?_
    refine WL.storeRow rfl rfl rfl rfl rfl rfl bz rfl rfl (ones4 rfl) ?_
    have hne : Keep (fun b => b < w.heap.size) w (w1.setRow g [Value.int .i64 ((k + 1 : Nat) : Int), .string t.name, .bool t.dropped, .slice sp t.fs.length c].toArray) := keepRow (Keep.of_below b1) (fun hk => by omega) _
    repeat (first | ((with_reducible refine WL.topT ?_ ?_); omega) | ((with_reducible refine WL.topF ?_ ?_); omega) | ((with_reducible refine WL.top64 ?_ ?_); omega) | refine WC.seq ?_ | refine WC.block ?_ | refine WC.region ?_ | refine WL.nil ?_ | refine WC.skip ?_ | refine WC.exit ?_ | refine WC.ret ?_ | refine WQ.then rfl ?_ | refine WQ.thenExit ?_ | refine WQ.thenRet ?_ | refine WQ.blk ?_ | refine WQ.blkRet ?_ | refine WQ.blkHere rfl ?_ | refine WQ.blkOther rfl ?_ | refine WL.pure rfl rfl rfl rfl ?_ | refine WL.on rfl rfl ?_ | refine WL.off rfl rfl rfl ?_ | refine WC.condTrue rfl ?_ | refine WC.condFalse rfl ?_)
    refine WQ.retBT rfl rfl rfl rfl rfl (bz.setRow _) ⟨.slice sp t.fs.length c, rfl, hown.of_block fun b hb => ?_, hne.below⟩
    have : b < w.heap.size := h.lt b (hown.own hb)
    exact Go.setRow_other w1 g b _ (by omega)
  · have hr : tabR L id = (0, noTb, 7) := by unfold tabR; rw [if_neg hin]
    rw [hr]
    have fin : ∀ (v : Value), v = .agg zTab.toArray → True := fun _ _ => trivial
    clear fin
    have hx : id < 1 ∨ (¬ id < 1 ∧ (L.length : Int) < id) := by omega
    rcases hx with hx | ⟨hx, hy⟩
    all_goals
      repeat (first | ((with_reducible refine WL.topT ?_ ?_); omega) | ((with_reducible refine WL.topF ?_ ?_); omega) | ((with_reducible refine WL.top64 ?_ ?_); omega) | refine WC.seq ?_ | refine WC.block ?_ | refine WC.region ?_ | refine WL.nil ?_ | refine WC.skip ?_ | refine WC.exit ?_ | refine WC.ret ?_ | refine WQ.then rfl ?_ | refine WQ.thenExit ?_ | refine WQ.thenRet ?_ | refine WQ.blk ?_ | refine WQ.blkRet ?_ | refine WQ.blkHere rfl ?_ | refine WQ.blkOther rfl ?_ | refine WL.pure rfl rfl rfl rfl ?_ | refine WL.on rfl rfl ?_ | refine WL.off rfl rfl rfl ?_ | refine WL.load rfl rfl rfl rfl rfl rfl (by assumption) ?_ | refine WC.condTrue rfl ?_ | refine WC.condFalse rfl ?_)
      refine WL.build zTab rfl rfl rfl rfl rfl builtRT ?_
      refine WL.storeRow rfl rfl rfl rfl rfl rfl bz rfl rfl (ones4 rfl) ?_
      have hne : Keep (fun b => b < w.heap.size) w (w1.setRow g zTab.toArray) := keepRow (Keep.of_below b1) (fun hk => by omega) _
      repeat (first | ((with_reducible refine WL.topT ?_ ?_); omega) | ((with_reducible refine WL.topF ?_ ?_); omega) | ((with_reducible refine WL.top64 ?_ ?_); omega) | refine WC.seq ?_ | refine WC.block ?_ | refine WC.region ?_ | refine WL.nil ?_ | refine WC.skip ?_ | refine WC.exit ?_ | refine WC.ret ?_ | refine WQ.then rfl ?_ | refine WQ.thenExit ?_ | refine WQ.thenRet ?_ | refine WQ.blk ?_ | refine WQ.blkRet ?_ | refine WQ.blkHere rfl ?_ | refine WQ.blkOther rfl ?_ | refine WL.pure rfl rfl rfl rfl ?_ | refine WL.on rfl rfl ?_ | refine WL.off rfl rfl rfl ?_ | refine WC.condTrue rfl ?_ | refine WC.condFalse rfl ?_)
      exact WQ.retBT rfl rfl rfl rfl rfl (bz.setRow _) ⟨.slice none 0 0, rfl, OwnV.nil _ _ _ _, hne.below⟩
end Cr
end Go.Proofs.Ytdaljjicekheiaa
