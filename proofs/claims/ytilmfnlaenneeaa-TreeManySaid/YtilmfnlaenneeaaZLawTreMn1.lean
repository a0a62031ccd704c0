/-
  For every three numbers the law TreeMany answers true, and the arguments read as they did. No condition.
-/
import Derived.Test.YtilmfnlaenneeaaZLawTreNo6
import Derived.ChangeMaps5
/- The law TreeMany: walked. -/
namespace Go.Proofs.Ytilmfnlaenneeaa
open Go.RowKit
namespace K
open Tre
def nmZ (x : Int) : Ky := strOfNums [IntKind.u8.wrap (x / ↑(2 ^ min 16 IntKind.i64.bits)), IntKind.u8.wrap (x / ↑(2 ^ min 8 IntKind.i64.bits)), IntKind.u8.wrap x]
theorem name_any {w : World} (x : Int) : Calls Try.prog 16 #[.int .i64 x] w fun e w' => e = .returned (.string (nmZ x)) ∧ Below w.heap.size w w' := by
  refine enter (args := [.int .i64 x]) Try.func16 rfl Try.ntmps16 rfl ?_
  repeat (first | ((with_reducible refine WL.topT ?_ ?_); omega) | ((with_reducible refine WL.topF ?_ ?_); omega) | ((with_reducible refine WL.top64 ?_ ?_); omega) | refine WC.seq ?_ | refine WC.block ?_ | refine WC.region ?_ | refine WL.nil ?_ | refine WC.skip ?_ | refine WC.exit ?_ | refine WC.ret ?_ | refine WQ.then rfl ?_ | refine WQ.thenExit ?_ | refine WQ.thenRet ?_ | refine WQ.blk ?_ | refine WQ.blkRet ?_ | refine WQ.blkHere rfl ?_ | refine WQ.blkOther rfl ?_ | refine WL.pure rfl rfl rfl rfl ?_ | refine WL.on rfl rfl ?_ | refine WL.off rfl rfl rfl ?_ | refine WC.condTrue rfl ?_ | refine WC.condFalse rfl ?_)
  refine WL.lit rfl rfl rfl rfl rfl rfl rfl fun v w1 hv hb _ => ?_
  refine WL.strOf rfl rfl rfl rfl rfl rfl rfl rfl hv.sl ?_
  repeat (first | ((with_reducible refine WL.topT ?_ ?_); omega) | ((with_reducible refine WL.topF ?_ ?_); omega) | ((with_reducible refine WL.top64 ?_ ?_); omega) | refine WC.seq ?_ | refine WC.block ?_ | refine WC.region ?_ | refine WL.nil ?_ | refine WC.skip ?_ | refine WC.exit ?_ | refine WC.ret ?_ | refine WQ.then rfl ?_ | refine WQ.thenExit ?_ | refine WQ.thenRet ?_ | refine WQ.blk ?_ | refine WQ.blkRet ?_ | refine WQ.blkHere rfl ?_ | refine WQ.blkOther rfl ?_ | refine WL.pure rfl rfl rfl rfl ?_ | refine WL.on rfl rfl ?_ | refine WL.off rfl rfl rfl ?_ | refine WC.condTrue rfl ?_ | refine WC.condFalse rfl ?_)
  exact WQ.ret1 rfl rfl ⟨rfl, hb⟩
theorem e_nil : (⟨#[]⟩ : ByteArray).toList = [] := by kernel_rfl
theorem flt_all (l : List KV) : flt ⟨#[]⟩ ⟨#[]⟩ l = l := by
  unfold flt
  rw [List.filter_eq_self]
  intro e _
  have : kl e.1 ⟨#[]⟩ = false := by
    unfold kl
    rw [e_nil]
    cases h : e.1.toList with
    | nil => rfl
    | cons a r => rfl
  unfold inR isE
  rw [this, e_nil]
  rfl
theorem kpt_ne {T T' : TypeId} {W : World} {b g : Nat} {cur : Array Value} {x} {l : List Value} (h : W.heap[b]? = some (.cells cur T x)) (v : VBlk T' W g l) (hT : T' ≠ T) : b ≠ g := by
  intro e
  subst e
  have v' : W.heap[b]? = some (.cells l.toArray T' (0, 0)) := v
  rw [h] at v'
  injection v' with v'
  injection v' with _ v' _
  exact hT v'.symm
def kz (s : Int) (i : Nat) : Ky := nmZ (bits .and .i64 (IntKind.wrap .i64 ((i : Int) * s)) 1048575)
def lastK (l : List KV) : Ky := (l.getLast?.map Prod.fst).getD ⟨#[]⟩
theorem lastK_snoc (l : List KV) (x : KV) : lastK (l ++ [x]) = x.1 := by simp [lastK]
theorem srt_last {p : List KV} {x : KV} (h : Srt (p ++ [x])) (hp : p ≠ []) : kl (lastK p) x.1 = true := by
  obtain ⟨q, y, rfl⟩ := list_last p hp
  rw [lastK_snoc]
  have h1 := (srt_app.1 h).2.2
  exact h1 y (by simp) x (by simp)
theorem delL_mem {k : Ky} {l : List KV} {e : KV} (h : e ∈ delL k l) : e ∈ l ∧ e.1 ≠ k := by
  unfold delL at h
  rw [List.mem_filter] at h
  exact ⟨h.1, by simpa using h.2⟩
/-- The tree between two steps. -/
def TrW (w1 : World) (tb : Nat) (P : List KV → Prop) (w' : World) : Prop := Below w1.heap.size w1 w' ∧ ∃ st L, IsT w' st tb L ∧ L.length ≤ 1500 ∧ P L ∧ ∀ x, st x ≠ none → w1.heap.size ≤ x
theorem Mem.out {w : World} {st : St} (h : Mem w st) {D : Nat} {ob : Obj} (hD : w.heap[D]? = some ob) (ho : ob.isCells = false) : st D = none := by
  cases e : st D with
  | none => rfl
  | some nd =>
    obtain ⟨-, pv, hv⟩ := h D nd e
    obtain ⟨cur, T, x, hc⟩ := VBlk.isC hv
    rw [hD] at hc
    obtain rfl := Option.some.inj hc
    cases ho
/-- The tree between two rounds, a call set back standing. -/
def TrD (w1 : World) (tb D : Nat) (P : List KV → Prop) (w' : World) : Prop := Below w1.heap.size w1 w' ∧ w'.heap[D]? = some (.deferred (some [])) ∧ w1.heap.size ≤ D ∧ ∃ st L, IsT w' st tb L ∧ L.length ≤ 1500 ∧ P L ∧ ∀ x, st x ≠ none → w1.heap.size ≤ x
theorem TrD.imp {w1 w : World} {tb D : Nat} {P P' : List KV → Prop} (h : TrD w1 tb D P w) (hp : ∀ L, P L → P' L) : TrD w1 tb D P' w := by
  obtain ⟨h1, h2, h3, st, L, h4, h5, h6, h7⟩ := h
  exact ⟨h1, h2, h3, st, L, h4, h5, hp L h6, h7⟩
theorem TrD.below {w1 w w' : World} {tb D : Nat} {P : List KV → Prop} (h : TrD w1 tb D P w) (hb : Below w.heap.size w w') : TrD w1 tb D P w' := by
  obtain ⟨h1, h2, h3, st, L, h4, h5, h6, h7⟩ := h
  exact ⟨h1.trans (hb.mono h1.size), (hb.block D (lt_of_block h2)).trans h2, h3, st, L, h4.below hb, h5, h6, h7⟩
theorem TrD.del {w1 w : World} {tb D : Nat} {P : List KV → Prop} (h : TrD w1 tb D P w) (htb : w1.heap.size ≤ tb) (k : Ky) : Calls Try.prog 14 #[.pointer (some ⟨tb, 0, none⟩), .string k] w fun e w' => ∃ v, e = .returned v ∧ TrD w1 tb D (fun L => ∃ L0, P L0 ∧ L = delL k L0) w' := by
  obtain ⟨h1, h2, h3, st, L, h4, h5, h6, h7⟩ := h
  refine (tdel_any h4 k (by omega)).mono ?_
  rintro _ w5 ⟨st5, rfl, h8, hk5, hn5⟩
  have hD : st D = none := Mem.out h4.mem h2 rfl
  have hDt : D ≠ tb := fun e => by
    obtain ⟨root, nn, hv, -⟩ := h4.ex
    obtain ⟨_, _, _, hc⟩ := VBlk.isC hv
    rw [← e, h2] at hc
    cases hc
  have hsl : Srt L := by obtain ⟨-, -, _, _, -, hh⟩ := h4; exact hh.srt
  have := delL_length (k := k) hsl
  exact ⟨_, rfl, h1.trans (IsT.old hk5 h1.size htb h7), (hk5.block D ⟨lt_of_block h2, hD, hDt⟩).trans h2, h3, st5, _, h8, by omega, ⟨L, h6, rfl⟩, hn5.old h1.size h7⟩
def strM : Nat := 9
def boolM : Nat := 4
def intM : Nat := 3
set_option maxRecDepth 20000 in
set_option maxHeartbeats 4000000 in
theorem many_law {w : World} (n s d : Int) : Calls Try.prog 5 #[.int .i64 n, .int .i64 s, .int .i64 d] w fun e w' => e = .returned (.bool true) ∧ Below w.heap.size w w' := by
  refine enterM (args := [.int .i64 n, .int .i64 s, .int .i64 d]) Try.func5 rfl Try.ntmps5 rfl ?_
  refine WC.seq ?_
  repeat (first | refine WC.seq ?_ | refine WC.block ?_ | refine WC.region ?_ | refine WL.nil ?_ | refine WC.skip ?_ | refine WC.exit ?_ | refine WC.ret ?_ | refine WQ.then rfl ?_ | refine WQ.thenExit ?_ | refine WQ.thenRet ?_ | refine WQ.blk ?_ | refine WQ.blkRet ?_ | refine WQ.blkHere rfl ?_ | refine WQ.blkOther rfl ?_)
  refine WL.alloc (z := .bool false) rfl rfl rfl rfl (fun _ => by kernel_rfl) fun g w1 f1 => ?_
  have hg := f1.eq
  have v1 : VBlk boolM w1 g [.bool false] := f1.blk
  have b1 := f1.below
  have hs1 := f1.size
  clear f1
  refine WL.nil ?_
  refine WQ.then rfl ?_
  refine WC.seq ?_
  refine WC.seq ?_
  refine WC.mid (fun b : Bool => [(0, .int .i64 n), (1, .int .i64 s), (2, .int .i64 d), (6, .pointer (some ⟨g, 0, none⟩)), (37, .bool b)])
    (fun b w' => w' = w1 ∧ (b = false → 1 ≤ n ∧ n ≤ 1500)) rfl ?_ ?_
  · by_cases h1 : n < 1
    · repeat (first | ((with_reducible refine WL.topT ?_ ?_); omega) | ((with_reducible refine WL.topF ?_ ?_); omega) | ((with_reducible refine WL.top64 ?_ ?_); omega) | refine WC.seq ?_ | refine WC.block ?_ | refine WC.region ?_ | refine WL.nil ?_ | refine WC.skip ?_ | refine WC.exit ?_ | refine WC.ret ?_ | refine WQ.then rfl ?_ | refine WQ.thenExit ?_ | refine WQ.thenRet ?_ | refine WQ.blk ?_ | refine WQ.blkRet ?_ | refine WQ.blkHere rfl ?_ | refine WQ.blkOther rfl ?_ | refine WL.pure rfl rfl rfl rfl ?_ | refine WL.on rfl rfl ?_ | refine WL.off rfl rfl rfl ?_ | refine WC.condTrue rfl ?_ | refine WC.condFalse rfl ?_)
      exact WQ.meet true ⟨rfl, rfl, rfl, rfl, rfl, trivial⟩ ⟨rfl, fun h => by cases h⟩
    by_cases h2 : 1500 < n
    · repeat (first | ((with_reducible refine WL.topT ?_ ?_); omega) | ((with_reducible refine WL.topF ?_ ?_); omega) | ((with_reducible refine WL.top64 ?_ ?_); omega) | refine WC.seq ?_ | refine WC.block ?_ | refine WC.region ?_ | refine WL.nil ?_ | refine WC.skip ?_ | refine WC.exit ?_ | refine WC.ret ?_ | refine WQ.then rfl ?_ | refine WQ.thenExit ?_ | refine WQ.thenRet ?_ | refine WQ.blk ?_ | refine WQ.blkRet ?_ | refine WQ.blkHere rfl ?_ | refine WQ.blkOther rfl ?_ | refine WL.pure rfl rfl rfl rfl ?_ | refine WL.on rfl rfl ?_ | refine WL.off rfl rfl rfl ?_ | refine WC.condTrue rfl ?_ | refine WC.condFalse rfl ?_)
      exact WQ.meet true ⟨rfl, rfl, rfl, rfl, rfl, trivial⟩ ⟨rfl, fun h => by cases h⟩
    by_cases h3 : s < 1
    · repeat (first | ((with_reducible refine WL.topT ?_ ?_); omega) | ((with_reducible refine WL.topF ?_ ?_); omega) | ((with_reducible refine WL.top64 ?_ ?_); omega) | refine WC.seq ?_ | refine WC.block ?_ | refine WC.region ?_ | refine WL.nil ?_ | refine WC.skip ?_ | refine WC.exit ?_ | refine WC.ret ?_ | refine WQ.then rfl ?_ | refine WQ.thenExit ?_ | refine WQ.thenRet ?_ | refine WQ.blk ?_ | refine WQ.blkRet ?_ | refine WQ.blkHere rfl ?_ | refine WQ.blkOther rfl ?_ | refine WL.pure rfl rfl rfl rfl ?_ | refine WL.on rfl rfl ?_ | refine WL.off rfl rfl rfl ?_ | refine WC.condTrue rfl ?_ | refine WC.condFalse rfl ?_)
      exact WQ.meet true ⟨rfl, rfl, rfl, rfl, rfl, trivial⟩ ⟨rfl, fun h => by cases h⟩
    by_cases h4 : 1048576 < s
    · repeat (first | ((with_reducible refine WL.topT ?_ ?_); omega) | ((with_reducible refine WL.topF ?_ ?_); omega) | ((with_reducible refine WL.top64 ?_ ?_); omega) | refine WC.seq ?_ | refine WC.block ?_ | refine WC.region ?_ | refine WL.nil ?_ | refine WC.skip ?_ | refine WC.exit ?_ | refine WC.ret ?_ | refine WQ.then rfl ?_ | refine WQ.thenExit ?_ | refine WQ.thenRet ?_ | refine WQ.blk ?_ | refine WQ.blkRet ?_ | refine WQ.blkHere rfl ?_ | refine WQ.blkOther rfl ?_ | refine WL.pure rfl rfl rfl rfl ?_ | refine WL.on rfl rfl ?_ | refine WL.off rfl rfl rfl ?_ | refine WC.condTrue rfl ?_ | refine WC.condFalse rfl ?_)
      exact WQ.meet true ⟨rfl, rfl, rfl, rfl, rfl, trivial⟩ ⟨rfl, fun h => by cases h⟩
    by_cases h5 : d < 1
    · repeat (first | ((with_reducible refine WL.topT ?_ ?_); omega) | ((with_reducible refine WL.topF ?_ ?_); omega) | ((with_reducible refine WL.top64 ?_ ?_); omega) | refine WC.seq ?_ | refine WC.block ?_ | refine WC.region ?_ | refine WL.nil ?_ | refine WC.skip ?_ | refine WC.exit ?_ | refine WC.ret ?_ | refine WQ.then rfl ?_ | refine WQ.thenExit ?_ | refine WQ.thenRet ?_ | refine WQ.blk ?_ | refine WQ.blkRet ?_ | refine WQ.blkHere rfl ?_ | refine WQ.blkOther rfl ?_ | refine WL.pure rfl rfl rfl rfl ?_ | refine WL.on rfl rfl ?_ | refine WL.off rfl rfl rfl ?_ | refine WC.condTrue rfl ?_ | refine WC.condFalse rfl ?_)
      exact WQ.meet true ⟨rfl, rfl, rfl, rfl, rfl, trivial⟩ ⟨rfl, fun h => by cases h⟩
    by_cases h6 : 1048576 < d
    · repeat (first | ((with_reducible refine WL.topT ?_ ?_); omega) | ((with_reducible refine WL.topF ?_ ?_); omega) | ((with_reducible refine WL.top64 ?_ ?_); omega) | refine WC.seq ?_ | refine WC.block ?_ | refine WC.region ?_ | refine WL.nil ?_ | refine WC.skip ?_ | refine WC.exit ?_ | refine WC.ret ?_ | refine WQ.then rfl ?_ | refine WQ.thenExit ?_ | refine WQ.thenRet ?_ | refine WQ.blk ?_ | refine WQ.blkRet ?_ | refine WQ.blkHere rfl ?_ | refine WQ.blkOther rfl ?_ | refine WL.pure rfl rfl rfl rfl ?_ | refine WL.on rfl rfl ?_ | refine WL.off rfl rfl rfl ?_ | refine WC.condTrue rfl ?_ | refine WC.condFalse rfl ?_)
      exact WQ.meet true ⟨rfl, rfl, rfl, rfl, rfl, trivial⟩ ⟨rfl, fun h => by cases h⟩
    repeat (first | ((with_reducible refine WL.topT ?_ ?_); omega) | ((with_reducible refine WL.topF ?_ ?_); omega) | ((with_reducible refine WL.top64 ?_ ?_); omega) | refine WC.seq ?_ | refine WC.block ?_ | refine WC.region ?_ | refine WL.nil ?_ | refine WC.skip ?_ | refine WC.exit ?_ | refine WC.ret ?_ | refine WQ.then rfl ?_ | refine WQ.thenExit ?_ | refine WQ.thenRet ?_ | refine WQ.blk ?_ | refine WQ.blkRet ?_ | refine WQ.blkHere rfl ?_ | refine WQ.blkOther rfl ?_ | refine WL.pure rfl rfl rfl rfl ?_ | refine WL.on rfl rfl ?_ | refine WL.off rfl rfl rfl ?_ | refine WC.condTrue rfl ?_ | refine WC.condFalse rfl ?_)
    exact WQ.meet false ⟨rfl, rfl, rfl, rfl, rfl, trivial⟩ ⟨rfl, fun _ => by omega⟩
  rintro b wm ⟨hwm, hb⟩
  obtain rfl : w1 = wm := hwm.symm
  clear hwm
  cases b with
  | true =>
    repeat (first | ((with_reducible refine WL.topT ?_ ?_); omega) | ((with_reducible refine WL.topF ?_ ?_); omega) | ((with_reducible refine WL.top64 ?_ ?_); omega) | refine WC.seq ?_ | refine WC.block ?_ | refine WC.region ?_ | refine WL.nil ?_ | refine WC.skip ?_ | refine WC.exit ?_ | refine WC.ret ?_ | refine WQ.then rfl ?_ | refine WQ.thenExit ?_ | refine WQ.thenRet ?_ | refine WQ.blk ?_ | refine WQ.blkRet ?_ | refine WQ.blkHere rfl ?_ | refine WQ.blkOther rfl ?_ | refine WL.pure rfl rfl rfl rfl ?_ | refine WL.on rfl rfl ?_ | refine WL.off rfl rfl rfl ?_ | refine WC.condTrue rfl ?_ | refine WC.condFalse rfl ?_)
    refine WL.call rfl rfl rfl rfl rfl Try.func9 rfl (by kernel_rfl) known13_any ?_
    rintro _ w2 ⟨rfl, b2⟩
    refine ⟨_, rfl, ?_⟩
    have v2 := VBlk.below v1 b2 (VBlk.lt v1)
    have b12 := b1.trans (b2.mono b1.size)
    repeat (first | ((with_reducible refine WL.topT ?_ ?_); omega) | ((with_reducible refine WL.topF ?_ ?_); omega) | ((with_reducible refine WL.top64 ?_ ?_); omega) | refine WC.seq ?_ | refine WC.block ?_ | refine WC.region ?_ | refine WL.nil ?_ | refine WC.skip ?_ | refine WC.exit ?_ | refine WC.ret ?_ | refine WQ.then rfl ?_ | refine WQ.thenExit ?_ | refine WQ.thenRet ?_ | refine WQ.blk ?_ | refine WQ.blkRet ?_ | refine WQ.blkHere rfl ?_ | refine WQ.blkOther rfl ?_ | refine WL.pure rfl rfl rfl rfl ?_ | refine WL.on rfl rfl ?_ | refine WL.off rfl rfl rfl ?_ | refine WC.condTrue rfl ?_ | refine WC.condFalse rfl ?_)
    refine WL.store rfl rfl rfl rfl rfl rfl (by kernel_rfl) (VBlk.cell v2 0 (by simp)) (VBlk.free v2 0) ?_
    have v3 := VBlk.set v2 0 (.bool true)
    repeat (first | ((with_reducible refine WL.topT ?_ ?_); omega) | ((with_reducible refine WL.topF ?_ ?_); omega) | ((with_reducible refine WL.top64 ?_ ?_); omega) | refine WC.seq ?_ | refine WC.block ?_ | refine WC.region ?_ | refine WL.nil ?_ | refine WC.skip ?_ | refine WC.exit ?_ | refine WC.ret ?_ | refine WQ.then rfl ?_ | refine WQ.thenExit ?_ | refine WQ.thenRet ?_ | refine WQ.blk ?_ | refine WQ.blkRet ?_ | refine WQ.blkHere rfl ?_ | refine WQ.blkOther rfl ?_ | refine WL.pure rfl rfl rfl rfl ?_ | refine WL.on rfl rfl ?_ | refine WL.off rfl rfl rfl ?_ | refine WC.condTrue rfl ?_ | refine WC.condFalse rfl ?_)
    refine WQ.retMC (v := .bool true) [] rfl rfl rfl (MarkAt.nil _) (VBlk.cell v3 0 (by simp)) ⟨rfl, ?_⟩
    exact ((Keep.of_below b12).setCell (p := ⟨g, 0, none⟩) (by show ¬ g < _; omega) _).below
  | false =>
  obtain ⟨hn1, hn2⟩ := hb rfl
  obtain ⟨N, rfl⟩ : ∃ N : Nat, n = N := ⟨n.toNat, by omega⟩
  clear hb
  repeat (first | ((with_reducible refine WL.topT ?_ ?_); omega) | ((with_reducible refine WL.topF ?_ ?_); omega) | ((with_reducible refine WL.top64 ?_ ?_); omega) | refine WC.seq ?_ | refine WC.block ?_ | refine WC.region ?_ | refine WL.nil ?_ | refine WC.skip ?_ | refine WC.exit ?_ | refine WC.ret ?_ | refine WQ.then rfl ?_ | refine WQ.thenExit ?_ | refine WQ.thenRet ?_ | refine WQ.blk ?_ | refine WQ.blkRet ?_ | refine WQ.blkHere rfl ?_ | refine WQ.blkOther rfl ?_ | refine WL.pure rfl rfl rfl rfl ?_ | refine WL.on rfl rfl ?_ | refine WL.off rfl rfl rfl ?_ | refine WC.condTrue rfl ?_ | refine WC.condFalse rfl ?_)
  refine WL.call rfl rfl rfl rfl rfl Try.func10 rfl (by kernel_rfl) tnew_any ?_
  rintro _ w2 ⟨tb, rfl, h2, hb2, ht2⟩
  refine ⟨_, rfl, ?_⟩
  repeat (first | ((with_reducible refine WL.topT ?_ ?_); omega) | ((with_reducible refine WL.topF ?_ ?_); omega) | ((with_reducible refine WL.top64 ?_ ?_); omega) | refine WC.seq ?_ | refine WC.block ?_ | refine WC.region ?_ | refine WL.nil ?_ | refine WC.skip ?_ | refine WC.exit ?_ | refine WC.ret ?_ | refine WQ.then rfl ?_ | refine WQ.thenExit ?_ | refine WQ.thenRet ?_ | refine WQ.blk ?_ | refine WQ.blkRet ?_ | refine WQ.blkHere rfl ?_ | refine WQ.blkOther rfl ?_ | refine WL.pure rfl rfl rfl rfl ?_ | refine WL.on rfl rfl ?_ | refine WL.off rfl rfl rfl ?_ | refine WC.condTrue rfl ?_ | refine WC.condFalse rfl ?_)
  refine WL.nilP rfl rfl rfl rfl rfl rfl (by kernel_rfl) ?_
  repeat (first | ((with_reducible refine WL.topT ?_ ?_); omega) | ((with_reducible refine WL.topF ?_ ?_); omega) | ((with_reducible refine WL.top64 ?_ ?_); omega) | refine WC.seq ?_ | refine WC.region ?_ | refine WL.nil ?_ | refine WC.skip ?_ | refine WC.exit ?_ | refine WC.ret ?_ | refine WQ.then rfl ?_ | refine WQ.thenExit ?_ | refine WQ.thenRet ?_ | refine WQ.blk ?_ | refine WQ.blkRet ?_ | refine WQ.blkHere rfl ?_ | refine WQ.blkOther rfl ?_ | refine WL.pure rfl rfl rfl rfl ?_ | refine WL.on rfl rfl ?_ | refine WL.off rfl rfl rfl ?_ | refine WL.load rfl rfl rfl rfl rfl rfl (by assumption) ?_ | refine WC.condTrue rfl ?_ | refine WC.condFalse rfl ?_)
  refine WC.block ?_
  refine WC.loop (fun i : Nat => [(0, .int .i64 N), (1, .int .i64 s), (2, .int .i64 d), (6, .pointer (some ⟨g, 0, none⟩)), (7, .pointer (some ⟨tb, 0, none⟩)), (8, .func (.func 16) #[] #[]), (9, .int .i64 i)])
    (fun i w' => i ≤ N ∧ TrW w1 tb (fun L => L.length ≤ i ∧ ∀ e ∈ L, ∃ j, j < i ∧ e.1 = kz s j) w') (fun i => N - i) 0 ⟨rfl, rfl, rfl, rfl, rfl, rfl, rfl, trivial⟩
    ⟨Nat.zero_le _, hb2, st0, [], h2, by simp, ⟨Nat.le_refl _, by simp⟩, fun x hx => absurd rfl hx⟩ ?_
  clear h2 hb2
  rintro i wr ⟨hi, hb, st, L, ht, hl15, ⟨hl, hk⟩, ho⟩
  by_cases hlt : i < N
  · repeat (first | ((with_reducible refine WL.topT ?_ ?_); omega) | ((with_reducible refine WL.topF ?_ ?_); omega) | ((with_reducible refine WL.top64 ?_ ?_); omega) | refine WC.seq ?_ | refine WC.block ?_ | refine WC.region ?_ | refine WL.nil ?_ | refine WC.skip ?_ | refine WC.exit ?_ | refine WC.ret ?_ | refine WQ.then rfl ?_ | refine WQ.thenExit ?_ | refine WQ.thenRet ?_ | refine WQ.blk ?_ | refine WQ.blkRet ?_ | refine WQ.blkHere rfl ?_ | refine WQ.blkOther rfl ?_ | refine WL.pure rfl rfl rfl rfl ?_ | refine WL.on rfl rfl ?_ | refine WL.off rfl rfl rfl ?_ | refine WC.condTrue rfl ?_ | refine WC.condFalse rfl ?_)
    refine WL.callF rfl rfl rfl rfl rfl rfl Try.func16 rfl (by kernel_rfl) (name_any _) ?_
    rintro _ w3 ⟨rfl, hb3⟩
    refine ⟨_, rfl, ?_⟩
    have ht3 := ht.below hb3
    have hb13 := hb.trans (hb3.mono hb.size)
    repeat (first | ((with_reducible refine WL.topT ?_ ?_); omega) | ((with_reducible refine WL.topF ?_ ?_); omega) | ((with_reducible refine WL.top64 ?_ ?_); omega) | refine WC.seq ?_ | refine WC.block ?_ | refine WC.region ?_ | refine WL.nil ?_ | refine WC.skip ?_ | refine WC.exit ?_ | refine WC.ret ?_ | refine WQ.then rfl ?_ | refine WQ.thenExit ?_ | refine WQ.thenRet ?_ | refine WQ.blk ?_ | refine WQ.blkRet ?_ | refine WQ.blkHere rfl ?_ | refine WQ.blkOther rfl ?_ | refine WL.pure rfl rfl rfl rfl ?_ | refine WL.on rfl rfl ?_ | refine WL.off rfl rfl rfl ?_ | refine WC.condTrue rfl ?_ | refine WC.condFalse rfl ?_)
    refine WL.call rfl rfl rfl rfl rfl Try.func11 rfl (by kernel_rfl) (tput_any ht3 (kz s i) i (by omega)) ?_
    rintro _ w5 ⟨st5, rfl, h5, hk5, hn5⟩
    refine ⟨_, rfl, ?_⟩
    have := (insL_len (k := kz s i) (n := i) L).1
    repeat (first | ((with_reducible refine WL.topT ?_ ?_); omega) | ((with_reducible refine WL.topF ?_ ?_); omega) | ((with_reducible refine WL.top64 ?_ ?_); omega) | refine WC.seq ?_ | refine WC.block ?_ | refine WC.region ?_ | refine WL.nil ?_ | refine WC.skip ?_ | refine WC.exit ?_ | refine WC.ret ?_ | refine WQ.then rfl ?_ | refine WQ.thenExit ?_ | refine WQ.thenRet ?_ | refine WQ.blk ?_ | refine WQ.blkRet ?_ | refine WQ.blkHere rfl ?_ | refine WQ.blkOther rfl ?_ | refine WL.pure rfl rfl rfl rfl ?_ | refine WL.on rfl rfl ?_ | refine WL.off rfl rfl rfl ?_ | refine WC.condTrue rfl ?_ | refine WC.condFalse rfl ?_)
    refine WQ.again (i + 1) ⟨rfl, rfl, rfl, rfl, rfl, rfl, rfl, trivial⟩ ⟨hlt, hb13.trans (IsT.old hk5 hb13.size ht2 ho), st5, _, h5, by omega, ⟨by omega, fun e he => ?_⟩, hn5.old hb13.size ho⟩ (by omega)
    rcases insL_mem he with rfl | he
    · exact ⟨i, by omega, rfl⟩
    · obtain ⟨j, hj, e1⟩ := hk e he; exact ⟨j, by omega, e1⟩
  obtain rfl : i = N := by omega
  clear hlt hi
  repeat (first | ((with_reducible refine WL.topT ?_ ?_); omega) | ((with_reducible refine WL.topF ?_ ?_); omega) | ((with_reducible refine WL.top64 ?_ ?_); omega) | refine WC.seq ?_ | refine WC.block ?_ | refine WC.region ?_ | refine WL.nil ?_ | refine WC.skip ?_ | refine WC.exit ?_ | refine WC.ret ?_ | refine WQ.then rfl ?_ | refine WQ.thenExit ?_ | refine WQ.thenRet ?_ | refine WQ.blk ?_ | refine WQ.blkRet ?_ | refine WQ.blkHere rfl ?_ | refine WQ.blkOther rfl ?_ | refine WL.pure rfl rfl rfl rfl ?_ | refine WL.on rfl rfl ?_ | refine WL.off rfl rfl rfl ?_ | refine WC.condTrue rfl ?_ | refine WC.condFalse rfl ?_)
  refine WL.call rfl rfl rfl rfl rfl Try.func15 rfl (by kernel_rfl) (shaped_any ht (by omega)) ?_
  rintro _ w3 ⟨rfl, hb3⟩
  refine ⟨_, rfl, ?_⟩
  replace ht := ht.below hb3
  replace hb := hb.trans (hb3.mono hb.size)
  clear hb3
  repeat (first | ((with_reducible refine WL.topT ?_ ?_); omega) | ((with_reducible refine WL.topF ?_ ?_); omega) | ((with_reducible refine WL.top64 ?_ ?_); omega) | refine WC.seq ?_ | refine WC.block ?_ | refine WC.region ?_ | refine WL.nil ?_ | refine WC.skip ?_ | refine WC.exit ?_ | refine WC.ret ?_ | refine WQ.then rfl ?_ | refine WQ.thenExit ?_ | refine WQ.thenRet ?_ | refine WQ.blk ?_ | refine WQ.blkRet ?_ | refine WQ.blkHere rfl ?_ | refine WQ.blkOther rfl ?_ | refine WL.pure rfl rfl rfl rfl ?_ | refine WL.on rfl rfl ?_ | refine WL.off rfl rfl rfl ?_ | refine WC.condTrue rfl ?_ | refine WC.condFalse rfl ?_)
  obtain ⟨M, hM⟩ : ∃ M, M = w3.heap.size := ⟨_, rfl⟩
  refine WL.alloc (z := .string ⟨#[]⟩) rfl rfl rfl rfl (fun _ => by kernel_rfl) fun ga w4 f4 => ?_
  have va4 : VBlk strM w4 ga [.string ⟨#[]⟩] := f4.blk
  have e4 := f4.eq
  have z4 := f4.size
  have k4 : Keep (fun k => k < M) w3 w4 := hM ▸ Keep.of_below f4.below
  clear f4
  refine WL.alloc (z := .bool false) rfl rfl rfl rfl (fun _ => by kernel_rfl) fun gb w5 f5 => ?_
  have vb5 : VBlk boolM w5 gb [.bool false] := f5.blk
  have e5 := f5.eq
  have z5 := f5.size
  have va5 := VBlk.below va4 f5.below (VBlk.lt va4)
  have k5 := k4.trans ((Keep.of_below f5.below).mono fun k (hk : k < M) => by show k < _; omega)
  clear f5 va4 k4
  refine WL.store rfl rfl rfl rfl rfl rfl (by kernel_rfl) (VBlk.cell va5 0 (by simp)) (VBlk.free va5 0) ?_
  have va6 := VBlk.set va5 0 (.string ⟨#[]⟩)
  have vb6 := VBlk.other vb5 ⟨ga, 0, none⟩ (.string ⟨#[]⟩) (by show gb ≠ ga; omega)
  have k6 := k5.setCell (p := ⟨ga, 0, none⟩) (by show ¬ ga < M; omega) (.string ⟨#[]⟩)
  have z6 : w5.heap.size ≤ (w5.setCell ⟨ga, 0, none⟩ (.string ⟨#[]⟩)).heap.size := ((Keep.refl (fun b => b ≠ ga) w5).setCell (p := ⟨ga, 0, none⟩) (by simp) _).size
  generalize w5.setCell ⟨ga, 0, none⟩ (.string ⟨#[]⟩) = w6 at va6 vb6 k6 z6 ⊢
  refine WL.store rfl rfl rfl rfl rfl rfl (by kernel_rfl) (VBlk.cell vb6 0 (by simp)) (VBlk.free vb6 0) ?_
  have vb7 := VBlk.set vb6 0 (.bool true)
  have va7 := VBlk.other va6 ⟨gb, 0, none⟩ (.bool true) (by show ga ≠ gb; omega)
  have k7 := k6.setCell (p := ⟨gb, 0, none⟩) (by show ¬ gb < M; omega) (.bool true)
  have z7 : w6.heap.size ≤ (w6.setCell ⟨gb, 0, none⟩ (.bool true)).heap.size := ((Keep.refl (fun b => b ≠ gb) w6).setCell (p := ⟨gb, 0, none⟩) (by simp) _).size
  generalize w6.setCell ⟨gb, 0, none⟩ (.bool true) = w7 at va7 vb7 k7 z7 ⊢
  clear va5 vb5 va6 vb6 k5 k6
  repeat (first | ((with_reducible refine WL.topT ?_ ?_); omega) | ((with_reducible refine WL.topF ?_ ?_); omega) | ((with_reducible refine WL.top64 ?_ ?_); omega) | refine WC.seq ?_ | refine WC.block ?_ | refine WC.region ?_ | refine WL.nil ?_ | refine WC.skip ?_ | refine WC.exit ?_ | refine WC.ret ?_ | refine WQ.then rfl ?_ | refine WQ.thenExit ?_ | refine WQ.thenRet ?_ | refine WQ.blk ?_ | refine WQ.blkRet ?_ | refine WQ.blkHere rfl ?_ | refine WQ.blkOther rfl ?_ | refine WL.pure rfl rfl rfl rfl ?_ | refine WL.on rfl rfl ?_ | refine WL.off rfl rfl rfl ?_ | refine WC.condTrue rfl ?_ | refine WC.condFalse rfl ?_)
  refine WL.alloc (z := .int .i64 0) rfl rfl rfl rfl (fun _ => by kernel_rfl) fun gc w8 f8 => ?_
  have vc8 : VBlk intM w8 gc [.int .i64 0] := f8.blk
  have e8 := f8.eq
  have k8 := k7.trans ((Keep.of_below f8.below).mono fun k (hk : k < M) => by show k < _; omega)
  have va8 := VBlk.below va7 f8.below (VBlk.lt va7)
  have vb8 := VBlk.below vb7 f8.below (VBlk.lt vb7)
  clear f8 va7 vb7 k7
  refine WL.store rfl rfl rfl rfl rfl rfl (by kernel_rfl) (VBlk.cell vc8 0 (by simp)) (VBlk.free vc8 0) ?_
  have vc9 := VBlk.set vc8 0 (.int .i64 0)
  have va9 := VBlk.other va8 ⟨gc, 0, none⟩ (.int .i64 0) (by show ga ≠ gc; omega)
  have vb9 := VBlk.other vb8 ⟨gc, 0, none⟩ (.int .i64 0) (by show gb ≠ gc; omega)
  have k9 := k8.setCell (p := ⟨gc, 0, none⟩) (by show ¬ gc < M; omega) (.int .i64 0)
  generalize w8.setCell ⟨gc, 0, none⟩ (.int .i64 0) = w9 at va9 vb9 vc9 k9 ⊢
  clear va8 vb8 vc8 k8
  repeat (first | ((with_reducible refine WL.topT ?_ ?_); omega) | ((with_reducible refine WL.topF ?_ ?_); omega) | ((with_reducible refine WL.top64 ?_ ?_); omega) | refine WC.seq ?_ | refine WC.block ?_ | refine WC.region ?_ | refine WL.nil ?_ | refine WC.skip ?_ | refine WC.exit ?_ | refine WC.ret ?_ | refine WQ.then rfl ?_ | refine WQ.thenExit ?_ | refine WQ.thenRet ?_ | refine WQ.blk ?_ | refine WQ.blkRet ?_ | refine WQ.blkHere rfl ?_ | refine WQ.blkOther rfl ?_ | refine WL.pure rfl rfl rfl rfl ?_ | refine WL.on rfl rfl ?_ | refine WL.off rfl rfl rfl ?_ | refine WC.condTrue rfl ?_ | refine WC.condFalse rfl ?_)
  refine WL.call rfl rfl rfl rfl rfl Try.func12 rfl (by kernel_rfl) (trange_any (some ⟨tb, 0, none⟩) ⟨#[]⟩ ⟨#[]⟩) ?_
  rintro _ w10 ⟨b10, g1, g2, g3, rfl, hc10⟩
  refine ⟨_, rfl, ?_⟩
  have va := VBlk.below va9 b10 (VBlk.lt va9)
  have vb := VBlk.below vb9 b10 (VBlk.lt vb9)
  have vc := VBlk.below vc9 b10 (VBlk.lt vc9)
  have k := k9.trans ((Keep.of_below b10).mono fun k (hk : k < M) => by show k < _; have := k9.size; omega)
  have hz10 := b10.size
  have hz9 : gc < w9.heap.size := VBlk.lt vc9
  clear va9 vb9 vc9 k9 b10
  have hsl : Srt L := by obtain ⟨-, -, _, _, -, hh⟩ := ht; exact hh.srt
  have ht10 : IsT w10 st tb L := ht.below (hM ▸ k.below)
  repeat (first | ((with_reducible refine WL.topT ?_ ?_); omega) | ((with_reducible refine WL.topF ?_ ?_); omega) | ((with_reducible refine WL.top64 ?_ ?_); omega) | refine WC.seq ?_ | refine WC.region ?_ | refine WL.nil ?_ | refine WC.skip ?_ | refine WC.exit ?_ | refine WC.ret ?_ | refine WQ.then rfl ?_ | refine WQ.thenExit ?_ | refine WQ.thenRet ?_ | refine WQ.blk ?_ | refine WQ.blkRet ?_ | refine WQ.blkHere rfl ?_ | refine WQ.blkOther rfl ?_ | refine WL.pure rfl rfl rfl rfl ?_ | refine WL.on rfl rfl ?_ | refine WL.off rfl rfl rfl ?_ | refine WL.load rfl rfl rfl rfl rfl rfl (by assumption) ?_ | refine WC.condTrue rfl ?_ | refine WC.condFalse rfl ?_)
  refine WC.block ?_
  have hrange := range1_any hc10 (L := L) (by omega) (fun W hW => by
    have := tall_any (ht10.below hW) ⟨#[]⟩ ⟨#[]⟩ (by omega)
    rw [flt_all] at this
    exact this)
  refine WC.rangeF rfl (enters_of Try.func28 (by kernel_rfl) rfl) hrange (fun _ => rfl) rfl
    (fun pre W => VBlk strM W ga [.string (lastK pre)] ∧ VBlk boolM W gb [.bool pre.isEmpty] ∧ VBlk intM W gc [.int .i64 pre.length] ∧ Keep (fun k => k < M) w3 W) (fun c pre _ => c = .ret ∧ ¬ Srt pre) ?_ ?_ ⟨va, vb, vc, k⟩
    (fun x => [(6, .pointer (some ⟨g, 0, none⟩)), (10, .pointer (some ⟨ga, 0, none⟩)), (11, .pointer (some ⟨gb, 0, none⟩)), (12, .pointer (some ⟨gc, 0, none⟩)), (13, .string x.1)]) ?_ ?_ ?_ ?_
  · refine own_stays fun pre W W' h hk => ⟨VBlk.keep h.1 hk (.inr (VBlk.isC h.1)), VBlk.keep h.2.1 hk (.inr (VBlk.isC h.2.1)), VBlk.keep h.2.2.1 hk (.inr (VBlk.isC h.2.2.1)), ?_⟩
    exact h.2.2.2.trans (hk.mono fun k (hk' : k < M) => .inl ⟨by omega, by have := h.2.2.2.size; omega⟩)
  · exact fun _ _ _ _ _ h _ _ => h
  · intro lp x W
    repeat (first | ((with_reducible refine WL.topT ?_ ?_); omega) | ((with_reducible refine WL.topF ?_ ?_); omega) | ((with_reducible refine WL.top64 ?_ ?_); omega) | refine WC.seq ?_ | refine WC.block ?_ | refine WC.region ?_ | refine WL.nil ?_ | refine WC.skip ?_ | refine WC.exit ?_ | refine WC.ret ?_ | refine WQ.then rfl ?_ | refine WQ.thenExit ?_ | refine WQ.thenRet ?_ | refine WQ.blk ?_ | refine WQ.blkRet ?_ | refine WQ.blkHere rfl ?_ | refine WQ.blkOther rfl ?_ | refine WL.pure rfl rfl rfl rfl ?_ | refine WL.on rfl rfl ?_ | refine WL.off rfl rfl rfl ?_ | refine WC.condTrue rfl ?_ | refine WC.condFalse rfl ?_)
    exact WQ.meet () ⟨rfl, rfl, rfl, rfl, rfl, trivial⟩ rfl
  · clear va vb vc k hrange ht10 hc10
    rintro lp pre x W hlp - ⟨va, vb, vc, k⟩ hlen
    have vg : VBlk boolM W g [.bool false] := (VBlk.below v1 hb (VBlk.lt v1)).keep k (by show g < M; have := hb.size; omega)
    have hgM : g < M := by have := hb.size; omega
    have hkp : ∀ {K : Nat → Prop} {W' : World}, Keep K W W' → (∀ b, b ≠ g → b ≠ ga → b ≠ gb → b ≠ gc → K b) → KeepsFrom w10.heap.size W W' ∧ KpT pairT W W' := fun hk hK => by
      refine ⟨keepsFrom hk fun b o _ h1 h2 => ?_, KpT.keep hk fun b cur x h1 => hK b (kpt_ne h1 vg (by decide)) (kpt_ne h1 va (by decide)) (kpt_ne h1 vb (by decide)) (kpt_ne h1 vc (by decide))⟩
      have hne : ∀ {T q : Nat} {cs : List Value}, VBlk T W q cs → b ≠ q := fun hv e => by
        subst e
        obtain ⟨_, _, _, hc⟩ := VBlk.isC hv
        rw [h1] at hc
        obtain rfl := Option.some.inj hc
        cases h2
      exact hK b (hne vg) (hne va) (hne vb) (hne vc)
    refine WC.block ?_
    refine WC.seq ?_
    refine WC.mid (fun _ : Unit => [(10, .pointer (some ⟨ga, 0, none⟩)), (11, .pointer (some ⟨gb, 0, none⟩)), (12, .pointer (some ⟨gc, 0, none⟩)), (13, .string x.1)]) (fun _ W' => W' = W) rfl ?_ ?_
    · cases hp : pre.isEmpty with
      | true =>
        rw [hp] at vb
        repeat (first | ((with_reducible refine WL.topT ?_ ?_); omega) | ((with_reducible refine WL.topF ?_ ?_); omega) | ((with_reducible refine WL.top64 ?_ ?_); omega) | refine WC.seq ?_ | refine WC.block ?_ | refine WC.region ?_ | refine WL.nil ?_ | refine WC.skip ?_ | refine WC.exit ?_ | refine WC.ret ?_ | refine WQ.then rfl ?_ | refine WQ.thenExit ?_ | refine WQ.thenRet ?_ | refine WQ.blk ?_ | refine WQ.blkRet ?_ | refine WQ.blkHere rfl ?_ | refine WQ.blkOther rfl ?_ | refine WL.pure rfl rfl rfl rfl ?_ | refine WL.on rfl rfl ?_ | refine WL.off rfl rfl rfl ?_ | refine WC.condTrue rfl ?_ | refine WC.condFalse rfl ?_)
        refine WL.load rfl rfl rfl rfl rfl rfl (VBlk.cell vb 0 (by simp)) ?_
        repeat (first | ((with_reducible refine WL.topT ?_ ?_); omega) | ((with_reducible refine WL.topF ?_ ?_); omega) | ((with_reducible refine WL.top64 ?_ ?_); omega) | refine WC.seq ?_ | refine WC.block ?_ | refine WC.region ?_ | refine WL.nil ?_ | refine WC.skip ?_ | refine WC.exit ?_ | refine WC.ret ?_ | refine WQ.then rfl ?_ | refine WQ.thenExit ?_ | refine WQ.thenRet ?_ | refine WQ.blk ?_ | refine WQ.blkRet ?_ | refine WQ.blkHere rfl ?_ | refine WQ.blkOther rfl ?_ | refine WL.pure rfl rfl rfl rfl ?_ | refine WL.on rfl rfl ?_ | refine WL.off rfl rfl rfl ?_ | refine WC.condTrue rfl ?_ | refine WC.condFalse rfl ?_)
        exact WQ.meet () ⟨rfl, rfl, rfl, rfl, trivial⟩ rfl
      | false =>
        rw [hp] at vb
        repeat (first | ((with_reducible refine WL.topT ?_ ?_); omega) | ((with_reducible refine WL.topF ?_ ?_); omega) | ((with_reducible refine WL.top64 ?_ ?_); omega) | refine WC.seq ?_ | refine WC.block ?_ | refine WC.region ?_ | refine WL.nil ?_ | refine WC.skip ?_ | refine WC.exit ?_ | refine WC.ret ?_ | refine WQ.then rfl ?_ | refine WQ.thenExit ?_ | refine WQ.thenRet ?_ | refine WQ.blk ?_ | refine WQ.blkRet ?_ | refine WQ.blkHere rfl ?_ | refine WQ.blkOther rfl ?_ | refine WL.pure rfl rfl rfl rfl ?_ | refine WL.on rfl rfl ?_ | refine WL.off rfl rfl rfl ?_ | refine WC.condTrue rfl ?_ | refine WC.condFalse rfl ?_)
        refine WL.load rfl rfl rfl rfl rfl rfl (VBlk.cell vb 0 (by simp)) ?_
        repeat (first | ((with_reducible refine WL.topT ?_ ?_); omega) | ((with_reducible refine WL.topF ?_ ?_); omega) | ((with_reducible refine WL.top64 ?_ ?_); omega) | refine WC.seq ?_ | refine WC.block ?_ | refine WC.region ?_ | refine WL.nil ?_ | refine WC.skip ?_ | refine WC.exit ?_ | refine WC.ret ?_ | refine WQ.then rfl ?_ | refine WQ.thenExit ?_ | refine WQ.thenRet ?_ | refine WQ.blk ?_ | refine WQ.blkRet ?_ | refine WQ.blkHere rfl ?_ | refine WQ.blkOther rfl ?_ | refine WL.pure rfl rfl rfl rfl ?_ | refine WL.on rfl rfl ?_ | refine WL.off rfl rfl rfl ?_ | refine WC.condTrue rfl ?_ | refine WC.condFalse rfl ?_)
        refine WL.load rfl rfl rfl rfl rfl rfl (VBlk.cell va 0 (by simp)) ?_
        repeat (first | ((with_reducible refine WL.topT ?_ ?_); omega) | ((with_reducible refine WL.topF ?_ ?_); omega) | ((with_reducible refine WL.top64 ?_ ?_); omega) | refine WC.seq ?_ | refine WC.block ?_ | refine WC.region ?_ | refine WL.nil ?_ | refine WC.skip ?_ | refine WC.exit ?_ | refine WC.ret ?_ | refine WQ.then rfl ?_ | refine WQ.thenExit ?_ | refine WQ.thenRet ?_ | refine WQ.blk ?_ | refine WQ.blkRet ?_ | refine WQ.blkHere rfl ?_ | refine WQ.blkOther rfl ?_ | refine WL.pure rfl rfl rfl rfl ?_ | refine WL.on rfl rfl ?_ | refine WL.off rfl rfl rfl ?_ | refine WC.condTrue rfl ?_ | refine WC.condFalse rfl ?_)
        refine WC.condB rfl (fun e => ?_) (fun e => ?_)
        · repeat (first | ((with_reducible refine WL.topT ?_ ?_); omega) | ((with_reducible refine WL.topF ?_ ?_); omega) | ((with_reducible refine WL.top64 ?_ ?_); omega) | refine WC.seq ?_ | refine WC.block ?_ | refine WC.region ?_ | refine WL.nil ?_ | refine WC.skip ?_ | refine WC.exit ?_ | refine WC.ret ?_ | refine WQ.then rfl ?_ | refine WQ.thenExit ?_ | refine WQ.thenRet ?_ | refine WQ.blk ?_ | refine WQ.blkRet ?_ | refine WQ.blkHere rfl ?_ | refine WQ.blkOther rfl ?_ | refine WL.pure rfl rfl rfl rfl ?_ | refine WL.on rfl rfl ?_ | refine WL.off rfl rfl rfl ?_ | refine WC.condTrue rfl ?_ | refine WC.condFalse rfl ?_)
          refine WL.store rfl rfl rfl rfl rfl rfl (by kernel_rfl) (VBlk.cell vg 0 (by simp)) (VBlk.free vg 0) ?_
          repeat (first | ((with_reducible refine WL.topT ?_ ?_); omega) | ((with_reducible refine WL.topF ?_ ?_); omega) | ((with_reducible refine WL.top64 ?_ ?_); omega) | refine WC.seq ?_ | refine WC.block ?_ | refine WC.region ?_ | refine WL.nil ?_ | refine WC.skip ?_ | refine WC.exit ?_ | refine WC.ret ?_ | refine WQ.then rfl ?_ | refine WQ.thenExit ?_ | refine WQ.thenRet ?_ | refine WQ.blk ?_ | refine WQ.blkRet ?_ | refine WQ.blkHere rfl ?_ | refine WQ.blkOther rfl ?_ | refine WL.pure rfl rfl rfl rfl ?_ | refine WL.on rfl rfl ?_ | refine WL.off rfl rfl rfl ?_ | refine WC.condTrue rfl ?_ | refine WC.condFalse rfl ?_)
          refine ⟨fun a _ => ⟨(hkp ((Keep.refl (fun b => b ≠ g) W).setCell (p := ⟨g, 0, none⟩) (by simp) _) (fun b h _ _ _ => h)).1, rfl, fun hs => ?_⟩⟩
          rw [leqN] at e
          have := srt_last hs (by intro h; rw [h] at hp; cases hp)
          unfold kl at this
          rw [this] at e
          cases e
        · repeat (first | ((with_reducible refine WL.topT ?_ ?_); omega) | ((with_reducible refine WL.topF ?_ ?_); omega) | ((with_reducible refine WL.top64 ?_ ?_); omega) | refine WC.seq ?_ | refine WC.block ?_ | refine WC.region ?_ | refine WL.nil ?_ | refine WC.skip ?_ | refine WC.exit ?_ | refine WC.ret ?_ | refine WQ.then rfl ?_ | refine WQ.thenExit ?_ | refine WQ.thenRet ?_ | refine WQ.blk ?_ | refine WQ.blkRet ?_ | refine WQ.blkHere rfl ?_ | refine WQ.blkOther rfl ?_ | refine WL.pure rfl rfl rfl rfl ?_ | refine WL.on rfl rfl ?_ | refine WL.off rfl rfl rfl ?_ | refine WC.condTrue rfl ?_ | refine WC.condFalse rfl ?_)
          exact WQ.meet () ⟨rfl, rfl, rfl, rfl, trivial⟩ rfl
    rintro ⟨⟩ W' hW
    obtain rfl : W = W' := hW.symm
    clear hW
    have hlt := VBlk.lt vc
    have hltb := VBlk.lt vb
    have hlta := VBlk.lt va
    repeat (first | ((with_reducible refine WL.topT ?_ ?_); omega) | ((with_reducible refine WL.topF ?_ ?_); omega) | ((with_reducible refine WL.top64 ?_ ?_); omega) | refine WC.seq ?_ | refine WC.block ?_ | refine WC.region ?_ | refine WL.nil ?_ | refine WC.skip ?_ | refine WC.exit ?_ | refine WC.ret ?_ | refine WQ.then rfl ?_ | refine WQ.thenExit ?_ | refine WQ.thenRet ?_ | refine WQ.blk ?_ | refine WQ.blkRet ?_ | refine WQ.blkHere rfl ?_ | refine WQ.blkOther rfl ?_ | refine WL.pure rfl rfl rfl rfl ?_ | refine WL.on rfl rfl ?_ | refine WL.off rfl rfl rfl ?_ | refine WC.condTrue rfl ?_ | refine WC.condFalse rfl ?_)
    refine WL.store rfl rfl rfl rfl rfl rfl (by kernel_rfl) (VBlk.cell va 0 (by simp)) (VBlk.free va 0) ?_
    have va2 := VBlk.set va 0 (.string x.1)
    have vb2 := VBlk.other vb ⟨ga, 0, none⟩ (.string x.1) (by show gb ≠ ga; omega)
    have vc2 := VBlk.other vc ⟨ga, 0, none⟩ (.string x.1) (by show gc ≠ ga; omega)
    have k2 : Keep (fun b => b ≠ ga) W (W.setCell ⟨ga, 0, none⟩ (.string x.1)) := (Keep.refl _ _).setCell (p := ⟨ga, 0, none⟩) (by simp) _
    generalize W.setCell ⟨ga, 0, none⟩ (.string x.1) = W2 at va2 vb2 vc2 k2 ⊢
    refine WL.store rfl rfl rfl rfl rfl rfl (by kernel_rfl) (VBlk.cell vb2 0 (by simp)) (VBlk.free vb2 0) ?_
    have va3 := VBlk.other va2 ⟨gb, 0, none⟩ (.bool false) (by show ga ≠ gb; omega)
    have vb3 := VBlk.set vb2 0 (.bool false)
    have vc3 := VBlk.other vc2 ⟨gb, 0, none⟩ (.bool false) (by show gc ≠ gb; omega)
    have k3 : Keep (fun b => b ≠ ga ∧ b ≠ gb) W (W2.setCell ⟨gb, 0, none⟩ (.bool false)) := (k2.mono fun b h => h.1).setCell (p := ⟨gb, 0, none⟩) (by simp) _
    generalize W2.setCell ⟨gb, 0, none⟩ (.bool false) = W3 at va3 vb3 vc3 k3 ⊢
    repeat (first | ((with_reducible refine WL.topT ?_ ?_); omega) | ((with_reducible refine WL.topF ?_ ?_); omega) | ((with_reducible refine WL.top64 ?_ ?_); omega) | refine WC.seq ?_ | refine WC.block ?_ | refine WC.region ?_ | refine WL.nil ?_ | refine WC.skip ?_ | refine WC.exit ?_ | refine WC.ret ?_ | refine WQ.then rfl ?_ | refine WQ.thenExit ?_ | refine WQ.thenRet ?_ | refine WQ.blk ?_ | refine WQ.blkRet ?_ | refine WQ.blkHere rfl ?_ | refine WQ.blkOther rfl ?_ | refine WL.pure rfl rfl rfl rfl ?_ | refine WL.on rfl rfl ?_ | refine WL.off rfl rfl rfl ?_ | refine WC.condTrue rfl ?_ | refine WC.condFalse rfl ?_)
    refine WL.load rfl rfl rfl rfl rfl rfl (VBlk.cell vc3 0 (by simp)) ?_
    refine WL.as 71 (.int .i64 pre.length) rfl rfl ?_
    repeat (first | ((with_reducible refine WL.topT ?_ ?_); omega) | ((with_reducible refine WL.topF ?_ ?_); omega) | ((with_reducible refine WL.top64 ?_ ?_); omega) | refine WC.seq ?_ | refine WC.block ?_ | refine WC.region ?_ | refine WL.nil ?_ | refine WC.skip ?_ | refine WC.exit ?_ | refine WC.ret ?_ | refine WQ.then rfl ?_ | refine WQ.thenExit ?_ | refine WQ.thenRet ?_ | refine WQ.blk ?_ | refine WQ.blkRet ?_ | refine WQ.blkHere rfl ?_ | refine WQ.blkOther rfl ?_ | refine WL.pure rfl rfl rfl rfl ?_ | refine WL.on rfl rfl ?_ | refine WL.off rfl rfl rfl ?_ | refine WC.condTrue rfl ?_ | refine WC.condFalse rfl ?_)
    refine WL.store rfl rfl rfl rfl rfl rfl (by kernel_rfl) (VBlk.cell vc3 0 (by simp)) (VBlk.free vc3 0) ?_
    have va4 := VBlk.other va3 ⟨gc, 0, none⟩ (.int .i64 (pre.length + 1)) (by show ga ≠ gc; omega)
    have vb4 := VBlk.other vb3 ⟨gc, 0, none⟩ (.int .i64 (pre.length + 1)) (by show gb ≠ gc; omega)
    have vc4 := VBlk.set vc3 0 (.int .i64 (pre.length + 1))
    have k4 : Keep (fun b => b ≠ ga ∧ b ≠ gb ∧ b ≠ gc) W (W3.setCell ⟨gc, 0, none⟩ (.int .i64 (pre.length + 1))) := (k3.mono fun b h => ⟨h.1, h.2.1⟩).setCell (p := ⟨gc, 0, none⟩) (by simp) _
    generalize W3.setCell ⟨gc, 0, none⟩ (.int .i64 (pre.length + 1)) = W4 at va4 vb4 vc4 k4 ⊢
    repeat (first | ((with_reducible refine WL.topT ?_ ?_); omega) | ((with_reducible refine WL.topF ?_ ?_); omega) | ((with_reducible refine WL.top64 ?_ ?_); omega) | refine WC.seq ?_ | refine WC.block ?_ | refine WC.region ?_ | refine WL.nil ?_ | refine WC.skip ?_ | refine WC.exit ?_ | refine WC.ret ?_ | refine WQ.then rfl ?_ | refine WQ.thenExit ?_ | refine WQ.thenRet ?_ | refine WQ.blk ?_ | refine WQ.blkRet ?_ | refine WQ.blkHere rfl ?_ | refine WQ.blkOther rfl ?_ | refine WL.pure rfl rfl rfl rfl ?_ | refine WL.on rfl rfl ?_ | refine WL.off rfl rfl rfl ?_ | refine WC.condTrue rfl ?_ | refine WC.condFalse rfl ?_)
    obtain ⟨q1, q2⟩ := hkp k4 (fun b _ h1 h2 h3 => ⟨h1, h2, h3⟩)
    refine ⟨fun a _ => ⟨q1, q2, ?_, ?_, ?_, ?_⟩⟩
    · rw [lastK_snoc]; exact va4
    · rw [show (pre ++ [x]).isEmpty = false by simp]; exact vb4
    · rw [List.length_append]; exact vc4
    · exact k.trans (k4.mono fun b (h : b < M) => ⟨by omega, by omega, by omega⟩)
  · rintro D xs W hD rfl ⟨va, vb, vc, k⟩ hm
    have htD : TrD w1 tb D (fun L => ∀ e ∈ L, ∃ j, j < i ∧ e.1 = kz s j) W :=
      ⟨hb.trans ((hM ▸ k.below : Below w3.heap.size w3 W).mono hb.size), hm, by have := hb.size; have := k.size; omega, st, xs, ht.below (hM ▸ k.below), by omega, hk, ho⟩
    have htW : IsT W st tb xs := ht.below (hM ▸ k.below)
    have hgc : W.cell? ⟨gc, 0, none⟩ = some (.int .i64 xs.length) := VBlk.cell vc 0 (by simp)
    clear va vb k hm
    repeat (first | ((with_reducible refine WL.topT ?_ ?_); omega) | ((with_reducible refine WL.topF ?_ ?_); omega) | ((with_reducible refine WL.top64 ?_ ?_); omega) | refine WC.seq ?_ | refine WC.region ?_ | refine WL.nil ?_ | refine WC.skip ?_ | refine WC.exit ?_ | refine WC.ret ?_ | refine WQ.then rfl ?_ | refine WQ.thenExit ?_ | refine WQ.thenRet ?_ | refine WQ.blk ?_ | refine WQ.blkRet ?_ | refine WQ.blkHere rfl ?_ | refine WQ.blkOther rfl ?_ | refine WL.pure rfl rfl rfl rfl ?_ | refine WL.on rfl rfl ?_ | refine WL.off rfl rfl rfl ?_ | refine WL.load rfl rfl rfl rfl rfl rfl (by assumption) ?_ | refine WC.condTrue rfl ?_ | refine WC.condFalse rfl ?_)
    refine WC.drawn 3 (fun wx => wx.heap = W.heap) fun wd hd => ?_
    have hS : wd.heap = W.heap := hd.heap
    have htd : IsT wd st tb xs := htW.below (hd.below _)
    replace htD := htD.below (hd.below _)
    (((first | refine WD.free 1 rfl (by kernel_rfl) rfl rfl (fun _ _ _ _ _ h => h) rfl rfl (.inr hS) ?_ | refine WD.skip 1 rfl (by kernel_rfl) rfl rfl (fun _ _ _ _ _ h => h) rfl (.inr hS) ?_); try (first | ((with_reducible refine WD.topT ?_ ?_); omega) | ((with_reducible refine WD.topF ?_ ?_); omega) | ((with_reducible refine WD.top64 ?_ ?_); omega))))
    refine WD.load 0 [3] rfl (by kernel_rfl) rfl rfl (fun _ _ _ _ _ h => h) rfl rfl rfl rfl (fun wx hx => (heap_cell hx _).trans hgc) hS ?_
    refine WD.one 2 (by kernel_rfl) rfl ?_
    refine WL.call rfl rfl rfl rfl rfl Try.func17 rfl (by kernel_rfl) (tlen_any htd) ?_
    rintro _ we ⟨rfl, hw⟩
    obtain rfl : wd = we := hw.symm
    refine ⟨_, rfl, ?_⟩
    refine WL.nil (WQ.dk (.inr hS) ?_)
    refine WD.one 3 (by kernel_rfl) rfl ?_
    (refine WL.pure rfl rfl rfl rfl ?_; try (first | ((with_reducible refine WL.topT ?_ ?_); omega) | ((with_reducible refine WL.topF ?_ ?_); omega) | ((with_reducible refine WL.top64 ?_ ?_); omega)))
    refine WL.nil (WQ.dk (.inl rfl) ?_)
    refine WD.done (by kernel_rfl) ?_
    clear htd htW hd hS hgc vc hw
    repeat (first | ((with_reducible refine WL.topT ?_ ?_); omega) | ((with_reducible refine WL.topF ?_ ?_); omega) | ((with_reducible refine WL.top64 ?_ ?_); omega) | refine WC.seq ?_ | refine WC.block ?_ | refine WC.region ?_ | refine WL.nil ?_ | refine WC.skip ?_ | refine WC.exit ?_ | refine WC.ret ?_ | refine WQ.then rfl ?_ | refine WQ.thenExit ?_ | refine WQ.thenRet ?_ | refine WQ.blk ?_ | refine WQ.blkRet ?_ | refine WQ.blkHere rfl ?_ | refine WQ.blkOther rfl ?_ | refine WL.pure rfl rfl rfl rfl ?_ | refine WL.on rfl rfl ?_ | refine WL.off rfl rfl rfl ?_ | refine WC.condTrue rfl ?_ | refine WC.condFalse rfl ?_)
    refine WC.loop (fun q : Nat => [(0, .int .i64 i), (1, .int .i64 s), (2, .int .i64 d), (6, .pointer (some ⟨g, 0, none⟩)), (7, .pointer (some ⟨tb, 0, none⟩)), (8, .func (.func 16) #[] #[]), (14, .int .i64 q)])
      (fun q w' => q ≤ i ∧ TrD w1 tb D (fun L => ∀ e ∈ L, ∃ j, j < i ∧ e.1 = kz s j) w') (fun q => i - q) 0 ⟨rfl, rfl, rfl, rfl, rfl, rfl, rfl, trivial⟩
      ⟨Nat.zero_le _, htD⟩ ?_
    clear htD
    rintro q wr ⟨hq, htD⟩
    by_cases hlt : q < i
    · repeat (first | ((with_reducible refine WL.topT ?_ ?_); omega) | ((with_reducible refine WL.topF ?_ ?_); omega) | ((with_reducible refine WL.top64 ?_ ?_); omega) | refine WC.seq ?_ | refine WC.block ?_ | refine WC.region ?_ | refine WL.nil ?_ | refine WC.skip ?_ | refine WC.exit ?_ | refine WC.ret ?_ | refine WQ.then rfl ?_ | refine WQ.thenExit ?_ | refine WQ.thenRet ?_ | refine WQ.blk ?_ | refine WQ.blkRet ?_ | refine WQ.blkHere rfl ?_ | refine WQ.blkOther rfl ?_ | refine WL.pure rfl rfl rfl rfl ?_ | refine WL.on rfl rfl ?_ | refine WL.off rfl rfl rfl ?_ | refine WC.condTrue rfl ?_ | refine WC.condFalse rfl ?_)
      refine WL.callF rfl rfl rfl rfl rfl rfl Try.func16 rfl (by kernel_rfl) (name_any _) ?_
      rintro _ w11 ⟨rfl, hb11⟩
      refine ⟨_, rfl, ?_⟩
      repeat (first | ((with_reducible refine WL.topT ?_ ?_); omega) | ((with_reducible refine WL.topF ?_ ?_); omega) | ((with_reducible refine WL.top64 ?_ ?_); omega) | refine WC.seq ?_ | refine WC.block ?_ | refine WC.region ?_ | refine WL.nil ?_ | refine WC.skip ?_ | refine WC.exit ?_ | refine WC.ret ?_ | refine WQ.then rfl ?_ | refine WQ.thenExit ?_ | refine WQ.thenRet ?_ | refine WQ.blk ?_ | refine WQ.blkRet ?_ | refine WQ.blkHere rfl ?_ | refine WQ.blkOther rfl ?_ | refine WL.pure rfl rfl rfl rfl ?_ | refine WL.on rfl rfl ?_ | refine WL.off rfl rfl rfl ?_ | refine WC.condTrue rfl ?_ | refine WC.condFalse rfl ?_)
      refine WL.call rfl rfl rfl rfl rfl Try.func14 rfl (by kernel_rfl) ((htD.below hb11).del ht2 _) ?_
      rintro _ w12 ⟨v, rfl, h12⟩
      refine ⟨_, rfl, ?_⟩
      repeat (first | ((with_reducible refine WL.topT ?_ ?_); omega) | ((with_reducible refine WL.topF ?_ ?_); omega) | ((with_reducible refine WL.top64 ?_ ?_); omega) | refine WC.seq ?_ | refine WC.block ?_ | refine WC.region ?_ | refine WL.nil ?_ | refine WC.skip ?_ | refine WC.exit ?_ | refine WC.ret ?_ | refine WQ.then rfl ?_ | refine WQ.thenExit ?_ | refine WQ.thenRet ?_ | refine WQ.blk ?_ | refine WQ.blkRet ?_ | refine WQ.blkHere rfl ?_ | refine WQ.blkOther rfl ?_ | refine WL.pure rfl rfl rfl rfl ?_ | refine WL.on rfl rfl ?_ | refine WL.off rfl rfl rfl ?_ | refine WC.condTrue rfl ?_ | refine WC.condFalse rfl ?_)
      refine WQ.again (q + 1) ⟨rfl, rfl, rfl, rfl, rfl, rfl, rfl, trivial⟩ ⟨hlt, h12.imp fun L h => ?_⟩ (by omega)
      obtain ⟨L0, h1, rfl⟩ := h
      exact fun e he => h1 e (delL_mem he).1
    obtain rfl : q = i := by omega
    clear hlt hq
    have hx := htD
    obtain ⟨-, -, -, st6, L6, h6, hl6, -, -⟩ := hx
    repeat (first | ((with_reducible refine WL.topT ?_ ?_); omega) | ((with_reducible refine WL.topF ?_ ?_); omega) | ((with_reducible refine WL.top64 ?_ ?_); omega) | refine WC.seq ?_ | refine WC.block ?_ | refine WC.region ?_ | refine WL.nil ?_ | refine WC.skip ?_ | refine WC.exit ?_ | refine WC.ret ?_ | refine WQ.then rfl ?_ | refine WQ.thenExit ?_ | refine WQ.thenRet ?_ | refine WQ.blk ?_ | refine WQ.blkRet ?_ | refine WQ.blkHere rfl ?_ | refine WQ.blkOther rfl ?_ | refine WL.pure rfl rfl rfl rfl ?_ | refine WL.on rfl rfl ?_ | refine WL.off rfl rfl rfl ?_ | refine WC.condTrue rfl ?_ | refine WC.condFalse rfl ?_)
    refine WL.call rfl rfl rfl rfl rfl Try.func15 rfl (by kernel_rfl) (shaped_any h6 (by omega)) ?_
    rintro _ w13 ⟨rfl, hb13⟩
    refine ⟨_, rfl, ?_⟩
    replace htD := htD.below hb13
    clear h6 hl6 hb13
    repeat (first | ((with_reducible refine WL.topT ?_ ?_); omega) | ((with_reducible refine WL.topF ?_ ?_); omega) | ((with_reducible refine WL.top64 ?_ ?_); omega) | refine WC.seq ?_ | refine WC.block ?_ | refine WC.region ?_ | refine WL.nil ?_ | refine WC.skip ?_ | refine WC.exit ?_ | refine WC.ret ?_ | refine WQ.then rfl ?_ | refine WQ.thenExit ?_ | refine WQ.thenRet ?_ | refine WQ.blk ?_ | refine WQ.blkRet ?_ | refine WQ.blkHere rfl ?_ | refine WQ.blkOther rfl ?_ | refine WL.pure rfl rfl rfl rfl ?_ | refine WL.on rfl rfl ?_ | refine WL.off rfl rfl rfl ?_ | refine WC.condTrue rfl ?_ | refine WC.condFalse rfl ?_)
    refine WC.loop (fun i : Nat => [(0, .int .i64 q), (1, .int .i64 s), (2, .int .i64 d), (6, .pointer (some ⟨g, 0, none⟩)), (7, .pointer (some ⟨tb, 0, none⟩)), (8, .func (.func 16) #[] #[]), (15, .int .i64 i)])
      (fun i w' => i ≤ q ∧ TrD w1 tb D (fun L => ∀ e ∈ L, ∃ j, i ≤ j ∧ j < q ∧ e.1 = kz s j) w') (fun i => q - i) 0 ⟨rfl, rfl, rfl, rfl, rfl, rfl, rfl, trivial⟩
      ⟨Nat.zero_le _, htD.imp fun L h e he => let ⟨j, h1, h2⟩ := h e he; ⟨j, Nat.zero_le _, h1, h2⟩⟩ ?_
    clear htD
    rintro i wr2 ⟨hq, htD⟩
    by_cases hlt : i < q
    · repeat (first | ((with_reducible refine WL.topT ?_ ?_); omega) | ((with_reducible refine WL.topF ?_ ?_); omega) | ((with_reducible refine WL.top64 ?_ ?_); omega) | refine WC.seq ?_ | refine WC.block ?_ | refine WC.region ?_ | refine WL.nil ?_ | refine WC.skip ?_ | refine WC.exit ?_ | refine WC.ret ?_ | refine WQ.then rfl ?_ | refine WQ.thenExit ?_ | refine WQ.thenRet ?_ | refine WQ.blk ?_ | refine WQ.blkRet ?_ | refine WQ.blkHere rfl ?_ | refine WQ.blkOther rfl ?_ | refine WL.pure rfl rfl rfl rfl ?_ | refine WL.on rfl rfl ?_ | refine WL.off rfl rfl rfl ?_ | refine WC.condTrue rfl ?_ | refine WC.condFalse rfl ?_)
      refine WL.callF rfl rfl rfl rfl rfl rfl Try.func16 rfl (by kernel_rfl) (name_any _) ?_
      rintro _ w11 ⟨rfl, hb11⟩
      refine ⟨_, rfl, ?_⟩
      repeat (first | ((with_reducible refine WL.topT ?_ ?_); omega) | ((with_reducible refine WL.topF ?_ ?_); omega) | ((with_reducible refine WL.top64 ?_ ?_); omega) | refine WC.seq ?_ | refine WC.block ?_ | refine WC.region ?_ | refine WL.nil ?_ | refine WC.skip ?_ | refine WC.exit ?_ | refine WC.ret ?_ | refine WQ.then rfl ?_ | refine WQ.thenExit ?_ | refine WQ.thenRet ?_ | refine WQ.blk ?_ | refine WQ.blkRet ?_ | refine WQ.blkHere rfl ?_ | refine WQ.blkOther rfl ?_ | refine WL.pure rfl rfl rfl rfl ?_ | refine WL.on rfl rfl ?_ | refine WL.off rfl rfl rfl ?_ | refine WC.condTrue rfl ?_ | refine WC.condFalse rfl ?_)
      refine WL.call rfl rfl rfl rfl rfl Try.func14 rfl (by kernel_rfl) ((htD.below hb11).del ht2 (kz s i)) ?_
      rintro _ w12 ⟨v, rfl, h12⟩
      refine ⟨_, rfl, ?_⟩
      repeat (first | ((with_reducible refine WL.topT ?_ ?_); omega) | ((with_reducible refine WL.topF ?_ ?_); omega) | ((with_reducible refine WL.top64 ?_ ?_); omega) | refine WC.seq ?_ | refine WC.block ?_ | refine WC.region ?_ | refine WL.nil ?_ | refine WC.skip ?_ | refine WC.exit ?_ | refine WC.ret ?_ | refine WQ.then rfl ?_ | refine WQ.thenExit ?_ | refine WQ.thenRet ?_ | refine WQ.blk ?_ | refine WQ.blkRet ?_ | refine WQ.blkHere rfl ?_ | refine WQ.blkOther rfl ?_ | refine WL.pure rfl rfl rfl rfl ?_ | refine WL.on rfl rfl ?_ | refine WL.off rfl rfl rfl ?_ | refine WC.condTrue rfl ?_ | refine WC.condFalse rfl ?_)
      refine WQ.again (i + 1) ⟨rfl, rfl, rfl, rfl, rfl, rfl, rfl, trivial⟩ ⟨hlt, h12.imp fun L h => ?_⟩ (by omega)
      obtain ⟨L0, h1, rfl⟩ := h
      intro e he
      obtain ⟨h2, h3⟩ := delL_mem he
      obtain ⟨j, h4, h5, h6⟩ := h1 e h2
      refine ⟨j, ?_, h5, h6⟩
      rcases Nat.lt_or_ge i j with h | h
      · exact h
      · obtain rfl : i = j := by omega
        exact absurd h6 h3
    obtain rfl : i = q := by omega
    clear hlt hq
    obtain ⟨hbf, hmf, hDf, st6, L6, h6, -, hl6, -⟩ := htD
    obtain rfl : L6 = [] := by
      cases L6 with
      | nil => rfl
      | cons e r => obtain ⟨j, h1, h2, -⟩ := hl6 e (by simp); omega
    clear hl6
    repeat (first | ((with_reducible refine WL.topT ?_ ?_); omega) | ((with_reducible refine WL.topF ?_ ?_); omega) | ((with_reducible refine WL.top64 ?_ ?_); omega) | refine WC.seq ?_ | refine WC.block ?_ | refine WC.region ?_ | refine WL.nil ?_ | refine WC.skip ?_ | refine WC.exit ?_ | refine WC.ret ?_ | refine WQ.then rfl ?_ | refine WQ.thenExit ?_ | refine WQ.thenRet ?_ | refine WQ.blk ?_ | refine WQ.blkRet ?_ | refine WQ.blkHere rfl ?_ | refine WQ.blkOther rfl ?_ | refine WL.pure rfl rfl rfl rfl ?_ | refine WL.on rfl rfl ?_ | refine WL.off rfl rfl rfl ?_ | refine WC.condTrue rfl ?_ | refine WC.condFalse rfl ?_)
    refine WL.call rfl rfl rfl rfl rfl Try.func17 rfl (by kernel_rfl) (tlen_any h6) ?_
    rintro _ w14 ⟨rfl, hw⟩
    obtain rfl : wr2 = w14 := hw.symm
    refine ⟨_, rfl, ?_⟩
    repeat (first | ((with_reducible refine WL.topT ?_ ?_); omega) | ((with_reducible refine WL.topF ?_ ?_); omega) | ((with_reducible refine WL.top64 ?_ ?_); omega) | refine WC.seq ?_ | refine WC.block ?_ | refine WC.region ?_ | refine WL.nil ?_ | refine WC.skip ?_ | refine WC.exit ?_ | refine WC.ret ?_ | refine WQ.then rfl ?_ | refine WQ.thenExit ?_ | refine WQ.thenRet ?_ | refine WQ.blk ?_ | refine WQ.blkRet ?_ | refine WQ.blkHere rfl ?_ | refine WQ.blkOther rfl ?_ | refine WL.pure rfl rfl rfl rfl ?_ | refine WL.on rfl rfl ?_ | refine WL.off rfl rfl rfl ?_ | refine WC.condTrue rfl ?_ | refine WC.condFalse rfl ?_)
    refine WL.call rfl rfl rfl rfl rfl Try.func15 rfl (by kernel_rfl) (shaped_any h6 (by simp)) ?_
    rintro _ w15 ⟨rfl, hb15⟩
    refine ⟨_, rfl, ?_⟩
    repeat (first | ((with_reducible refine WL.topT ?_ ?_); omega) | ((with_reducible refine WL.topF ?_ ?_); omega) | ((with_reducible refine WL.top64 ?_ ?_); omega) | refine WC.seq ?_ | refine WC.block ?_ | refine WC.region ?_ | refine WL.nil ?_ | refine WC.skip ?_ | refine WC.exit ?_ | refine WC.ret ?_ | refine WQ.then rfl ?_ | refine WQ.thenExit ?_ | refine WQ.thenRet ?_ | refine WQ.blk ?_ | refine WQ.blkRet ?_ | refine WQ.blkHere rfl ?_ | refine WQ.blkOther rfl ?_ | refine WL.pure rfl rfl rfl rfl ?_ | refine WL.on rfl rfl ?_ | refine WL.off rfl rfl rfl ?_ | refine WC.condTrue rfl ?_ | refine WC.condFalse rfl ?_)
    refine WL.call rfl rfl rfl rfl rfl Try.func9 rfl (by kernel_rfl) known13_any ?_
    rintro _ w16 ⟨rfl, hb16⟩
    refine ⟨_, rfl, ?_⟩
    have hbb := hb15.trans (hb16.mono hb15.size)
    have hm16 := (hbb.block D (lt_of_block hmf)).trans hmf
    have hbz := hbf.trans (hbb.mono hbf.size)
    have v16 : VBlk boolM w16 g [.bool false] := VBlk.below v1 hbz (VBlk.lt v1)
    have hne : D ≠ g := fun e => by
      obtain ⟨_, _, _, hc⟩ := VBlk.isC v16
      rw [← e, hm16] at hc
      cases hc
    repeat (first | ((with_reducible refine WL.topT ?_ ?_); omega) | ((with_reducible refine WL.topF ?_ ?_); omega) | ((with_reducible refine WL.top64 ?_ ?_); omega) | refine WC.seq ?_ | refine WC.block ?_ | refine WC.region ?_ | refine WL.nil ?_ | refine WC.skip ?_ | refine WC.exit ?_ | refine WC.ret ?_ | refine WQ.then rfl ?_ | refine WQ.thenExit ?_ | refine WQ.thenRet ?_ | refine WQ.blk ?_ | refine WQ.blkRet ?_ | refine WQ.blkHere rfl ?_ | refine WQ.blkOther rfl ?_ | refine WL.pure rfl rfl rfl rfl ?_ | refine WL.on rfl rfl ?_ | refine WL.off rfl rfl rfl ?_ | refine WC.condTrue rfl ?_ | refine WC.condFalse rfl ?_)
    refine WL.store rfl rfl rfl rfl rfl rfl (by kernel_rfl) (VBlk.cell v16 0 (by simp)) (VBlk.free v16 0) ?_
    have v17 := VBlk.set v16 0 (.bool true)
    have k17 : Keep (fun b => b ≠ g) w16 (w16.setCell ⟨g, 0, none⟩ (.bool true)) := (Keep.refl _ _).setCell (p := ⟨g, 0, none⟩) (by simp) _
    generalize w16.setCell ⟨g, 0, none⟩ (.bool true) = w17 at v17 k17 ⊢
    have m17 : MarkAt w17 [D] := ⟨by simp, fun E hE => by
      obtain rfl : E = D := by simpa using hE
      exact (k17.block E hne).trans hm16⟩
    repeat (first | ((with_reducible refine WL.topT ?_ ?_); omega) | ((with_reducible refine WL.topF ?_ ?_); omega) | ((with_reducible refine WL.top64 ?_ ?_); omega) | refine WC.seq ?_ | refine WC.block ?_ | refine WC.region ?_ | refine WL.nil ?_ | refine WC.skip ?_ | refine WC.exit ?_ | refine WC.ret ?_ | refine WQ.then rfl ?_ | refine WQ.thenExit ?_ | refine WQ.thenRet ?_ | refine WQ.blk ?_ | refine WQ.blkRet ?_ | refine WQ.blkHere rfl ?_ | refine WQ.blkOther rfl ?_ | refine WL.pure rfl rfl rfl rfl ?_ | refine WL.on rfl rfl ?_ | refine WL.off rfl rfl rfl ?_ | refine WC.condTrue rfl ?_ | refine WC.condFalse rfl ?_)
    refine WQ.retMC (v := .bool true) [D] rfl rfl rfl m17 ?_ ⟨rfl, ?_⟩
    · exact ((shut_keep _ w17).cell (p := ⟨g, 0, none⟩) (shut_isC m17 (VBlk.isC v17))).trans (VBlk.cell v17 0 (by simp))
    · have b0 : Keep (fun k => k < w.heap.size) w w16 := (Keep.of_below b1).trans ((Keep.of_below hbz).mono fun k (h : k < w.heap.size) => by show k < _; have := b1.size; omega)
      refine ((b0.trans (k17.mono fun k (h : k < w.heap.size) => by show k ≠ g; omega)).trans ((shut_keep _ w17).mono fun k (h : k < w.heap.size) hE => ?_)).below
      obtain rfl : k = D := by simpa using hE
      have := b1.size
      omega
  · rintro D c pre W _ hp ⟨-, hn⟩
    obtain ⟨q, rfl⟩ := hp
    exact absurd (srt_app.1 hsl).1 hn
end K
end Go.Proofs.Ytilmfnlaenneeaa

/-
  For every three numbers the law TreeMany answers true, and the arguments read as they did. No condition.
-/
namespace Go.Proofs.Ytilmfnlaenneeaa.treeMany
open Go.ChangeShapes Go.WideShapes Go.ChangeAt Go.RowKit
open Go.ChangeMaps (open_string shut_string)
open Go.Proofs.Ytilmfnlaenneeaa

set_option maxRecDepth 100000 in
theorem lifted (os : Os) (started : os.Started) (H : Type) (enc : TypeId × Value → H) :
    ReturnsInHanded {} Try.checked os 5 .any (Rows.treeManySpec.pre6 enc Try.prog Try.f5 Rows.treeManyRow.domain false) (Rows.treeManySpec.post enc Try.prog Try.f5 false true false false) := by
  refine returnsInHanded_of_change_sized (C := Try.checked) Try.ownKnob started (by kernel_rfl) Try.func5
    (ChangeSpec.witness6 (enc := enc) (C := Try.checked) false ⟨#[], #[.int .i64 0, .int .i64 0, .int .i64 0], []⟩ 8 (by kernel_rfl) (by kernel_rfl) (by kernel_rfl) (by kernel_rfl)) ?_
  intro W base args ds gs before hval0 hW hcnd hsz _
  have hval : ∀ (j : Nat) t v, Try.f5.params[j]? = some t → args[j]? = some v → Value.okWide Try.prog W .any base t v := hval0
  have hW' := hW
  obtain ⟨p, q, hA0, hV, rfl, hfz, hnd⟩ := hW
  have hA : DataW.TrodAll enc Try.prog W 0 (fun _ => true) true Try.f5.params.toList args.toList ds p := hA0
  rw [Try.params5] at hA hval
  obtain ⟨v0, vs0, d0, ds0, p0, q0, hargs, rfl, rfl, h0, r0⟩ := trodAll_cons hA
  obtain ⟨v1, vs1, d1, ds1, p1, q1, rfl, rfl, rfl, h1, r1⟩ := trodAll_cons r0
  obtain ⟨v2, vs2, d2, ds2, p2, q2, rfl, rfl, rfl, h2, r2⟩ := trodAll_cons r1
  obtain ⟨rfl, rfl, rfl⟩ := trodAll_nil r2
  obtain rfl : args = #[v0, v1, v2] := by cases args; simp_all
  obtain ⟨rfl, rfl⟩ := trodVars_none hV
  have k0 := h0
  have lt0 : ∀ x ∈ p0, x.block < W.heap.size := by obtain ⟨m, hm⟩ := k0; exact DataW.trod_lt m _ _ _ hm
  obtain ⟨x0, rfl, -, -, wx0⟩ := open_int Try.underlying3 (hval 0 3 v0 rfl rfl) h0
  have k1 := h1
  have lt1 : ∀ x ∈ p1, x.block < W.heap.size := by obtain ⟨m, hm⟩ := k1; exact DataW.trod_lt m _ _ _ hm
  obtain ⟨x1, rfl, -, -, wx1⟩ := open_int Try.underlying3 (hval 1 3 v1 rfl rfl) h1
  have k2 := h2
  have lt2 : ∀ x ∈ p2, x.block < W.heap.size := by obtain ⟨m, hm⟩ := k2; exact DataW.trod_lt m _ _ _ hm
  obtain ⟨x2, rfl, -, -, wx2⟩ := open_int Try.underlying3 (hval 2 3 v2 rfl rfl) h2
  clear hA0 hval0
  refine (K.many_law x0 x1 x2).mono fun e W' ⟨he, bel⟩ => ?_
  subst he
  exact ⟨_, rfl, _, _, _, [], _, [], hW', trodAll_mk1 (shut_bool Try.underlying4 _), (trodAll_cons_mk (Below.trod Try.laid (by kernel_rfl) (of_decide_eq_true (by kernel_rfl)) k0 bel lt0) (trodAll_cons_mk (Below.trod Try.laid (by kernel_rfl) (of_decide_eq_true (by kernel_rfl)) k1 bel lt1) (trodAll_cons_mk (Below.trod Try.laid (by kernel_rfl) (of_decide_eq_true (by kernel_rfl)) k2 bel lt2) trodAll_mk0))), rfl, bel.frame _, fun h => by cases h⟩

theorem over : Rows.treeManyRow.holds Try.pinned (OpenSpec.ofChange Rows.treeManySpec) :=
  OpenClaim.holds_of_wide 5 Try.f5 rfl rfl rfl rfl rfl rfl rfl ⟨rfl, rfl, rfl, rfl, rfl⟩ rfl rfl rfl rfl rfl (by kernel_rfl) Try.func5 (by kernel_rfl)
    (of_decide_eq_true (by kernel_rfl)) (by unfold Func.isWrapper; first | (rw [if_pos (by decide +kernel)]; kernel_rfl) | (rw [if_neg (by decide +kernel)]; exact ⟨rfl, rfl⟩))
    (fun os started H enc _ => lifted os started H enc)

/-- The statement. -/
theorem proved : Rows.TreeManySaid := over
end Go.Proofs.Ytilmfnlaenneeaa.treeMany
