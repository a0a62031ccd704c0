/- Texts for LawOrdBk, part 2 of 5. -/
import Derived.Test.YtfpakjbaiohcaaaZLawOrdBk1
import Derived.Lib.Mul64
import Derived.Laws.Bits64b
import Derived.Lib.AppendStr
import Derived.Laws.Bits64
import Derived.Laws.BitsLemmas
namespace Go.Proofs.Ytfpakjbaiohcaaa
open Go.RowKit
namespace K
variable {kn : Nat} {ds : List Deferred} {n : NN} {Q : Exit → Act → World → Prop} {l : Env} {w w' : World} {ops : Array Oper} {o : Oper} {rest : List Oper} {d : Nat} {S : World → Prop} {m fuel : Nat} {listed : Array Bool}

def DK (ops : Array Oper) (Q : Exit → Act → World → Prop) (S : World → Prop) (m fuel : Nat) (listed : Array Bool) (a : Act) (w : World) : Prop :=
  (listed.getD m false = true ∨ S w) ∧ wpTill Try.prog .any ops Q S m fuel listed a w
structure WD (n : NN) (ops : Array Oper) (Q : Exit → Act → World → Prop) (S : World → Prop) (m fuel : Nat) (listed : Array Bool) (l : Env) (w : World) : Prop where
  go : ∀ a, Fr n a l → wpTill Try.prog .any ops Q S m fuel listed a w

structure Drew (w w' : World) : Prop where
  below : ∀ B, Below B w w'
  heap : w'.heap = w.heap
theorem Drew.mk' (w : World) : Drew w w.drew := ⟨fun B => ((Keep.of_below (Below.refl B w)).drewN 1).below, rfl⟩

theorem WC.drawn {id : Nat} {ops : List Oper} (m : Nat) (S : World → Prop) (h : ∀ w', Drew w w' → WD ⟨kn, ds, none⟩ ops.toArray Q S m ops.length (Array.replicate ops.length false) l w') : WC ⟨kn, ds, none⟩ (.region id ops.toArray true) Q l w :=
  ⟨fun a ha => wp_region_till m S (by kernel_rfl) ((h _ (Drew.mk' w)).go a ha)⟩
theorem wpOp_of_list {K : Act → World → Prop} {i : Nat} {oi : Oper} {a : Act} (hi : ops[i]? = some oi) (h : wpList Try.prog ops (Exit.then K Q) [oi] a w) : wpOp Try.prog ops Q i K a w := by
  unfold wpOp; simp only [hi]; unfold wpList at h
  by_cases hw : Region.wanted oi (yielded ops a.tmps) = true
  · rw [if_pos hw] at h ⊢
    rcases h with h | ⟨h1, a2, w2, h2⟩
    · left
      unfold Oper.wp at h ⊢
      revert h
      generalize (execOp a.eval oi).run Try.prog w = r; intro h; cases r with
      | ok x w2 =>
        cases x <;> first | exact h | skip
        all_goals first
          | exact h
          | (refine Calls.mono h fun e w3 h3 => ?_
             cases e with
             | returned v => exact h3
             | panicked ch => exact h3
             | outgrown => obtain ⟨a4, w4, h4⟩ := h3; exact ⟨a4, w4, h4⟩)
      | halt x w2 => cases x <;> first | exact h | skip
    · exact .inr ⟨h1, a2, w2, h2⟩
  · rw [if_neg hw] at h ⊢
    exact h
theorem WD.one {oi : Oper} (i : Nat) (hr : Region.ready .any ops listed = [i]) (hi : ops[i]? = some oi) (h : WL ⟨kn, ds, none⟩ ops (Exit.then (DK ops Q S m fuel (listed.setIfInBounds i true)) Q) [oi] l w) : WD ⟨kn, ds, none⟩ ops Q S m (fuel + 1) listed l w :=
  ⟨fun a ha => ⟨(fun h0 => by rw [h0] at hr; cases hr), fun j hj => by
    rw [hr] at hj; obtain rfl : j = i := by simpa using hj
    exact wpOp_of_list hi (h.go a ha)⟩⟩
theorem WQ.dk (hS : listed.getD m false = true ∨ S w) (h : WD n ops Q S m fuel listed l w) : WQ n (Exit.then (DK ops Q S m fuel listed) Q) .normal l w := ⟨fun a ha => ⟨hS, h.go a ha⟩⟩
theorem WD.done (hr : Region.ready .any ops listed = []) (h : WQ n Q .normal l w) : WD n ops Q S m fuel listed l w := ⟨fun a ha => till_done hr (h.go a ha) fuel⟩
def mayB (ops : Array Oper) (listed : Array Bool) (i m : Nat) : Bool := Region.noSelect ops && Region.free .any ops listed i && (Region.ready .any ops listed).contains i && !(i == m)
def mayR (ops : Array Oper) (listed : Array Bool) (i m : Nat) (us : List Nat) : Bool := Region.noSelect ops && Region.free .any ops listed i && (Region.ready .any ops listed).contains i && waitB .any ops listed i m us && !(us.contains i)
def Passes (Q : Exit → Act → World → Prop) : Prop := ∀ c (a : Act) d v w, Q (.panic c) (a.put (some d) v) w → Q (.panic c) a w
theorem WD.first {oi : Oper} {v : Value} (i : Nat) (hi : ops[i]? = some oi) (hs : mayB ops listed i m = true) (hd : oi.dst = some d) (hn : Nat.blt d n.n = true) (hQ : Passes Q)
    (hy : ∀ a, Fr n a l → YieldsIf Try.prog ops (fun _ => True) oi v a) (hS : listed.getD m false = true ∨ S w) (h : WD n ops Q S m fuel (listed.setIfInBounds i true) ((d, v) :: l) w) : WD n ops Q S m (fuel + 1) listed l w :=
  ⟨fun a ha => by
    unfold mayB at hs; simp only [Bool.and_eq_true, Bool.not_eq_true'] at hs; exact wpTill_free hi (Region.noSelect_spec hs.1.1.1) (by rw [hd]; exact fun c a w => hQ c a d v w) (by simpa using hs.2) fuel listed a w (Region.free_spec hi hs.1.1.2) (by simpa using hs.1.2) (hy a ha) hS (by rw [hd]; exact h.go _ (ha.put hn v))⟩
theorem WD.free {oi : Oper} {v : Value} (i : Nat) (hi : ops[i]? = some oi) (hs : mayB ops listed i m = true) (hd : oi.dst = some d) (hn : Nat.blt d n.n = true)
    (hQ : Passes Q) (hw : wants ops l oi = some true) (hv : pv ty l oi.op = some v) (hS : listed.getD m false = true ∨ S w) (h : WD n ops Q S m fuel (listed.setIfInBounds i true) ((d, v) :: l) w) : WD n ops Q S m (fuel + 1) listed l w :=
  WD.first i hi hs hd hn hQ (fun _ ha => .inl ⟨wants_run ha hw, fun w _ => pv_run tyOk ha hv w⟩) hS h
theorem WD.freeAs {oi : Oper} {v : Value} (i : Nat) (v' : Value) (hi : ops[i]? = some oi) (hs : mayB ops listed i m = true) (hd : oi.dst = some d) (hn : Nat.blt d n.n = true)
    (hQ : Passes Q) (hw : wants ops l oi = some true) (hv : pv ty l oi.op = some v) (e : v = v') (hS : listed.getD m false = true ∨ S w) (h : WD n ops Q S m fuel (listed.setIfInBounds i true) ((d, v') :: l) w) : WD n ops Q S m (fuel + 1) listed l w :=
  WD.first i hi hs hd hn hQ (fun _ ha => .inl ⟨wants_run ha hw, fun w _ => pv_run tyOk ha (hv.trans (congrArg some e)) w⟩) hS h
theorem WD.top {v v' : Value} (e : v = v') (h : WD n ops Q S m fuel listed ((d, v') :: l) w) : WD n ops Q S m fuel listed ((d, v) :: l) w := by subst e; exact h
theorem WD.topT {p : Prop} [Decidable p] (hp : p) (h : WD n ops Q S m fuel listed ((d, .bool true) :: l) w) : WD n ops Q S m fuel listed ((d, .bool (decide p)) :: l) w := WD.top (congrArg Value.bool (decide_eq_true hp)) h
theorem WD.topF {p : Prop} [Decidable p] (hp : ¬ p) (h : WD n ops Q S m fuel listed ((d, .bool false) :: l) w) : WD n ops Q S m fuel listed ((d, .bool (decide p)) :: l) w := WD.top (congrArg Value.bool (decide_eq_false hp)) h
theorem WD.top64 {x : Int} (hx : -9223372036854775808 ≤ x ∧ x ≤ 9223372036854775807) (h : WD n ops Q S m fuel listed ((d, .int .i64 x) :: l) w) : WD n ops Q S m fuel listed ((d, .int .i64 (IntKind.wrap .i64 x)) :: l) w := WD.top (congrArg (Value.int .i64) (IntWalk.i64_in _ hx)) h
theorem WD.skip {oi : Oper} (i : Nat) (hi : ops[i]? = some oi) (hs : mayB ops listed i m = true) (hd : oi.dst = some d) (hn : Nat.blt d n.n = true)
    (hQ : Passes Q) (hw : wants ops l oi = some false) (hS : listed.getD m false = true ∨ S w) (h : WD n ops Q S m fuel (listed.setIfInBounds i true) ((d, undef) :: l) w) : WD n ops Q S m (fuel + 1) listed l w :=
  WD.first i hi hs hd hn hQ (fun _ ha => .inr ⟨wants_run ha hw, rfl⟩) hS h
theorem WD.read {oi : Oper} {v : Value} (i : Nat) (us : List Nat) (hi : ops[i]? = some oi) (hs : mayR ops listed i m us = true) (hd : oi.dst = some d) (hn : Nat.blt d n.n = true)
    (hQ : Passes Q) (hw : wants ops l oi = some true) (hv : ∀ a, Fr n a l → ∀ w, S w → (execOp a.eval oi).run Try.prog w = .ok (.value v) w) (hS : S w) (h : WD n ops Q S m fuel (listed.setIfInBounds i true) ((d, v) :: l) w) : WD n ops Q S m (fuel + 1) listed l w :=
  ⟨fun a ha => by
    unfold mayR at hs; simp only [Bool.and_eq_true, Bool.not_eq_true'] at hs; exact wpTill_first hi (Region.noSelect_spec hs.1.1.1.1) (by rw [hd]; exact fun c a w => hQ c a d v w) fuel listed a w (Region.free_spec hi hs.1.1.1.2) hs.1.2 (by simpa using hs.2) (by simpa using hs.1.1.2) (.inl ⟨wants_run ha hw, hv a ha⟩) hS (by rw [hd]; exact h.go _ (ha.put hn v))⟩
theorem WD.load {oi : Oper} {t : Nat} {x : Operand} {p : Addr} {v : Value} (i : Nat) (us : List Nat) (hi : ops[i]? = some oi) (hs : mayR ops listed i m us = true) (hd : oi.dst = some d) (hn : Nat.blt d n.n = true)
    (hQ : Passes Q) (hw : wants ops l oi = some true) (ho : oi.op = .load t x) (hx : evl l x = some (.pointer (some p))) (ht : scal (tyOf ty t) = true) (hc : ∀ w, S w → w.cell? p = some v) (hS : S w)
    (h : WD n ops Q S m fuel (listed.setIfInBounds i true) ((d, v) :: l) w) : WD n ops Q S m (fuel + 1) listed l w :=
  WD.read i us hi hs hd hn hQ hw (fun a ha w hw => by unfold execOp; rw [ho]; simp [ha.eval hx, Instr.loadAt, Instr.sureAddr, scal_run ht p (hc w hw)]) hS h
theorem WD.loadMid {oi : Oper} {t b off mm : Nat} {x : Operand} {cs : List Value} (i : Nat) (us : List Nat) (hi : ops[i]? = some oi) (hs : mayR ops listed i m us = true) (hd : oi.dst = some d) (hn : Nat.blt d n.n = true)
    (hQ : Passes Q) (hw : wants ops l oi = some true) (ho : oi.op = .load t x) (hx : evl l x = some (.pointer (some ⟨b, off, none⟩))) (ht : cellsN (tyOf ty t) = some mm) (hc : ∀ w, S w → w.rangeAt b off cs) (hm : cs.length = mm) (hS : S w)
    (h : WD n ops Q S m fuel (listed.setIfInBounds i true) ((d, .agg cs.toArray) :: l) w) : WD n ops Q S m (fuel + 1) listed l w :=
  WD.read i us hi hs hd hn hQ hw (fun a ha w hw => by
    obtain ⟨_, hu, hdd, hsz⟩ := cellsN_ok tyOk ht; unfold execOp; rw [ho]; have := run_loadVar_mid (P := Try.prog) w b off t cs _ (hc w hw) hu hdd (by rw [hsz, hm]); simp [ha.eval hx, Instr.loadAt, Instr.sureAddr, this]) hS h
theorem WD.idx {oi : Oper} {t e s : Nat} {x i' : Operand} {b off len cap : Nat} {k : IntKind} {z : Int} (i j q : Nat) (hi : ops[i]? = some oi) (hs : mayB ops listed i m = true) (hd : oi.dst = some d) (hn : Nat.blt d n.n = true)
    (hQ : Passes Q) (hw : wants ops l oi = some true) (ho : oi.op = .indexAddr t x i') (ht : tyOf ty t = some (.slice e s))
    (hx : evl l x = some (.slice (some ⟨b, off, none⟩) len cap)) (hi' : evl l i' = some (.int k z)) (hz : z = (j : Int)) (hj : j < len) (hq : off + j * s = q) (hS : listed.getD m false = true ∨ S w)
    (h : WD n ops Q S m fuel (listed.setIfInBounds i true) ((d, .pointer (some ⟨b, q, none⟩)) :: l) w) : WD n ops Q S m (fuel + 1) listed l w :=
  WD.first i hi hs hd hn hQ (fun _ ha => .inl ⟨wants_run ha hw, fun w _ => by rw [← hq]; exact idx_run ho ht (ha.eval hx) (ha.eval hi') hz hj⟩) hS h
end K
end Go.Proofs.Ytfpakjbaiohcaaa

namespace Go.Proofs.Ytfpakjbaiohcaaa
open Go.RowKit
namespace K
section
variable {kn : Nat} {ds : List Deferred} {n : NN} {Q : Exit → Act → World → Prop} {l : Env} {w w' : World} {ops : Array Oper} {o : Oper} {rest : List Oper} {d : Nat} {S : World → Prop} {m fuel : Nat} {listed : Array Bool}
def fzV (ops : Array Oper) (l : Env) (o : Oper) : Option Value := match wants ops l o with
  | some true => pv ty l o.op
  | some false => some undef
  | none => none
structure WDs (is : List Nat) (n : NN) (ops : Array Oper) (Q : Exit → Act → World → Prop) (S : World → Prop) (m fuel : Nat) (listed : Array Bool) (l : Env) (w : World) : Prop where
  go : S w → WD n ops Q S m fuel listed l w
theorem fst {i : Nat} {is : List Nat} {oi : Oper} {v : Value} (hi : ops[i]? = some oi) (hs : mayB ops listed i m = true) (hd : oi.dst = some d) (hn : Nat.blt d n.n = true) (hQ : Passes Q) (hv : fzV ops l oi = some v) (h : WDs is n ops Q S m fuel (listed.setIfInBounds i true) ((d, v) :: l) w) : WDs (i :: is) n ops Q S m (fuel + 1) listed l w := ⟨fun hS => by
  have h := h.go hS; unfold fzV at hv; cases hw : wants ops l oi with
  | none => rw [hw] at hv; cases hv
  | some b =>
    rw [hw] at hv; cases b with
    | true => exact WD.free i hi hs hd hn hQ hw hv (.inr hS) h
    | false => cases hv; exact WD.skip i hi hs hd hn hQ hw (.inr hS) h⟩
theorem WDs.nil (h : WD n ops Q S m fuel listed l w) : WDs [] n ops Q S m fuel listed l w := ⟨fun _ => h⟩
theorem WDs.topT {is : List Nat} {p : Prop} [Decidable p] (hp : p) (h : WDs is n ops Q S m fuel listed ((d, .bool true) :: l) w) : WDs is n ops Q S m fuel listed ((d, .bool (decide p)) :: l) w := ⟨fun hS => WD.topT hp (h.go hS)⟩
theorem WDs.topF {is : List Nat} {p : Prop} [Decidable p] (hp : ¬ p) (h : WDs is n ops Q S m fuel listed ((d, .bool false) :: l) w) : WDs is n ops Q S m fuel listed ((d, .bool (decide p)) :: l) w := ⟨fun hS => WD.topF hp (h.go hS)⟩
theorem WDs.top64 {is : List Nat} {x : Int} (hx : -9223372036854775808 ≤ x ∧ x ≤ 9223372036854775807) (h : WDs is n ops Q S m fuel listed ((d, .int .i64 x) :: l) w) : WDs is n ops Q S m fuel listed ((d, .int .i64 (IntKind.wrap .i64 x)) :: l) w := ⟨fun hS => WD.top64 hx (h.go hS)⟩
theorem fr {R : Prop} (is : List Nat) (hS : S w) (q : R) (h : Hold R → WDs is n ops Q S m fuel listed l w := by intro q; (repeat (refine fst rfl (by kernel_rfl) rfl rfl (fun _ _ _ _ _ h => h) rfl ?_; try (first | ((with_reducible refine WDs.topT ?_ ?_); omega) | ((with_reducible refine WDs.topF ?_ ?_); omega) | ((with_reducible refine WDs.top64 ?_ ?_); omega)))); refine WDs.nil ?_; exact q.out) : WD n ops Q S m fuel listed l w := (h ⟨q⟩).go hS
theorem fzl {oi : Oper} {v : Value} {R : Prop} (i : Nat) (hS : listed.getD m false = true) (hi : ops[i]? = some oi := by exact rfl) (hs : mayB ops listed i m = true := by kernel_rfl) (hd : oi.dst = some d := by exact rfl) (hn : Nat.blt d n.n = true := by exact rfl)
    (hQ : Passes Q := by exact fun _ _ _ _ _ h => h) (hv : fzV ops l oi = some v := by exact rfl) (q : R) (h : Hold R → WD n ops Q S m fuel (listed.setIfInBounds i true) ((d, v) :: l) w := by intro q; (first | ((with_reducible refine WD.topT ?_ ?_); omega; exact q.out) | ((with_reducible refine WD.topF ?_ ?_); omega; exact q.out) | ((with_reducible refine WD.top64 ?_ ?_); omega; exact q.out) | exact q.out)) : WD n ops Q S m (fuel + 1) listed l w := by
  have h := h ⟨q⟩; unfold fzV at hv; cases hw : wants ops l oi with
  | none => rw [hw] at hv; cases hv
  | some b =>
    rw [hw] at hv; cases b with
    | true => exact WD.free i hi hs hd hn hQ hw hv (.inl hS) h
    | false => cases hv; exact WD.skip i hi hs hd hn hQ hw (.inl hS) h
theorem wl {oi : Oper} {t : Nat} {x : Operand} {p : Addr} {v : Value} (i : Nat) (us : List Nat) (hi : ops[i]? = some oi) (hd : oi.dst = some d) (hn : Nat.blt d n.n = true) (hw : wants ops l oi = some true) (ho : oi.op = .load t x) (hx : evl l x = some (.pointer (some p))) (ht : scal (tyOf ty t) = true)
    (hc : ∀ w, S w → w.cell? p = some v) (hS : S w) (h : WD n ops Q S m fuel (listed.setIfInBounds i true) ((d, v) :: l) w) (hs : mayR ops listed i m us = true := by kernel_rfl) (hQ : Passes Q := by exact fun _ _ _ _ _ h => h) : WD n ops Q S m (fuel + 1) listed l w :=
  WD.load i us hi hs hd hn hQ hw ho hx ht hc hS h
theorem wm {oi : Oper} {t b off mm : Nat} {x : Operand} {cs : List Value} (i : Nat) (us : List Nat) (hi : ops[i]? = some oi) (hd : oi.dst = some d) (hn : Nat.blt d n.n = true) (hw : wants ops l oi = some true) (ho : oi.op = .load t x) (hx : evl l x = some (.pointer (some ⟨b, off, none⟩))) (ht : cellsN (tyOf ty t) = some mm)
    (hc : ∀ w, S w → w.rangeAt b off cs) (hm : cs.length = mm) (hS : S w) (h : WD n ops Q S m fuel (listed.setIfInBounds i true) ((d, .agg cs.toArray) :: l) w) (hs : mayR ops listed i m us = true := by kernel_rfl) (hQ : Passes Q := by exact fun _ _ _ _ _ h => h) : WD n ops Q S m (fuel + 1) listed l w :=
  WD.loadMid i us hi hs hd hn hQ hw ho hx ht hc hm hS h
theorem wi {oi : Oper} {t e s : Nat} {x i' : Operand} {b off len cap : Nat} {k : IntKind} {z : Int} (i j q : Nat) (hi : ops[i]? = some oi) (hd : oi.dst = some d) (hn : Nat.blt d n.n = true) (hw : wants ops l oi = some true) (ho : oi.op = .indexAddr t x i') (ht : tyOf ty t = some (.slice e s))
    (hx : evl l x = some (.slice (some ⟨b, off, none⟩) len cap)) (hi' : evl l i' = some (.int k z)) (hz : z = (j : Int)) (hj : j < len) (hq : off + j * s = q) (hS : listed.getD m false = true ∨ S w)
    (h : WD n ops Q S m fuel (listed.setIfInBounds i true) ((d, .pointer (some ⟨b, q, none⟩)) :: l) w) (hs : mayB ops listed i m = true := by kernel_rfl) (hQ : Passes Q := by exact fun _ _ _ _ _ h => h) : WD n ops Q S m (fuel + 1) listed l w :=
  WD.idx i j q hi hs hd hn hQ hw ho ht hx hi' hz hj hq hS h
theorem wo {oi : Oper} (i : Nat) (h : WL ⟨kn, ds, none⟩ ops (Exit.then (DK ops Q S m fuel (listed.setIfInBounds i true)) Q) [oi] l w) (hr : Region.ready .any ops listed = [i] := by kernel_rfl) (hi : ops[i]? = some oi := by exact rfl) : WD ⟨kn, ds, none⟩ ops Q S m (fuel + 1) listed l w :=
  WD.one i hr hi h
theorem di (hS : S w) (h : WD n ops Q S m fuel listed l w) : WL n ops (Exit.then (DK ops Q S m fuel listed) Q) [] l w := WL.nil (WQ.dk (.inr hS) h)
theorem dl (h : WD n ops Q S m fuel listed l w) (hm : listed.getD m false = true := by exact rfl) : WL n ops (Exit.then (DK ops Q S m fuel listed) Q) [] l w := WL.nil (WQ.dk (.inl hm) h)
end
end K
end Go.Proofs.Ytfpakjbaiohcaaa

namespace Go.Proofs.Ytfpakjbaiohcaaa
open Go.RowKit
namespace K
theorem maskN (a : Nat) (ha : a < 18446744073709551616) : bits .and .u64 (a : Int) 4294967295 = ((a % 4294967296 : Nat) : Int) := by
  have h := bits_and_u64_nat a 4294967295 ha (by omega); have e : a &&& 4294967295 = a % 4294967296 := Nat.and_two_pow_sub_one_eq_mod a 32; rw [e] at h; exact h
theorem divN (a : Nat) : (a : Int) / ((2 ^ min 32 IntKind.u64.bits : Nat) : Int) = ((a / 4294967296 : Nat) : Int) := by
  rw [show ((2 ^ min 32 IntKind.u64.bits : Nat) : Int) = 4294967296 from rfl]; omega
theorem mulN (a b : Nat) : (a : Int) * (b : Int) = ((a * b : Nat) : Int) := (Int.natCast_mul a b).symm
theorem addN (a b : Nat) : (a : Int) + (b : Int) = ((a + b : Nat) : Int) := (Int.natCast_add a b).symm
theorem wrapN (a : Nat) (ha : a < 18446744073709551616) : IntKind.u64.wrap (a : Int) = (a : Int) := by rw [IntKind.wrap_u64]; omega
theorem wrapM (a : Nat) : IntKind.u64.wrap (a : Int) = ((a % 18446744073709551616 : Nat) : Int) := by rw [IntKind.wrap_u64]; omega
theorem mul64_any (x y : Nat) (hx : x < 18446744073709551616) (hy : y < 18446744073709551616) (w : World) :
    Calls Try.prog 36 #[.int .u64 x, .int .u64 y] w fun e w' => e = .returned (.tuple #[.int .u64 (x * y / 18446744073709551616 : Nat), .int .u64 (x * y % 18446744073709551616 : Nat)]) ∧ w = w' := by
  obtain ⟨bd, bt, bw, hhi⟩ := Lib.mul64_hi x y hx hy; have ba := Lib.half_mul_le (a := x / 4294967296) (b := y / 4294967296) (by omega) (by omega); have bb := Lib.half_mul_le (a := x / 4294967296) (b := y % 4294967296) (by omega) (by omega); have bc := Lib.half_mul_le (a := x % 4294967296) (b := y / 4294967296) (by omega) (by omega); have ba' : x / 4294967296 * (y / 4294967296) < 18446744073709551616 := by omega
  have bb' : x / 4294967296 * (y % 4294967296) < 18446744073709551616 := by omega
  have bc' : x % 4294967296 * (y / 4294967296) < 18446744073709551616 := by omega
  have bh1 : x / 4294967296 * (y / 4294967296) + (x / 4294967296 * (y % 4294967296) + x % 4294967296 * (y % 4294967296) / 4294967296) / 4294967296 < 18446744073709551616 := by omega
  have bh : x / 4294967296 * (y / 4294967296) + (x / 4294967296 * (y % 4294967296) + x % 4294967296 * (y % 4294967296) / 4294967296) / 4294967296 + ((x / 4294967296 * (y % 4294967296) + x % 4294967296 * (y % 4294967296) / 4294967296) % 4294967296 + x % 4294967296 * (y / 4294967296)) / 4294967296 < 18446744073709551616 := by omega
  refine enter (args := [.int .u64 x, .int .u64 y]) Try.func36 rfl Try.ntmps36 rfl ?_; refine K.kgo ?_; refine WQ.ret2 rfl rfl rfl ⟨?_, rfl⟩; simp only [maskN x hx, maskN y hy, divN, mulN, addN, wrapN _ bd, wrapN _ bb', wrapN _ bt, maskN _ bt, wrapN _ bc', wrapN _ bw, wrapN _ ba', wrapN _ bh1, wrapN _ bh, wrapM (x * y)]; rw [hhi]
end K
end Go.Proofs.Ytfpakjbaiohcaaa

namespace Go.Proofs.Ytfpakjbaiohcaaa
open Go.RowKit
namespace K
variable {n : NN} {Q : Exit → Act → World → Prop} {l : Env} {w w' : World} {ops : Array Oper} {o : Oper} {rest : List Oper} {d : Nat}

theorem WL.appV {s x : Operand} {t e : TypeId} {m bytes : Nat} {v xv : Value} {k k2 : Nat} {l1 l2 : List Value} {O O2 : Nat → Prop} (hg : o.guard = none) (hd : o.dst = some d) (hn : Nat.blt d n.n = true)
    (ho : o.op = .call { callee := .builtin .append, args := #[s, x], argTypes := #[t, t] }) (E : ElemV Try.prog t e m bytes) (hs : evl l s = some v) (hown : OwnV e m w O v k l1) (hx : evl l x = some xv) (hsl : SlV w O2 m xv k2 l2) (hb : (k + k2) * bytes ≤ 140737488355328) (hb1 : k + k2 ≤ 140737488355328)
    (h : ∀ v' w', OwnV e m w' (fun g => O g ∨ g = w.heap.size) v' (k + k2) (l1 ++ l2) → Grow w v w' v' → WL n ops Q rest ((d, v') :: l) w') : WL n ops Q (o :: rest) l w :=
  ⟨fun a ha => by
    refine lw_via hg (by rw [ho]; intro c hc; cases hc) ?_; refine wpList_appV hg s x t ho E (ha.eval hs) hown (ha.eval hx) hsl rfl (by unfold maxLen; omega) hb ?_; intro sp c w' h2 h3 h4; rw [hd]; exact (h _ w' h2 ⟨grown_keep h3, fun g hg => (h4 g hg).imp id (fun e => by omega)⟩).go _ (ha.put hn _)⟩

theorem sl_from {w0 : World} {sp : Option Addr} {cap : Nat} {k : IntKind} {zs : List Int} (h : Sl k w0 (.slice sp zs.length cap) zs) {j : Nat} (hj : j ≤ zs.length) : Sl k w0 (sliced sp j zs.length cap 1) (zs.drop j) := by
  obtain ⟨sp', cap', he, hc, hm, hr, h0⟩ := h; obtain ⟨rfl, -, rfl⟩ : sp = sp' ∧ zs.length = zs.length ∧ cap = cap' := by injection he with a b c; exact ⟨a, b, c⟩
  unfold sliced; refine ⟨if cap = j then sp else sp.map (·.add (j * 1)), cap - j, by rw [List.length_drop], by rw [List.length_drop]; omega, by omega, fun hl => ?_, fun hn => ?_⟩
  · rw [List.length_drop] at hl
    obtain ⟨b, o, rfl, hb, hrow⟩ := hr (by omega); rw [if_neg (by omega)]; refine ⟨b, o + j, by simp [Addr.add_mid], hb, fun i hi => ?_⟩; rw [List.length_drop] at hi; have := hrow (j + i) (by omega); rw [show o + j + i = o + (j + i) by omega, this]; simp [nth, List.getD_eq_getElem?_getD, List.getElem?_drop]
  · by_cases e : cap = j
    · omega
    · rw [if_neg e] at hn
      cases sp with
      | none => have := h0 rfl; omega
      | some p => cases hn
theorem WL.from {t e : Nat} {x lo : Operand} {v : Value} {k kk : IntKind} {z : Int} {zs : List Int} {w0 : World} (hg : o.guard = none) (hd : o.dst = some d) (hn : Nat.blt d n.n = true) (ho : o.op = .slice t x (some lo) none none) (ht : tyOf ty t = some (.slice e 1))
    (hx : evl l x = some v) (hlo : evl l lo = some (.int kk z)) (h0 : 0 ≤ z) (h1 : z ≤ zs.length) (hs : Sl k w0 v zs) (h : ∀ v', Sl k w0 v' (zs.drop z.toNat) → WL n ops Q rest ((d, v') :: l) w) : WL n ops Q (o :: rest) l w := by
  have hs0 := hs; obtain ⟨sp, cap, rfl, hc, hm, hr, hn0⟩ := hs; refine WL.step hg hd hn (v := sliced sp z.toNat zs.length cap 1) (fun a ha => ?_) (h _ (sl_from hs0 (by omega))); obtain ⟨hu, hsz⟩ := TyOk.of tyOk ht; have he : Try.prog.elem t = e := by simp [Program.elem, hu]
  have hu' : Try.prog.underlying t = some (.slice (Try.prog.elem t)) := by rw [he]; exact hu
  have hs : (sizeOf e).run Try.prog w = .ok 1 w := by
    cases hq : Try.prog.info? e with
    | none => rw [hq] at hsz; cases hsz
    | some q => rw [hq] at hsz; simp at hsz; simp [sizeOf, typeInfo, hq, hsz]
  unfold execOp; rw [ho]; simp [ha.eval hx, ha.eval hlo, run_sliceAt_slice w t _ _ _ _ hu', run_slice_l w t sp zs.length cap hu' kk z h0 (by omega), he, hs]
section
variable {fn : Func} {R : Ending → World → Prop}
theorem WQ.retC {kn : Nat} {md : Option (Option Nat)} {p g T m : Nat} {ty' : TypeId} {cs : List Value} (hr : fn.results = #[.cell p ty']) (hl : look l p = some (.pointer (some ⟨g, 0, none⟩))) (ht : cellsN (tyOf ty ty') = some m) (hm : cs.length = m) (hb : VBlk T w g cs)
    (h : R (.returned (.agg cs.toArray)) w) : WQ ⟨kn, [], md⟩ (bodyPost Try.prog fn R) .ret l w :=
  ⟨fun a ha => ⟨ha.defers, _, by
    obtain ⟨_, hu, hdd, hsz⟩ := cellsN_ok tyOk ht; have hp := ha.getD hl; simp only [Array.getD_eq_getD_getElem?] at hp; have := run_loadVar_mid (P := Try.prog) w g 0 ty' cs _ (VBlk.rangeAt hb) hu hdd (by rw [hsz, hm]); simp [results, hr, hp, asAddr, this], h⟩⟩
end
end K
end Go.Proofs.Ytfpakjbaiohcaaa

namespace Go.Proofs.Ytfpakjbaiohcaaa
open Go.RowKit
namespace K
variable {n : NN} {Q : Exit → Act → World → Prop} {l : Env} {w w' : World} {ops : Array Oper} {o : Oper} {rest : List Oper} {d : Nat}

section
variable {S : World → Prop} {m fuel : Nat} {listed : Array Bool}
theorem WD.idxI {oi : Oper} {t e : Nat} {x i' : Operand} {v : Value} {k kk : IntKind} {z : Int} {zs : List Int} {w0 : World} (i j : Nat) (hi : ops[i]? = some oi) (hs : mayB ops listed i m = true) (hd : oi.dst = some d) (hn : Nat.blt d n.n = true)
    (hQ : Passes Q) (hw : wants ops l oi = some true) (ho : oi.op = .indexAddr t x i') (ht : tyOf ty t = some (.slice e 1)) (hx : evl l x = some v) (hsl : Sl kk w0 v zs) (hi' : evl l i' = some (.int k z)) (hz : z = (j : Int)) (hj : j < zs.length)
    (hS : listed.getD m false = true ∨ S w) (h : ∀ p, w0.cell? p = some (.int kk (nth zs j)) → WD n ops Q S m fuel (listed.setIfInBounds i true) ((d, .pointer (some p)) :: l) w) : WD n ops Q S m (fuel + 1) listed l w := by
  obtain ⟨sp, cap, rfl, -, -, h3, -⟩ := hsl; obtain ⟨b, off, rfl, -, hr⟩ := h3 (by omega); exact WD.idx i j (off + j) hi hs hd hn hQ hw ho ht hx hi' hz hj (by rw [Nat.mul_one]) hS (h _ (hr.at j hj))
end
theorem heap_cell {w w' : World} (h : w'.heap = w.heap) (p : Addr) : w'.cell? p = w.cell? p := World.cell?_of_block (by rw [h])
end K
end Go.Proofs.Ytfpakjbaiohcaaa

namespace Go.Proofs.Ytfpakjbaiohcaaa
open Go.RowKit
namespace K
variable {n : NN} {Q : Exit → Act → World → Prop} {l : Env} {w w' : World} {ops : Array Oper} {o : Oper} {rest : List Oper} {d : Nat}

def Els {α : Type} (m : Nat) (z : α) (P : α → List Value → Prop) (O : Nat → Prop) (w : World) (v : Value) (l : List α) : Prop :=
  ∃ sp cap, v = .slice sp l.length cap ∧ l.length ≤ cap ∧ cap ≤ 9223372036854775807 ∧ (sp = none → cap = 0) ∧
    (0 < l.length → ∃ b o, sp = some ⟨b, o, none⟩ ∧ b < w.heap.size ∧ O b ∧ ∀ j, j < l.length → ∃ cs, cs.length = m ∧ P (l.getD j z) cs ∧ w.rangeAt b (o + j * m) cs)
theorem Els.nil {α : Type} (m : Nat) (z : α) (P : α → List Value → Prop) (O : Nat → Prop) (w : World) : Els m z P O w (.slice none 0 0) [] :=
  ⟨none, 0, rfl, Nat.le_refl _, by omega, fun _ => rfl, fun h => absurd h (by simp)⟩
theorem Els.keep {α : Type} {m : Nat} {z : α} {P P' : α → List Value → Prop} {O O' : Nat → Prop} {w w' : World} {v : Value} {l : List α} (h : Els m z P O w v l) {K : Nat → Prop} (hk : Keep K w w') (hK : ∀ b, O b → b < w.heap.size → K b)
    (hO : ∀ b, O b → O' b) (hP : ∀ x cs, P x cs → P' x cs) : Els m z P' O' w' v l := by
  obtain ⟨sp, cap, h1, h2, h3, h5, h4⟩ := h; refine ⟨sp, cap, h1, h2, h3, h5, fun h0 => ?_⟩; obtain ⟨b, o, e, hlt, hOb, hr⟩ := h4 h0; refine ⟨b, o, e, Nat.lt_of_lt_of_le hlt hk.size, hO b hOb, fun j hj => ?_⟩; obtain ⟨cs, hc, hp, hat⟩ := hr j hj; exact ⟨cs, hc, hP _ _ hp, fun i u hu => by rw [hk.cell (p := ⟨b, o + j * m + i, none⟩) (hK b hOb hlt)]; exact hat i u hu⟩
theorem Els.mono {α : Type} {m : Nat} {z : α} {P P' : α → List Value → Prop} {O O' : Nat → Prop} {w : World} {v : Value} {l : List α} (h : Els m z P O w v l) (hO : ∀ b, O b → O' b) (hP : ∀ x cs, P x cs → P' x cs) : Els m z P' O' w v l :=
  h.keep (Keep.refl (fun _ => True) w) (fun _ _ _ => trivial) hO hP

def OwnE {α : Type} (e : TypeId) (m : Nat) (z : α) (P : α → List Value → Prop) (O : Nat → Prop) (w : World) (v : Value) (l : List α) : Prop :=
  ∃ kcs : List (List Value), kcs.length = l.length ∧ (∀ j, j < l.length → (kcs.getD j []).length = m ∧ P (l.getD j z) (kcs.getD j [])) ∧ OwnV e m w O v l.length kcs.flatten
theorem OwnE.nil {α : Type} (e : TypeId) (m : Nat) (z : α) (P : α → List Value → Prop) (O : Nat → Prop) (w : World) : OwnE e m z P O w (.slice none 0 0) [] := ⟨[], rfl, fun j hj => absurd hj (by simp), OwnV.nil _ _ _ _⟩
theorem OwnE.keep {α : Type} {e : TypeId} {m : Nat} {z : α} {P P' : α → List Value → Prop} {O O' : Nat → Prop} {w w' : World} {v : Value} {l : List α} (h : OwnE e m z P O w v l) {K : Nat → Prop} (hk : Keep K w w') (hK : ∀ g, v.ownBlock = some g → K g)
    (hO : ∀ b, O b → O' b) (hP : ∀ x cs, P x cs → P' x cs) : OwnE e m z P' O' w' v l := by
  obtain ⟨kcs, h1, h2, h3⟩ := h; exact ⟨kcs, h1, fun j hj => ⟨(h2 j hj).1, hP _ _ (h2 j hj).2⟩, (h3.keep hk hK).mono hO⟩
theorem OwnE.lt {α : Type} {e : TypeId} {m : Nat} {z : α} {P : α → List Value → Prop} {O : Nat → Prop} {w : World} {v : Value} {l : List α} (h : OwnE e m z P O w v l) {g : Nat} (hg : v.ownBlock = some g) : g < w.heap.size := by
  obtain ⟨kcs, -, -, h3⟩ := h; exact h3.lt hg
theorem OwnE.own {α : Type} {e : TypeId} {m : Nat} {z : α} {P : α → List Value → Prop} {O : Nat → Prop} {w : World} {v : Value} {l : List α} (h : OwnE e m z P O w v l) {g : Nat} (hg : v.ownBlock = some g) : O g := by
  obtain ⟨kcs, -, -, h3⟩ := h; exact h3.own hg
theorem OwnE.one {α : Type} {e : TypeId} {m : Nat} {z : α} {P : α → List Value → Prop} {O : Nat → Prop} {w : World} {v : Value} {l : List α} (h : OwnE e m z P O w v l) : v.oneCell' = true := by
  obtain ⟨kcs, -, -, h3⟩ := h; obtain ⟨sp, c, rfl, -⟩ := h3.slice; rfl
theorem flatten_get {m : Nat} : ∀ (k : List (List Value)), (∀ x ∈ k, x.length = m) → ∀ j i, j < k.length → i < m → k.flatten[j * m + i]? = (k.getD j [])[i]?
  | [], _, j, i, hj, _ => by simp at hj
  | x :: k, hx, j, i, hj, hi => by
    have h0 := hx x (by simp); cases j with
    | zero => simp only [List.flatten_cons, List.getD_cons_zero, Nat.zero_mul, Nat.zero_add]; rw [List.getElem?_append_left (by omega)]
    | succ j =>
      simp only [List.flatten_cons, List.getD_cons_succ]; rw [List.getElem?_append_right (by rw [h0, Nat.succ_mul]; omega), h0, show (j + 1) * m + i - m = j * m + i by rw [Nat.succ_mul]; omega]; exact flatten_get k (fun y hy => hx y (by simp [hy])) j i (by simpa using hj) hi
theorem all_of_getD {m : Nat} {k : List (List Value)} (h : ∀ j, j < k.length → (k.getD j []).length = m) : ∀ x ∈ k, x.length = m := by
  intro x hx; obtain ⟨j, hj, rfl⟩ := List.getElem_of_mem hx; have := h j hj
  simpa [hj] using this
theorem OwnE.els {α : Type} {e : TypeId} {m : Nat} {z : α} {P : α → List Value → Prop} {O : Nat → Prop} {w : World} {v : Value} {l : List α} (h : OwnE e m z P O w v l) : Els m z P O w v l := by
  obtain ⟨kcs, h1, h2, h3⟩ := h; obtain ⟨q1, q2, sp, cap, rfl, h4, h5, h6, h7⟩ := h3.slV; refine ⟨sp, cap, rfl, h4, h5, h6, fun h0 => ?_⟩; obtain ⟨b, o, e, hb, hO, hr⟩ := h7 h0; have hall := all_of_getD (k := kcs) (m := m) fun j hj => (h2 j (by omega)).1; refine ⟨b, o, e, hb, hO, fun j hj => ⟨kcs.getD j [], (h2 j hj).1, (h2 j hj).2, fun i u hu => ?_⟩⟩; have him : i < m := by
    rcases Nat.lt_or_ge i m with h | h
    · exact h
    · rw [List.getElem?_eq_none (by rw [(h2 j hj).1]; exact h)] at hu; cases hu
  have hg := flatten_get kcs hall j i (by omega) him; have hlt : j * m + i < kcs.flatten.length := by
    rcases Nat.lt_or_ge (j * m + i) kcs.flatten.length with h | h
    · exact h
    · rw [List.getElem?_eq_none h, hu] at hg; cases hg
  have := hr (j * m + i) hlt; rw [Nat.add_assoc, this, List.getD_eq_getElem?_getD, hg, hu]
  rfl
theorem OwnE.snoc {α : Type} {e : TypeId} {m : Nat} {z : α} {P : α → List Value → Prop} {O : Nat → Prop} {w' : World} {v' : Value} {l : List α} {kcs : List (List Value)} {x : α} {cs : List Value} (h1 : kcs.length = l.length) (h2 : ∀ j, j < l.length → (kcs.getD j []).length = m ∧ P (l.getD j z) (kcs.getD j []))
    (hc : cs.length = m) (hp : P x cs) (h : OwnV e m w' O v' (l.length + 1) (kcs.flatten ++ cs)) : OwnE e m z P O w' v' (l ++ [x]) := by
  refine ⟨kcs ++ [cs], by simp [h1], fun j hj => ?_, ?_⟩
  · rcases Nat.lt_or_ge j l.length with hl | hl
    · have := h2 j hl
      simp only [List.getD_eq_getElem?_getD] at this ⊢; rw [List.getElem?_append_left (by omega), List.getElem?_append_left (by omega)]; exact this
    · obtain rfl : j = l.length := by simp at hj; omega
      simp only [List.getD_eq_getElem?_getD]; rw [List.getElem?_append_right (by omega), List.getElem?_append_right (by omega), h1]; simp [hc, hp]
  · rw [List.length_append, List.length_singleton, List.flatten_append]
    simpa using h

theorem WL.lit1 {t e s : Nat} {x : Operand} {u : Value} {cs : List Value} (hg : o.guard = none) (hd : o.dst = some d) (hn : Nat.blt d n.n = true) (ho : o.op = .buildSlice t 1 #[(0, x)]) (ht : tyOf ty t = some (.slice e s))
    (hx : evl l x = some u) (hu : u.cells = cs.toArray) (hcs : cs.length = s) (hs : 0 < s ∧ s ≤ 1000) (hz : (Try.prog.info? e).bind (fun i => i.zero.map fun _ => i.size) = some s) (h : ∀ g w', Fresh w g w' e cs → WL n ops Q rest ((d, .slice (some ⟨g, 0, none⟩) 1 1) :: l) w') : WL n ops Q (o :: rest) l w :=
  WL.step hg hd hn (fun a ha => by
    obtain ⟨ie, hie, hz⟩ := Option.bind_eq_some_iff.1 hz; obtain ⟨z, hz, hsz⟩ := Option.map_eq_some_iff.1 hz; unfold execOp; rw [ho]; have e2 := Great.fill_whole (s := s) hs.1 [u] ((Array.range (1 * s)).map (z.cells[· % z.cells.size]!)) (by intro v hv; simp at hv; rw [hv, hu]; simpa using hcs) (by simp); have := run_buildSlice (P := Try.prog) w t e 1 (#[(0, x)].map fun (p : Nat × Operand) => (p.1, a.eval p.2)) cs.toArray ie z (TyOk.of tyOk ht).1 hie hz (by rw [hsz]; omega) (by rw [hsz]; omega) (by
      rw [hsz]; simp only [List.map_toArray, List.map_cons, List.map_nil, ha.eval hx]; refine Eq.trans e2 ?_; simp [hu])
    simp only [Sem.run_bind, this, Result.andThen_ok]
    rfl) (h _ _ (Fresh.mk' w e cs))
theorem WL.snoc {α : Type} {s x : Operand} {t e : TypeId} {m bytes : Nat} {z : α} {P : α → List Value → Prop} {O : Nat → Prop} {v : Value} {k : List α} {y : α} {cs : List Value} {g : Nat} (hg : o.guard = none) (hd : o.dst = some d) (hn : Nat.blt d n.n = true)
    (ho : o.op = .call { callee := .builtin .append, args := #[s, x], argTypes := #[t, t] }) (E : ElemV Try.prog t e m bytes) (hs : evl l s = some v) (hown : OwnE e m z P O w v k) (hx : evl l x = some (.slice (some ⟨g, 0, none⟩) 1 1))
    (hf : VBlk e w g cs) (h1 : Ones cs) (hc : cs.length = m) (hp : P y cs) (hb : (k.length + 1) * bytes ≤ 140737488355328) (hb1 : k.length + 1 ≤ 140737488355328)
    (h : ∀ v' w', OwnE e m z P (fun b => O b ∨ b = w.heap.size) w' v' (k ++ [y]) → Grow w v w' v' → WL n ops Q rest ((d, v') :: l) w') : WL n ops Q (o :: rest) l w := by
  obtain ⟨kcs, h2, h3, h4⟩ := hown; have hsl : SlV w (fun b => b = g) m (.slice (some ⟨g, 0, none⟩) 1 1) 1 cs := ⟨by rw [hc, Nat.one_mul], h1, _, 1, rfl, Nat.le_refl _, by omega, (fun h => by cases h), fun _ => ⟨g, 0, rfl, hf.lt, rfl, RowV.of_vblk hf⟩⟩; refine WL.appV hg hd hn ho E hs h4 hx hsl hb hb1 fun v' w' h5 h6 => h v' w' ?_ h6; exact OwnE.snoc h2 h3 hc hp h5
end K
end Go.Proofs.Ytfpakjbaiohcaaa

namespace Go.Proofs.Ytfpakjbaiohcaaa
open Go.RowKit
namespace K

structure Apart (w0 w : World) (b : Value) : Prop where
  below : Below w0.heap.size w0 w
  own : ∀ g, b.ownBlock = some g → w0.heap.size ≤ g
theorem Apart.grow {w0 w w' : World} {b b' : Value} (h : Apart w0 w b) (g : Grow w b w' b') : Apart w0 w' b' := ⟨h.below.trans (g.old h.below.size h.own), g.own h.below.size h.own⟩
abbrev six (v : V) (sn sk : Value) : List Value := [.int .i64 v.k, .int .i64 v.n, .int .i64 v.s, .string v.t, sn, sk]
theorem IsV.one {f : Nat} {w : World} {v : V} {cs : List Value} (h : IsV f w v cs) : Ones cs := by
  cases f with
  | zero => exact h.elim
  | succ f =>
    obtain ⟨sn, sk, rfl, -, -, -, -, ⟨_, _, rfl, -⟩, ⟨_, _, rfl, -⟩⟩ := h; intro u hu; simp at hu
    rcases hu with rfl | rfl | rfl | rfl | rfl | rfl <;> rfl
theorem Fresh.stand {w w1 wk : World} {g T : Nat} {cs : List Value} {b vk : Value} {l : List Int} (h : Fresh w g w1 T cs) (hb : Bu w b l) (hg : Grow w1 b wk vk) : VBlk T wk g cs :=
  h.blk.keep hg.1 ⟨by rw [h.size, h.eq]; omega, fun e => by have := hb.lt _ e; rw [h.eq] at this; omega⟩
end K
end Go.Proofs.Ytfpakjbaiohcaaa

namespace Go.Proofs.Ytfpakjbaiohcaaa
open Go.RowKit
namespace K
variable {n : NN} {Q : Exit → Act → World → Prop} {l : Env} {w w' : World} {ops : Array Oper} {o : Oper} {rest : List Oper} {d : Nat}

def strP (s : ByteArray) (cs : List Value) : Prop := cs = [.string s] ∧ s.size ≤ 140737488355328
def IsVo (O : Nat → Prop) : Nat → World → V → List Value → Prop
  | 0, _, _, _ => False
  | f + 1, w, v, cs => ∃ sn sk, cs = [.int .i64 v.k, .int .i64 v.n, .int .i64 v.s, .string v.t, sn, sk] ∧
      (Lit.int .i64 v.k).wf = true ∧ (Lit.int .i64 v.n).wf = true ∧ (Lit.int .i64 v.s).wf = true ∧ v.t.size ≤ 140737488355328 ∧ Els 1 noT strP O w sn v.names ∧ Els 6 noV (IsVo O f w) O w sk v.kids
theorem IsVo.keep {O O' : Nat → Prop} {K : Nat → Prop} {w w' : World} (hk : Keep K w w') (hK : ∀ b, O b → b < w.heap.size → K b) (hO : ∀ b, O b → O' b) : ∀ {f : Nat} {v : V} {cs : List Value}, IsVo O f w v cs → IsVo O' f w' v cs
  | 0, _, _, h => h
  | _ + 1, _, _, ⟨sn, sk, h1, h2, h3, h4, h5, h6, h7⟩ => ⟨sn, sk, h1, h2, h3, h4, h5, h6.keep hk hK hO fun _ _ h => h, h7.keep hk hK hO fun _ _ h => IsVo.keep hk hK hO h⟩
theorem IsVo.mono {O O' : Nat → Prop} {w : World} (hO : ∀ b, O b → O' b) {f : Nat} {v : V} {cs : List Value} (h : IsVo O f w v cs) : IsVo O' f w v cs := h.keep (Keep.refl (fun _ => True) w) (fun _ _ _ => trivial) hO
theorem Els.there {α : Type} {m : Nat} {z : α} {P P' : α → List Value → Prop} {O : Nat → Prop} {w : World} {v : Value} {l : List α} (h : Els m z P O w v l) (hP : ∀ x cs, P x cs → P' x cs) : Els m z P' (fun b => O b ∧ b < w.heap.size) w v l := by
  obtain ⟨sp, cap, h1, h2, h3, h5, h4⟩ := h; refine ⟨sp, cap, h1, h2, h3, h5, fun h0 => ?_⟩; obtain ⟨b, o, e, hlt, hOb, hr⟩ := h4 h0; refine ⟨b, o, e, hlt, ⟨hOb, hlt⟩, fun j hj => ?_⟩; obtain ⟨cs, hc, hp, hat⟩ := hr j hj; exact ⟨cs, hc, hP _ _ hp, hat⟩
theorem IsVo.there {O : Nat → Prop} {w : World} : ∀ {f : Nat} {v : V} {cs : List Value}, IsVo O f w v cs → IsVo (fun b => O b ∧ b < w.heap.size) f w v cs
  | 0, _, _, h => h
  | _ + 1, _, _, ⟨sn, sk, h1, h2, h3, h4, h5, h6, h7⟩ => ⟨sn, sk, h1, h2, h3, h4, h5, h6.there fun _ _ h => h, h7.there fun _ _ h => IsVo.there h⟩
theorem Els.strs {O : Nat → Prop} {w : World} {v : Value} {l : List ByteArray} (h : Els 1 noT strP O w v l) : Strs w v l := by
  obtain ⟨sp, cap, h1, h2, h3, -, h4⟩ := h; refine ⟨sp, cap, h1, h2, h3, fun j hj => ?_, fun h0 => ?_⟩
  · obtain ⟨b, o, -, -, -, hr⟩ := h4 (by omega)
    obtain ⟨cs, -, ⟨-, hp⟩, -⟩ := hr j hj; exact hp
  · obtain ⟨b, o, e, hb, -, hr⟩ := h4 h0
    refine ⟨b, o, e, hb, fun j hj => ?_⟩; obtain ⟨cs, -, ⟨rfl, -⟩, hat⟩ := hr j hj; have := hat 0 _ rfl; rw [Nat.mul_one] at this; exact this
theorem IsVo.isV {O : Nat → Prop} {w : World} : ∀ {f : Nat} {v : V} {cs : List Value}, IsVo O f w v cs → IsV f w v cs
  | 0, _, _, h => h
  | _ + 1, _, _, ⟨sn, sk, h1, h2, h3, h4, h5, h6, h7⟩ => ⟨sn, sk, h1, h2, h3, h4, h5, h6.strs, by
      obtain ⟨sp, cap, k1, k2, k3, -, k4⟩ := h7; refine ⟨sp, cap, k1, k2, k3, fun h0 => ?_⟩; obtain ⟨b, o, e, hb, -, hr⟩ := k4 h0; refine ⟨b, o, e, hb, fun j hj => ?_⟩; obtain ⟨cs, hc, hp, hat⟩ := hr j hj; exact ⟨cs, hc, IsVo.isV hp, hat⟩⟩
theorem IsVo.len {O : Nat → Prop} {f : Nat} {w : World} {v : V} {cs : List Value} (h : IsVo O f w v cs) : cs.length = 6 := h.isV.len
theorem IsVo.one {O : Nat → Prop} {f : Nat} {w : World} {v : V} {cs : List Value} (h : IsVo O f w v cs) : Ones cs := IsV.one h.isV

def KeepR (rb : Nat) (w w' : World) : Prop := Keep (fun b => b < w.heap.size ∧ b ≠ rb) w w'
theorem KeepR.refl (rb : Nat) (w : World) : KeepR rb w w := Keep.refl _ _
theorem KeepR.trans {rb : Nat} {w w1 w2 : World} (h : KeepR rb w w1) (k : KeepR rb w1 w2) : KeepR rb w w2 := Keep.trans h (Keep.mono k fun _ hb => ⟨Nat.lt_of_lt_of_le hb.1 h.size, hb.2⟩)
theorem KeepR.below {rb : Nat} {w w1 : World} (h : Below w.heap.size w w1) : KeepR rb w w1 := (Keep.of_below h).mono fun _ hb => hb.1
theorem KeepR.set (rb i : Nat) (w : World) (v : Value) : KeepR rb w (w.setCell ⟨rb, i, none⟩ v) := (Keep.refl _ w).setCell (fun h => h.2 rfl) _
end K
end Go.Proofs.Ytfpakjbaiohcaaa

namespace Go.Proofs.Ytfpakjbaiohcaaa
open Go.RowKit
namespace K
theorem Keep.setRow {K : Nat → Prop} {a w : World} (h : Keep K a w) {g : Nat} (hg : ¬ K g) (cs : Array Value) : Keep K a (w.setRow g cs) :=
  ⟨h.os, h.tape, h.output, by simpa using h.size, fun k hk => (setRow_other w g k cs (fun e => hg (e ▸ hk))).trans (h.block k hk)⟩

theorem wf_i64 {x : Int} (h : -9223372036854775808 ≤ x ∧ x ≤ 9223372036854775807) : (Lit.int .i64 x).wf = true := by
  simp [Lit.wf, IntKind.min, IntKind.max, IntKind.bits, IntKind.signed]; omega
theorem isVo_leaf {O : Nat → Prop} {f : Nat} {w : World} {k n s : Int} {t : ByteArray} (hk : 0 ≤ k ∧ k ≤ 255) (hn : -9223372036854775808 ≤ n ∧ n ≤ 9223372036854775807) (hs : 0 ≤ s ∧ s ≤ 255) (ht : t.size ≤ 140737488355328) :
    IsVo O (f + 1) w (.mk k n s t [] []) [.int .i64 k, .int .i64 n, .int .i64 s, .string t, .slice none 0 0, .slice none 0 0] :=
  ⟨_, _, rfl, wf_i64 (by show -9223372036854775808 ≤ k ∧ k ≤ _; omega), wf_i64 hn, wf_i64 (by show -9223372036854775808 ≤ s ∧ s ≤ _; omega), ht, Els.nil _ _ _ _ _, Els.nil _ _ _ _ _⟩

structure KidsW (rb vb f : Nat) (k : Int) (w0 w : World) (ns : List ByteArray) (ks : List V) (sn sk : Value) (q : Nat → Prop) : Prop where
  blk : VBlk 37 w vb [.int .i64 k, .int .i64 0, .int .i64 0, .string ByteArray.empty, sn, sk]
  names : OwnE 9 1 noT strP (fun b => w0.heap.size ≤ b ∧ b ≠ vb) w sn ns
  kids : OwnE 37 6 noV (IsVo q f w) (fun b => w0.heap.size ≤ b ∧ b ≠ vb) w sk ks
  apart : ∀ g, sn.ownBlock = some g → sk.ownBlock ≠ some g
  qs : ∀ b, q b → w0.heap.size ≤ b ∧ b < w.heap.size ∧ b ≠ vb ∧ sn.ownBlock ≠ some b ∧ sk.ownBlock ≠ some b
  keep : KeepR rb w0 w
  vbe : vb = w0.heap.size
  rlt : rb < w0.heap.size
section
variable {rb vb f : Nat} {k : Int} {w0 w w' : World} {ns : List ByteArray} {ks : List V} {sn sk sn' sk' : Value} {q : Nat → Prop}
theorem KidsW.read (h : KidsW rb vb f k w0 w ns ks sn sk q) (hk : KeepR rb w w') : KidsW rb vb f k w0 w' ns ks sn sk q := by
  have hr := h.rlt; refine ⟨h.blk.keep hk ⟨h.blk.lt, by have := h.vbe; omega⟩, h.names.keep hk (fun g hg => ⟨h.names.lt hg, fun e => by have := (h.names.own hg).1; omega⟩) (fun _ h => h) fun _ _ h => h,
    h.kids.keep hk (fun g hg => ⟨h.kids.lt hg, fun e => by have := (h.kids.own hg).1; omega⟩) (fun _ h => h) fun x cs hx => hx.keep hk (fun b hb _ => ⟨(h.qs b hb).2.1, fun e => by have := (h.qs b hb).1; omega⟩) fun _ h => h,
    h.apart, fun b hb => ?_, h.keep.trans hk, h.vbe, h.rlt⟩
  obtain ⟨h1, h2, h3⟩ := h.qs b hb; exact ⟨h1, Nat.lt_of_lt_of_le h2 hk.size, h3⟩
theorem KidsW.below (h : KidsW rb vb f k w0 w ns ks sn sk q) (hk : Below w.heap.size w w') : KidsW rb vb f k w0 w' ns ks sn sk q := h.read (KeepR.below hk)
theorem KidsW.widen (h : KidsW rb vb f k w0 w ns ks sn sk q) {S : Nat} (hS : w0.heap.size ≤ S) (h1 : vb < S) (h2 : ∀ g, sn.ownBlock = some g → g < S) (h3 : ∀ g, sk.ownBlock = some g → g < S) : KidsW rb vb f k w0 w ns ks sn sk (fun b => q b ∨ (S ≤ b ∧ b < w.heap.size)) := by
  refine ⟨h.blk, h.names, h.kids.keep (Keep.refl (fun _ => True) w) (fun _ _ => trivial) (fun _ h => h) fun x cs hx => hx.mono fun b hb => .inl hb, h.apart, fun b hb => ?_, h.keep, h.vbe, h.rlt⟩; rcases hb with hb | ⟨hb1, hb2⟩
  · exact h.qs b hb
  · exact ⟨by omega, hb2, by omega, fun e => by have := h2 b e; omega, fun e => by have := h3 b e; omega⟩
theorem KidsW.setN (h : KidsW rb vb f k w0 w ns ks sn sk q) {s : ByteArray} (ho : OwnE 9 1 noT strP (fun b => (w0.heap.size ≤ b ∧ b ≠ vb) ∨ b = w.heap.size) w' sn' (ns ++ [s])) (hg : Grow w sn w' sn') :
    VBlk 37 w' vb [.int .i64 k, .int .i64 0, .int .i64 0, .string ByteArray.empty, sn, sk] ∧ KidsW rb vb f k w0 (w'.setCell ⟨vb, 4, none⟩ sn') (ns ++ [s]) ks sn' sk q := by
  have hvo : sn.ownBlock ≠ some vb := fun e => (h.names.own e).2 rfl; have hvb := h.blk.lt; have hblk : VBlk 37 w' vb [.int .i64 k, .int .i64 0, .int .i64 0, .string ByteArray.empty, sn, sk] := h.blk.keep hg.1 ⟨hvb, hvo⟩; have hsz := h.keep.size; have hO : ∀ b, (w0.heap.size ≤ b ∧ b ≠ vb) ∨ b = w.heap.size → w0.heap.size ≤ b ∧ b ≠ vb := fun b hb => hb.elim id fun e => by omega
  have hset : Keep (fun b => b ≠ vb) w' (w'.setCell ⟨vb, 4, none⟩ sn') := (Keep.refl _ w').setCell (fun hk => hk rfl) _; refine ⟨hblk, hblk.set 4 sn', ho.keep hset (fun g hg2 => (hO g (ho.own hg2)).2) hO fun _ _ h => h,
    (h.kids.keep hg.1 (fun g hg2 => ⟨h.kids.lt hg2, fun e => h.apart g e hg2⟩) (fun _ h => h) fun x cs hx => hx.keep hg.1 (fun b hb _ => ⟨(h.qs b hb).2.1, (h.qs b hb).2.2.2.1⟩) fun _ h => h).keep hset (fun g hg2 => (h.kids.own hg2).2) (fun _ h => h) fun x cs hx => hx.keep hset (fun b hb _ => (h.qs b hb).2.2.1) fun _ h => h,
    fun g hg2 e => (hg.2 g hg2).elim (fun h2 => h.apart g h2 e) fun h2 => by have := h.kids.lt e; omega, fun b hb => ?_, ?_, h.vbe, h.rlt⟩
  · obtain ⟨h1, h2, h3, h4, h5⟩ := h.qs b hb
    exact ⟨h1, Nat.lt_of_lt_of_le h2 (Nat.le_trans hg.1.size hset.size), h3, fun e => (hg.2 b e).elim h4 fun h6 => by omega, h5⟩
  · have hvb2 := h.vbe
    exact (Keep.trans h.keep ((Keep.mono hg.1 fun b hb => ⟨Nat.lt_of_lt_of_le hb.1 hsz, fun e => by have := (h.names.own e).1; omega⟩))).setCell (p := ⟨vb, 4, none⟩) (fun hk => by have := hk.1; simp only at this; omega) _
theorem KidsW.setK (h : KidsW rb vb f k w0 w ns ks sn sk q) {v : V} (ho : OwnE 37 6 noV (IsVo q f w) (fun b => (w0.heap.size ≤ b ∧ b ≠ vb) ∨ b = w.heap.size) w' sk' (ks ++ [v])) (hg : Grow w sk w' sk') :
    VBlk 37 w' vb [.int .i64 k, .int .i64 0, .int .i64 0, .string ByteArray.empty, sn, sk] ∧ KidsW rb vb f k w0 (w'.setCell ⟨vb, 5, none⟩ sk') ns (ks ++ [v]) sn sk' q := by
  have hvo : sk.ownBlock ≠ some vb := fun e => (h.kids.own e).2 rfl; have hvb := h.blk.lt; have hblk : VBlk 37 w' vb [.int .i64 k, .int .i64 0, .int .i64 0, .string ByteArray.empty, sn, sk] := h.blk.keep hg.1 ⟨hvb, hvo⟩; have hsz := h.keep.size; have hO : ∀ b, (w0.heap.size ≤ b ∧ b ≠ vb) ∨ b = w.heap.size → w0.heap.size ≤ b ∧ b ≠ vb := fun b hb => hb.elim id fun e => by omega
  have hset : Keep (fun b => b ≠ vb) w' (w'.setCell ⟨vb, 5, none⟩ sk') := (Keep.refl _ w').setCell (fun hk => hk rfl) _; have hP : ∀ x cs, IsVo q f w x cs → IsVo q f (w'.setCell ⟨vb, 5, none⟩ sk') x cs := fun x cs hx =>
    (hx.keep (O' := q) hg.1 (fun b hb _ => ⟨(h.qs b hb).2.1, (h.qs b hb).2.2.2.2⟩) fun _ h => h).keep hset (fun b hb _ => (h.qs b hb).2.2.1) fun _ h => h
  refine ⟨hblk, hblk.set 5 sk', (h.names.keep hg.1 (fun g hg2 => ⟨h.names.lt hg2, fun e => h.apart g hg2 e⟩) (fun _ h => h) fun _ _ h => h).keep hset (fun g hg2 => (h.names.own hg2).2) (fun _ h => h) fun _ _ h => h,
    ho.keep hset (fun g hg2 => (hO g (ho.own hg2)).2) hO hP, fun g hg2 e => (hg.2 g e).elim (fun h2 => h.apart g hg2 h2) fun h2 => by have := h.names.lt hg2; omega, fun b hb => ?_, ?_, h.vbe, h.rlt⟩
  · obtain ⟨h1, h2, h3, h4, h5⟩ := h.qs b hb
    exact ⟨h1, Nat.lt_of_lt_of_le h2 (Nat.le_trans hg.1.size hset.size), h3, h4, fun e => (hg.2 b e).elim h5 fun h6 => by omega⟩
  · have hvb2 := h.vbe
    exact (Keep.trans h.keep ((Keep.mono hg.1 fun b hb => ⟨Nat.lt_of_lt_of_le hb.1 hsz, fun e => by have := (h.kids.own e).1; omega⟩))).setCell (p := ⟨vb, 5, none⟩) (fun hk => by have := hk.1; simp only at this; omega) _
end
theorem elemV6 : ElemV Try.prog 22 37 6 88 := ElemV.mk' (z := .agg #[.int .i64 0, .int .i64 0, .int .i64 0, .string ByteArray.empty, .slice none 0 0, .slice none 0 0]) Try.underlying22 (by kernel_rfl) rfl (by omega)
theorem elemS1 : ElemV Try.prog 35 9 1 16 := ElemV.mk' (z := .string ByteArray.empty) Try.underlying35 (by kernel_rfl) rfl (by omega)

section
variable {n : Nat} {l : Env} {w : World} {fn : Func} {R : Ending → World → Prop}
theorem WQ.retCT {kn : Nat} {md : Option (Option Nat)} {p q g T m : Nat} {ty' : TypeId} {cs : List Value} {x : Value} (hr : fn.results = #[.cell p ty', .tmp q]) (hl : look l p = some (.pointer (some ⟨g, 0, none⟩))) (hq : look l q = some x) (ht : cellsN (tyOf ty ty') = some m) (hm : cs.length = m) (hb : VBlk T w g cs)
    (h : R (.returned (.tuple #[.agg cs.toArray, x])) w) : WQ ⟨kn, [], md⟩ (bodyPost Try.prog fn R) .ret l w :=
  ⟨fun a ha => ⟨ha.defers, _, by
    obtain ⟨_, hu, hdd, hsz⟩ := cellsN_ok tyOk ht; have hp := ha.getD hl; have hx := ha.getD hq; simp only [Array.getD_eq_getD_getElem?] at hp hx; have := run_loadVar_mid (P := Try.prog) w g 0 ty' cs _ (VBlk.rangeAt hb) hu hdd (by rw [hsz, hm]); simp [results, hr, hp, hx, asAddr, this], h⟩⟩
end
section
variable {n : NN} {Q : Exit → Act → World → Prop} {l : Env} {w : World} {ops : Array Oper} {d : Nat} {S : World → Prop} {m fuel : Nat} {listed : Array Bool}
end

def zV : V := .mk 0 0 0 noT [] []
def zCells : List Value := [.int .i64 0, .int .i64 0, .int .i64 0, .string ByteArray.empty, .slice none 0 0, .slice none 0 0]
theorem zV_is (O : Nat → Prop) (f : Nat) (w : World) : IsVo O (f + 1) w zV zCells := isVo_leaf (k := 0) (n := 0) (s := 0) (t := noT) (by omega) (by omega) (by omega) (by decide)
end K
end Go.Proofs.Ytfpakjbaiohcaaa

namespace Go.Proofs.Ytfpakjbaiohcaaa
open Go.RowKit
namespace K
theorem div10_any (lo : Nat) (hlo : lo < 18446744073709551616) (w : World) :
    Calls Try.prog 65 #[.int .u64 0, .int .u64 lo, .int .u64 10] w fun e w' => e = .returned (.tuple #[.int .u64 (lo / 10 : Nat), .int .u64 (lo % 10 : Nat)]) ∧ Below w.heap.size w w' := by
  refine enter (args := [.int .u64 0, .int .u64 lo, .int .u64 10]) Try.func65 rfl Try.ntmps65 rfl ?_; have q1 : IntKind.u64.wrap (Int.tdiv (lo : Int) 10) = ((lo / 10 : Nat) : Int) := by rw [IntKind.wrap_u64, Int.tdiv_eq_ediv_of_nonneg (by omega)]; omega
  have q2 : Int.tmod (lo : Int) 10 = ((lo % 10 : Nat) : Int) := by rw [Int.tmod_eq_emod_of_nonneg (by omega)]; omega
  refine K.kgo ?_; refine WC.drawn 7 (fun _ => True) fun w2 hd => ?_; have hS : True := trivial; have hb2 := hd.below w.heap.size; refine K.fr [0, 1, 2, 3, 4, 5, 6] hS ?_; refine K.wo 7 ?_; refine WL.pure rfl rfl rfl rfl ?_; refine K.dl ?_; refine WD.done (by kernel_rfl) ?_; refine K.kgo ?_; exact WQ.ret2 rfl rfl rfl ⟨by rw [q1, q2], hb2⟩
theorem of_any (x : Int) (hx : -9223372036854775808 ≤ x ∧ x ≤ 9223372036854775807) (w : World) :
    Calls Try.prog 60 #[.int .i64 x, .int .i64 0] w fun e w' => e = .returned (.agg #[.int .u64 0, .int .u64 (x.natAbs : Nat), .bool (decide (x < 0))]) ∧ Below w.heap.size w w' := by
  refine enter (args := [.int .i64 x, .int .i64 0]) Try.func60 rfl Try.ntmps60 rfl ?_; obtain ⟨u, hue⟩ : ∃ u, x.natAbs = u := ⟨_, rfl⟩; have hu : u ≤ 9223372036854775808 := by omega
  have e1 : x < 0 → IntKind.u64.wrap (0 - IntKind.u64.wrap x) = (u : Int) := fun h => by rw [IntKind.wrap_u64, IntKind.wrap_u64]; omega
  have e2 : ¬ x < 0 → IntKind.u64.wrap x = (u : Int) := fun h => by rw [IntKind.wrap_u64]; omega
  rw [hue]; refine K.kgo ?_; refine WL.alloc (z := .agg #[.int .u64 0, .int .u64 0, .bool false]) rfl rfl rfl rfl (fun _ => by kernel_rfl) fun g w1 hf => ?_; have hf1 : Fresh w g w1 95 [.int .u64 0, .int .u64 0, .bool false] := hf; clear hf; refine K.kgo ?_; refine WC.mid (fun _ : Unit => [(0, .int .i64 x), (1, .int .i64 0), (4, .pointer (some ⟨g, 0, none⟩)), (5, .int .u64 u)]) (fun _ w' => w1 = w') rfl ?_ ?_
  · by_cases hn : x < 0
    · refine WC.condT rfl hn ?_
      refine K.kgo ?_; exact WQ.meet () ⟨rfl, rfl, rfl, congrArg (fun z => some (Value.int .u64 z)) (e1 hn), trivial⟩ rfl
    · refine WC.condF rfl hn ?_
      refine K.kgo ?_; exact WQ.meet () ⟨rfl, rfl, rfl, congrArg (fun z => some (Value.int .u64 z)) (e2 hn), trivial⟩ rfl
  clear e1 e2; rintro _ _ rfl; refine K.kgo ?_; refine WC.loop (fun _ : Unit => [(0, .int .i64 x), (4, .pointer (some ⟨g, 0, none⟩)), (5, .int .u64 u), (6, .int .u64 1), (15, .int .i64 0), (16, .int .i64 0)]) (fun _ w' => w1 = w') (fun _ => 0) () ⟨rfl, rfl, rfl, rfl, rfl, rfl, trivial⟩ rfl ?_; rintro _ _ rfl; refine K.kgo ?_; refine WL.call rfl rfl rfl rfl rfl Try.func36 rfl (by kernel_rfl) (mul64_any u 1 (by omega) (by omega) w1) ?_; rintro _ _ ⟨rfl, rfl⟩; refine ⟨_, rfl, ?_⟩; have h0 : u * 1 / 18446744073709551616 = 0 := by omega
  have h1 : u * 1 % 18446744073709551616 = u := by omega
  rw [h0, h1]; refine K.kgo ?_; refine WL.build [.int .u64 (0 : Nat), .int .u64 (u : Nat), .bool (decide (x < 0))] rfl rfl rfl rfl rfl (by kernel_rfl) ?_; refine WL.storeRow rfl rfl rfl rfl rfl rfl hf1.blk rfl rfl (by intro v hv; simp at hv; rcases hv with rfl | rfl | rfl <;> rfl) ?_; refine K.kgo ?_; exact WQ.retC rfl rfl rfl rfl (hf1.blk.setRow _) ⟨rfl, below_setRow hf1.below (by rw [hf1.eq]; exact Nat.le_refl _) _⟩
def MkOut (x sc : Int) (w : World) (e : Ending) (w' : World) : Prop :=
  ∃ k n s er : Int, e = .returned (.tuple #[.agg #[.int .i64 k, .int .i64 n, .int .i64 s, .string ByteArray.empty, .slice none 0 0, .slice none 0 0], .int .i64 er]) ∧ (0 ≤ k ∧ k ≤ 255) ∧ (-9223372036854775808 ≤ n ∧ n ≤ 9223372036854775807) ∧ (0 ≤ s ∧ s ≤ 255) ∧ Below w.heap.size w w' ∧
    (sc = 0 ∨ (1 ≤ sc ∧ sc ≤ 18 ∧ ¬ x.tmod 10 = 0) → er = 0 ∧ k = (if sc = 0 then 3 else 4) ∧ n = x ∧ s = sc)
set_option maxHeartbeats 4000000 in
theorem least_any (x : Int) (hx : -9223372036854775808 ≤ x ∧ x ≤ 9223372036854775807) (sc : Nat) (hsc : sc ≤ 1000000) (w : World) :
    Calls Try.prog 61 #[.agg #[.int .u64 0, .int .u64 (x.natAbs : Nat), .bool (decide (x < 0))], .int .i64 sc] w (MkOut x sc w) := by
  refine enter (args := [.agg #[.int .u64 0, .int .u64 (x.natAbs : Nat), .bool (decide (x < 0))], .int .i64 sc]) Try.func61 rfl Try.ntmps61 rfl ?_; obtain ⟨u, hue⟩ : ∃ u, x.natAbs = u := ⟨_, rfl⟩; obtain ⟨b, hbe⟩ : ∃ b, decide (x < 0) = b := ⟨_, rfl⟩; have hu : u ≤ 9223372036854775808 := by omega
  have hten : ¬ x.tmod 10 = 0 ↔ ¬ u % 10 = 0 := by
    have : (x.tmod 10).natAbs = x.natAbs % 10 := Int.natAbs_tmod x 10; omega
  rw [hue, hbe]; refine K.kgo ?_; refine WL.box rfl rfl rfl rfl rfl fun g w1 hf => ?_; have hf1 : Fresh w g w1 95 [.int .u64 0, .int .u64 (u : Nat), .bool b] := hf; clear hf; refine K.kgo ?_; refine WL.alloc (z := .agg zCells.toArray) rfl rfl rfl rfl (fun _ => by kernel_rfl) fun vb w2 hf => ?_; have hf2 : Fresh w1 vb w2 37 zCells := hf; clear hf; have hz1 := hf1.size; have hz2 := hf2.size; have hge := hf1.eq; have hve := hf2.eq; have hb2 : Below w.heap.size w w2 := hf1.below.trans (hf2.below.mono (by omega)); have hblk := hf1.blk.below hf2.below hf1.blk.lt; have hvblk := hf2.blk; clear hf1 hf2; refine K.kgb ?_
  -- the rounds end somewhere
  refine WC.mid (fun i : Nat × Nat => [(1, .int .i64 (i.2 : Int)), (2, .pointer (some ⟨g, 0, none⟩)), (4, .pointer (some ⟨vb, 0, none⟩)), (5, .int .i64 0)])
    (fun i w' => (i.1 ≤ u ∧ i.2 ≤ sc ∧ (sc = 0 ∨ (1 ≤ sc ∧ ¬ u % 10 = 0) → i.1 = u ∧ i.2 = sc)) ∧ VBlk 95 w' g [.int .u64 0, .int .u64 (i.1 : Nat), .bool b] ∧ VBlk 37 w' vb zCells ∧ Below w.heap.size w w') rfl ?_ ?_
  · refine WC.block ?_
    refine WC.loop (fun i : Nat × Nat => [(1, .int .i64 (i.2 : Int)), (2, .pointer (some ⟨g, 0, none⟩)), (4, .pointer (some ⟨vb, 0, none⟩)), (5, .int .i64 0)])
      (fun i w' => (i.1 ≤ u ∧ i.2 ≤ sc ∧ (sc = 0 ∨ (1 ≤ sc ∧ ¬ u % 10 = 0) → i.1 = u ∧ i.2 = sc)) ∧ VBlk 95 w' g [.int .u64 0, .int .u64 (i.1 : Nat), .bool b] ∧ VBlk 37 w' vb zCells ∧ Below w.heap.size w w')
      (fun i => i.2) (u, sc) ⟨rfl, rfl, rfl, rfl, trivial⟩ ⟨⟨Nat.le_refl _, Nat.le_refl _, fun _ => ⟨rfl, rfl⟩⟩, hblk, hvblk, hb2⟩ ?_
    rintro ⟨c, s⟩ wr ⟨⟨hcu, hss, hex⟩, hg, hv, hb⟩; simp only at hcu hss hex hg hv hb ⊢
    by_cases hs0 : s = 0
    · subst hs0
      refine K.kgo ?_; exact WQ.meet (c, 0) ⟨rfl, rfl, rfl, rfl, trivial⟩ ⟨⟨hcu, hss, hex⟩, hg, hv, hb⟩
    · refine K.kgo ?_
      refine WC.drawn 7 (fun wx => VBlk 95 wx g [.int .u64 0, .int .u64 (c : Nat), .bool b]) fun w3 hd => ?_; have hg3 := hg.below (hd.below _) hg.lt; have hv3 := hv.below (hd.below _) hv.lt; have hb3 : Below w.heap.size w w3 := hb.trans ((hd.below wr.heap.size).mono hb.size); have hS := hg3; refine K.fr [0] hS ?_; refine K.wl 1 [2, 6, 7] rfl rfl rfl rfl rfl rfl rfl (fun wx hx => hx.cell 0 (by simp)) hS ?_; refine K.fr [2, 3] hS ?_; refine K.wl 4 [5, 7] rfl rfl rfl rfl rfl rfl rfl (fun wx hx => hx.cell 0 (by simp)) hS ?_; refine K.fr [5, 6] hS ?_; refine K.wo 7 ?_; refine WL.pure rfl rfl rfl rfl ?_; refine K.dl ?_; refine WD.done (by kernel_rfl) ?_; refine K.kgo ?_; refine WL.load rfl rfl rfl rfl rfl rfl (hg3.cell 1 (by simp)) ?_; refine WL.call rfl rfl rfl rfl rfl Try.func65 rfl (by kernel_rfl) (div10_any c (by omega) w3) ?_; rintro _ w4 ⟨rfl, hb4⟩; refine ⟨_, rfl, ?_⟩; have hg4 := hg3.below hb4 hg3.lt; have hv4 := hv3.below hb4 hv3.lt; have hb5 : Below w.heap.size w w4 := hb3.trans (hb4.mono hb3.size)
      by_cases hr : c % 10 = 0
      · rw [hr]
        refine K.kgo ?_; refine WL.load rfl rfl rfl rfl rfl rfl (hg4.cell 0 (by simp)) ?_; refine K.kgo ?_; refine WL.load rfl rfl rfl rfl rfl rfl (hg4.cell 1 (by simp)) ?_; have hor : bits .or .u64 0 (c : Int) = (c : Int) := by have := bits_or_u64_nat 0 c (by omega) (by omega); simpa using this
        have hvac : ¬ (sc = 0 ∨ (1 ≤ sc ∧ ¬ u % 10 = 0)) := fun h => by have := hex h; omega
        by_cases hc0 : c = 0
        · subst hc0
          refine K.kgo ?_; exact WQ.meet (0, 0) ⟨rfl, rfl, rfl, rfl, trivial⟩ ⟨⟨Nat.zero_le _, Nat.zero_le _, fun h => (hvac h).elim⟩, hg4, hv4, hb5⟩
        · refine K.kgo ?_
          refine WL.as 34 (.int .u64 0) rfl rfl ?_; refine WL.store rfl rfl rfl rfl rfl rfl (by kernel_rfl) (hg4.cell 0 (by simp)) (hg4.free 0) ?_; have hg5 := hg4.set 0 (.int .u64 0); refine K.kgo ?_; refine WL.store rfl rfl rfl rfl rfl rfl (by kernel_rfl) (hg5.cell 1 (by simp)) (hg5.free 1) ?_; have hg6 := hg5.set 1 (.int .u64 ((c / 10 : Nat) : Int)); have hK : Keep (fun x => x ≠ g) w4 ((w4.setCell ⟨g, 0, none⟩ (.int .u64 0)).setCell ⟨g, 1, none⟩ (.int .u64 ((c / 10 : Nat) : Int))) := ((Keep.refl _ w4).setCell (fun hk => hk rfl) _).setCell (fun hk => hk rfl) _; refine K.kgo ?_; exact WQ.again (c / 10, s - 1) ⟨congrArg (fun z => some (Value.int .i64 z)) (show (s : Int) - 1 = ((s - 1 : Nat) : Int) by omega), rfl, rfl, rfl, trivial⟩ ⟨⟨by show c / 10 ≤ u; omega, by show s - 1 ≤ sc; omega, fun h => (hvac h).elim⟩, hg6, hv4.keep hK (by show vb ≠ g; omega), hb5.trans (Keep.below (Keep.mono hK fun x (hx : x < w.heap.size) => by show x ≠ g; omega))⟩ (by show s - 1 < s; omega)
      · refine K.kgo ?_
        exact WQ.meet (c, s) ⟨rfl, rfl, rfl, rfl, trivial⟩ ⟨⟨hcu, hss, hex⟩, hg4, hv4, hb5⟩
  rintro ⟨c, s⟩ wr ⟨⟨hcu, hss, hex⟩, hg, hv, hb⟩; simp only at hcu hss hex hg hv hb ⊢; have hgne : vb ≠ g := by omega
  have fin : ∀ (k n s2 er : Int), (0 ≤ k ∧ k ≤ 255) → (-9223372036854775808 ≤ n ∧ n ≤ 9223372036854775807) → (0 ≤ s2 ∧ s2 ≤ 255) → (((sc : Nat) : Int) = 0 ∨ (1 ≤ ((sc : Nat) : Int) ∧ ((sc : Nat) : Int) ≤ 18 ∧ ¬ x.tmod 10 = 0) → er = 0 ∧ k = (if ((sc : Nat) : Int) = 0 then 3 else 4) ∧ n = x ∧ s2 = sc) →
      MkOut x sc w (.returned (.tuple #[.agg [.int .i64 k, .int .i64 n, .int .i64 s2, .string ByteArray.empty, .slice none 0 0, .slice none 0 0].toArray, .int .i64 er])) (wr.setRow vb [.int .i64 k, .int .i64 n, .int .i64 s2, .string ByteArray.empty, .slice none 0 0, .slice none 0 0].toArray) :=
    fun k n s2 er h1 h2 h3 h4 => ⟨k, n, s2, er, rfl, h1, h2, h3, below_setRow hb (by omega) _, h4⟩
  have ones : ∀ k n s2 : Int, Ones [.int .i64 k, .int .i64 n, .int .i64 s2, .string ByteArray.empty, .slice none 0 0, .slice none 0 0] := fun k n s2 v hv => by
    simp at hv
    rcases hv with rfl | rfl | rfl | rfl | rfl | rfl <;> rfl
  refine K.kgo ?_; refine WL.load rfl rfl rfl rfl rfl rfl (hg.cell 2 (by simp)) ?_; refine K.kgo ?_; refine WC.mid (fun _ : Unit => [(1, .int .i64 (s : Int)), (2, .pointer (some ⟨g, 0, none⟩)), (4, .pointer (some ⟨vb, 0, none⟩)), (5, .int .i64 0), (9, .int .u64 (if b then 9223372036854775808 else 9223372036854775807))]) (fun _ w' => wr = w') rfl ?_ ?_
  · cases b with
    | true =>
      refine K.kgo ?_; exact WQ.meet () ⟨rfl, rfl, rfl, rfl, rfl, trivial⟩ rfl
    | false =>
      refine K.kgo ?_; exact WQ.meet () ⟨rfl, rfl, rfl, rfl, rfl, trivial⟩ rfl
  rintro _ _ rfl; obtain ⟨top, htop⟩ : ∃ top : Int, (if b then (9223372036854775808 : Int) else 9223372036854775807) = top := ⟨_, rfl⟩; have htop2 : (b = true → top = 9223372036854775808) ∧ (b = false → top = 9223372036854775807) := by
    rw [← htop]; cases b <;> simp
  have hxb : (b = true → x = -(u : Int)) ∧ (b = false → x = (u : Int)) := by
    rw [← hbe, ← hue]
    constructor
    · intro h; have := of_decide_eq_true h; omega
    · intro h; have := of_decide_eq_false h; omega
  have hub : (u : Int) ≤ top := by
    cases hb3 : b with
    | true => rw [htop2.1 hb3]; omega
    | false => rw [htop2.2 hb3]; have := hxb.2 hb3; omega
  have hct : (c : Int) ≤ top := by omega
  rw [htop]
  by_cases h18 : 18 < s
  · refine K.kgo ?_
    refine WL.build [.int .i64 0, .int .i64 0, .int .i64 0, .string ByteArray.empty, .slice none 0 0, .slice none 0 0] rfl rfl rfl rfl rfl (by kernel_rfl) ?_; refine WL.storeRow rfl rfl rfl rfl rfl rfl hv rfl rfl (ones _ _ _) ?_; refine K.kgo ?_; exact WQ.retCT rfl rfl rfl rfl rfl (hv.setRow _) (fin 0 0 0 10 (by omega) (by omega) (by omega) fun h => by
      have := hex (by omega); omega)
  · refine K.kgo ?_
    refine WL.load rfl rfl rfl rfl rfl rfl (hg.cell 0 (by simp)) ?_; refine K.kgo ?_; refine WL.load rfl rfl rfl rfl rfl rfl (hg.cell 1 (by simp)) ?_; refine K.kgo ?_; refine WL.load rfl rfl rfl rfl rfl rfl (hg.cell 1 (by simp)) ?_; refine K.kgo ?_; refine WL.load rfl rfl rfl rfl rfl rfl (hg.cell 2 (by simp)) ?_; refine K.kgo ?_; obtain ⟨n, hn⟩ : ∃ n : Int, n = if b then -(c : Int) else (c : Int) := ⟨_, rfl⟩
    have hn1 : (b = true → n = -(c : Int)) ∧ (b = false → n = (c : Int)) := by rw [hn]; cases b <;> simp
    have hnr : -9223372036854775808 ≤ n ∧ n ≤ 9223372036854775807 := by
      cases hb3 : b with
      | true => have := hn1.1 hb3; omega
      | false => have := hn1.2 hb3; have := htop2.2 hb3; omega
    have w1 : b = true → IntKind.i64.wrap (IntKind.u64.wrap (0 - (c : Int))) = n := fun h => by rw [hn1.1 h, IntKind.wrap_u64, IntKind.wrap_i64]; have := htop2.1 h; omega
    have w2 : b = false → IntKind.i64.wrap (c : Int) = n := fun h => by rw [hn1.2 h, IntKind.wrap_i64]; have := htop2.2 h; omega
    refine WC.mid (fun _ : Unit => [(1, .int .i64 (s : Int)), (2, .pointer (some ⟨g, 0, none⟩)), (4, .pointer (some ⟨vb, 0, none⟩)), (5, .int .i64 0), (10, .int .i64 n)]) (fun _ w' => wr = w') rfl ?_ ?_
    · cases b with
      | true =>
        refine K.kgo ?_; refine WL.load rfl rfl rfl rfl rfl rfl (hg.cell 1 (by simp)) ?_; refine K.kgo ?_; exact WQ.meet () ⟨rfl, rfl, rfl, rfl, congrArg (fun z => some (Value.int .i64 z)) (w1 rfl), trivial⟩ rfl
      | false =>
        refine K.kgo ?_; exact WQ.meet () ⟨rfl, rfl, rfl, rfl, congrArg (fun z => some (Value.int .i64 z)) (w2 rfl), trivial⟩ rfl
    rintro _ _ rfl; have hxn : c = u → n = x := fun h => by
      cases hb3 : b with
      | true => have := hn1.1 hb3; have := hxb.1 hb3; omega
      | false => have := hn1.2 hb3; have := hxb.2 hb3; omega
    clear hn hn1 w1 w2 htop htop2 hxb
    by_cases hs0 : s = 0
    · subst hs0
      refine K.kgo ?_; refine WL.build [.int .i64 3, .int .i64 n, .int .i64 0, .string ByteArray.empty, .slice none 0 0, .slice none 0 0] rfl rfl rfl rfl rfl (by kernel_rfl) ?_; refine WL.storeRow rfl rfl rfl rfl rfl rfl hv rfl rfl (ones _ _ _) ?_; refine K.kgo ?_; exact WQ.retCT rfl rfl rfl rfl rfl (hv.setRow _) (fin 3 n 0 0 (by omega) hnr (by omega) fun h => by
        have := hex (by omega); exact ⟨rfl, by rw [if_pos (by omega)], hxn (by omega), by omega⟩)
    · refine K.kgo ?_
      refine WL.build [.int .i64 4, .int .i64 n, .int .i64 (s : Int), .string ByteArray.empty, .slice none 0 0, .slice none 0 0] rfl rfl rfl rfl rfl (by kernel_rfl) ?_; refine WL.storeRow rfl rfl rfl rfl rfl rfl hv rfl rfl (ones _ _ _) ?_; refine K.kgo ?_; exact WQ.retCT rfl rfl rfl rfl rfl (hv.setRow _) (fin 4 n s 0 (by omega) hnr (by omega) fun h => by
        have := hex (by omega); exact ⟨rfl, by rw [if_neg (by omega)], hxn (by omega), by omega⟩)
theorem make_any (x sc : Int) (hx : -9223372036854775808 ≤ x ∧ x ≤ 9223372036854775807) (hsc : -1000000 ≤ sc ∧ sc ≤ 1000000) (w : World) :
    Calls Try.prog 53 #[.int .i64 x, .int .i64 sc] w (MkOut x sc w) := by
  refine enter (args := [.int .i64 x, .int .i64 sc]) Try.func53 rfl Try.ntmps53 rfl ?_; have ones : ∀ k n s2 : Int, Ones [.int .i64 k, .int .i64 n, .int .i64 s2, .string ByteArray.empty, .slice none 0 0, .slice none 0 0] := fun k n s2 v hv => by
    simp at hv
    rcases hv with rfl | rfl | rfl | rfl | rfl | rfl <;> rfl
  refine K.kgo ?_; refine WL.alloc (z := .agg zCells.toArray) rfl rfl rfl rfl (fun _ => by kernel_rfl) fun vb w1 hf => ?_; have hf1 : Fresh w vb w1 37 zCells := hf; clear hf; have hve := hf1.eq; have hz1 := hf1.size
  by_cases h0 : sc < 0
  · refine K.kgo ?_
    refine WL.build [.int .i64 0, .int .i64 0, .int .i64 0, .string ByteArray.empty, .slice none 0 0, .slice none 0 0] rfl rfl rfl rfl rfl (by kernel_rfl) ?_; refine WL.storeRow rfl rfl rfl rfl rfl rfl hf1.blk rfl rfl (ones _ _ _) ?_; refine K.kgo ?_; exact WQ.retCT rfl rfl rfl rfl rfl (hf1.blk.setRow _) ⟨0, 0, 0, 10, rfl, by omega, by omega, by omega, below_setRow hf1.below (by omega) _, fun h => by omega⟩
  · obtain ⟨s, rfl⟩ : ∃ s : Nat, sc = s := ⟨sc.toNat, by omega⟩
    refine K.kgo ?_; refine WL.call rfl rfl rfl rfl rfl Try.func60 rfl (by kernel_rfl) (of_any x hx w1) ?_; rintro _ w2 ⟨rfl, hb2⟩; refine ⟨_, rfl, ?_⟩; refine K.kgo ?_; refine WL.call rfl rfl rfl rfl rfl Try.func61 rfl (by kernel_rfl) (least_any x hx s (by omega) w2) ?_; rintro _ w3 ⟨k, n, s2, er, rfl, h1, h2, h3, hb3, h4⟩; refine ⟨_, rfl, ?_⟩; have hb23 : Below w1.heap.size w1 w3 := hb2.trans (hb3.mono hb2.size); have hblk := hf1.blk.below hb23 hf1.blk.lt; refine K.kgo ?_; refine WL.storeRow (cs := [.int .i64 k, .int .i64 n, .int .i64 s2, .string ByteArray.empty, .slice none 0 0, .slice none 0 0]) rfl rfl rfl rfl rfl rfl hblk rfl rfl (ones _ _ _) ?_; refine K.kgo ?_; exact WQ.retCT rfl rfl rfl rfl rfl (hblk.setRow _) ⟨k, n, s2, er, rfl, h1, h2, h3, below_setRow (hf1.below.trans (hb23.mono (by omega))) (by omega) _, h4⟩
end K
end Go.Proofs.Ytfpakjbaiohcaaa

namespace Go.Proofs.Ytfpakjbaiohcaaa
open Go.RowKit
namespace K
section
variable {n : NN} {Q : Exit → Act → World → Prop} {l : Env} {w : World} {ops : Array Oper} {o : Oper} {rest : List Oper} {d : Nat}
theorem WL.substrFrom {t : Nat} {x lo : Operand} {s : ByteArray} {k' : IntKind} {z : Int} (hg : o.guard = none) (hd : o.dst = some d) (hn : Nat.blt d n.n = true) (ho : o.op = .slice t x (some lo) none none) (ht : tyOf ty t = some .str)
    (hx : evl l x = some (.string s)) (hlo : evl l lo = some (.int k' z)) (h0 : 0 ≤ z) (h2 : z ≤ s.size) (h : WL n ops Q rest ((d, .string (s.extract z.toNat s.size)) :: l) w) : WL n ops Q (o :: rest) l w :=
  WL.step hg hd hn (fun a ha => by
    unfold execOp; rw [ho]; have hu := TyOk.of tyOk ht; have := run_slice_string_from_if (P := Try.prog) w t s k' z hu; rw [if_pos ⟨h0, h2⟩] at this; simp [ha.eval hx, ha.eval hlo, run_sliceAt_string w t _ _ _ _ hu, this]) h
end
theorem bytesI_from (s : ByteArray) : bytesI (s.extract 1 s.size) = (bytesI s).drop 1 := by
  unfold bytesI; rw [ByteArray.toList_eq, ByteArray.toList_eq, ByteArray.data_extract, Array.toList_extract, ← List.map_drop]
  congr 1
  rw [List.extract_eq_take_drop]; have : s.data.toList.length = s.size := rfl; rw [List.take_of_length_le]; rw [List.length_drop, this]; omega
structure KR (B : Nat) (w : World) (rb : Nat) (l : List Int) (bad : Bool) : Prop where
  rlt : rb < B
  ex : ∃ s : ByteArray, bytesI s = l ∧ VBlk 56 w rb [.string s, .bool bad]
theorem bytesI_byt0 (s : ByteArray) : Byt (bytesI s) := fun c hc => by
  unfold bytesI at hc; obtain ⟨a, -, rfl⟩ := List.mem_map.1 hc; have := a.toNat_lt; omega
variable {B rb : Nat} {w : World} {l : List Int} {bad : Bool}
theorem KR.byt (h : KR B w rb l bad) : Byt l := by
  obtain ⟨s, rfl, -⟩ := h.ex; exact bytesI_byt0 s
theorem KR.keep {w' : World} (h : KR B w rb l bad) {K : Nat → Prop} (hk : Keep K w w') (hK : ∀ b, b < B → K b) : KR B w' rb l bad := by
  obtain ⟨s, h1, h2⟩ := h.ex; exact ⟨h.rlt, s, h1, h2.keep hk (hK _ h.rlt)⟩
theorem KR.setT (h : KR B w rb l bad) : KR B (w.setCell ⟨rb, 1, none⟩ (.bool true)) rb l true := by
  obtain ⟨s, h1, h2⟩ := h.ex; exact ⟨h.rlt, s, h1, h2.set 1 (.bool true)⟩
theorem kbyte_any (h : KR B w rb l bad) :
    Calls Try.prog 39 #[.pointer (some ⟨rb, 0, none⟩)] w fun e w' => e = .returned (.int .u8 (nth l 0)) ∧ KR B w' rb (l.drop 1) (bad || l.isEmpty) ∧ KeepR rb w w' := by
  refine enter (args := [.pointer (some ⟨rb, 0, none⟩)]) Try.func39 rfl Try.ntmps39 rfl ?_; obtain ⟨s, hs, h1⟩ := h.ex; have hlen := bytesI_len s; rw [hs] at hlen; cases hle : l with
  | nil =>
    rw [hle] at hlen; simp only [List.length_nil] at hlen; refine K.kgo ?_; refine WL.load rfl rfl rfl rfl rfl rfl (h1.cell 0 (by simp)) ?_; refine K.kgo ?_; refine WL.store rfl rfl rfl rfl rfl rfl (by kernel_rfl) (h1.cell 1 (by simp)) (h1.free 1) ?_; refine K.kgo ?_; refine WQ.ret1 rfl rfl ⟨rfl, ?_, KeepR.set _ _ _ _⟩; have := h.setT; rw [hle] at this
    simpa using this
  | cons c r =>
    rw [hle] at hlen; simp only [List.length_cons] at hlen; have h0 : 0 < s.size := by omega
    have hb : ((s.toList.getD 0 0).toNat : Int) = c := by
      have : nth (bytesI s) 0 = c := by rw [hs, hle]; rfl
      rw [← this]; unfold bytesI nth; simp [List.getD_eq_getElem?_getD]
      cases s.toList[0]? <;> rfl
    refine K.kgo ?_; refine WL.load rfl rfl rfl rfl rfl rfl (h1.cell 0 (by simp)) ?_; refine K.kgo ?_; refine WL.load rfl rfl rfl rfl rfl rfl (h1.cell 0 (by simp)) ?_; refine WL.byte 0 rfl rfl rfl rfl rfl rfl rfl rfl h0 ?_; rw [hb]; refine K.kgo ?_; refine WL.load rfl rfl rfl rfl rfl rfl (h1.cell 0 (by simp)) ?_; refine WL.substrFrom (z := 1) rfl rfl rfl rfl rfl rfl rfl (by omega) (by omega) ?_; refine K.kgo ?_; refine WL.store rfl rfl rfl rfl rfl rfl (by kernel_rfl) (h1.cell 0 (by simp)) (h1.free 0) ?_; refine K.kgo ?_; refine WQ.ret1 rfl rfl ⟨rfl, ⟨h.rlt, s.extract 1 s.size, ?_, ?_⟩, KeepR.set _ _ _ _⟩
    · rw [bytesI_from, hs, hle]
    · have := h1.set 0 (.string (s.extract 1 s.size))
      simpa using this
theorem kends_any (h : KR B w rb l bad) :
    Calls Try.prog 43 #[.pointer (some ⟨rb, 0, none⟩)] w fun e w' => e = .returned (.bool (decide (nth l 0 = 0))) ∧ (if nth l 0 = 0 then KR B w' rb (l.drop 1) (bad || l.isEmpty) else KR B w' rb l bad) ∧ KeepR rb w w' := by
  refine enter (args := [.pointer (some ⟨rb, 0, none⟩)]) Try.func43 rfl Try.ntmps43 rfl ?_; obtain ⟨s, hs, h1⟩ := h.ex; have hlen := bytesI_len s; rw [hs] at hlen; have hb : ((s.toList.getD 0 0).toNat : Int) = nth l 0 := by
    rw [← hs]; unfold bytesI nth; simp [List.getD_eq_getElem?_getD]
    cases s.toList[0]? <;> rfl
  by_cases h0 : l.length = 0
  · have hn : nth l 0 = 0 := by rw [List.eq_nil_of_length_eq_zero h0]; rfl
    refine K.kgo ?_; refine WL.load rfl rfl rfl rfl rfl rfl (h1.cell 0 (by simp)) ?_; refine K.kgo ?_; refine WL.call rfl rfl rfl rfl rfl Try.func39 rfl (by kernel_rfl) (kbyte_any h) ?_; rintro _ w2 ⟨rfl, h2, k2⟩; refine ⟨_, rfl, ?_⟩; refine K.kgo ?_; exact WQ.ret1 rfl rfl ⟨by rw [decide_eq_true hn], by rw [if_pos hn]; exact h2, k2⟩
  · have c0 : w.cell? ⟨rb, 0, none⟩ = some (.string s) := h1.cell 0 (by simp)
    by_cases hn : nth l 0 = 0
    · have hb := hb.trans hn
      refine K.kgl ?_; refine WL.byte 0 rfl rfl rfl rfl rfl rfl rfl rfl (by omega) ?_; rw [hb]; refine K.kgo ?_; refine WL.call rfl rfl rfl rfl rfl Try.func39 rfl (by kernel_rfl) (kbyte_any h) ?_; rintro _ w2 ⟨rfl, h2, k2⟩; refine ⟨_, rfl, ?_⟩; refine K.kgo ?_; exact WQ.ret1 rfl rfl ⟨by rw [decide_eq_true hn], by rw [if_pos hn]; exact h2, k2⟩
    · obtain ⟨c, hc⟩ : ∃ c, c = nth l 0 := ⟨_, rfl⟩
      rw [← hc] at hb; have hc0 : c ≠ 0 := by rw [hc]; exact hn
      refine K.kgl ?_; refine WL.byte 0 rfl rfl rfl rfl rfl rfl rfl rfl (by omega) ?_; rw [hb]; refine K.kgo ?_; exact WQ.ret1 rfl rfl ⟨by rw [decide_eq_false hn], by rw [if_neg hn]; exact h, KeepR.refl _ _⟩
def TxOut (B : Nat) (w' : World) (rb : Nat) (l : List Int) (t : ByteArray) : Option (List Int × List Int) → Prop
  | some (b, r) => t = strOfNums b ∧ KR B w' rb r false
  | none => ∃ r : List Int, t.size + r.length ≤ l.length ∧ KR B w' rb r true
set_option maxHeartbeats 2000000 in
theorem ktext_any (h : KR B w rb l bad) (hB : B ≤ w.heap.size) (hl : l.length ≤ 1000000) :
    Calls Try.prog 42 #[.pointer (some ⟨rb, 0, none⟩)] w fun e w' => ∃ t : ByteArray, e = .returned (.string t) ∧ t.size ≤ l.length ∧ KeepR rb w w' ∧ TxOut B w' rb l t (if bad then none else txR l []) := by
  refine enter (args := [.pointer (some ⟨rb, 0, none⟩)]) Try.func42 rfl Try.ntmps42 rfl ?_; have hrB := h.rlt; refine K.kgo ?_; refine WC.loop (fun i : List Int × Bool × List Int × Value => [(0, .pointer (some ⟨rb, 0, none⟩)), (3, i.2.2.2)])
    (fun i wr => KR B wr rb i.1 i.2.1 ∧ KeepR rb w wr ∧ Bu wr i.2.2.2 i.2.2.1 ∧ (∀ g, i.2.2.2.ownBlock = some g → w.heap.size ≤ g) ∧ i.2.2.1.length + i.1.length ≤ l.length ∧ (if i.2.1 then none else txR i.1 i.2.2.1) = (if bad then none else txR l [])) (fun i => 2 * i.1.length + (if i.2.1 then 0 else 1)) (l, bad, [], .slice none 0 0) ⟨rfl, rfl, trivial⟩
    ⟨h, KeepR.refl _ _, Bu.nil w, (fun g hg => by cases hg), by simp, rfl⟩ ?_
  rintro ⟨li, bi, b, v⟩ wr ⟨hr, hk, hbu, hown, hlen, htx⟩; simp only at hr hk hbu hown hlen htx ⊢; obtain ⟨s0, -, hc0⟩ := hr.ex; have hzr := hk.size; cases bi with
  | true =>
    rw [if_pos rfl] at htx; rw [← htx]; have c1 : wr.cell? ⟨rb, 1, none⟩ = some (.bool true) := hc0.cell 1 (by simp); refine K.kgl ?_; exact WQ.ret1 rfl rfl ⟨ByteArray.mk #[], rfl, Nat.zero_le _, hk, li, by show 0 + li.length ≤ _; omega, hr⟩
  | false =>
    rw [if_neg (by simp)] at htx; rw [← htx]; have c1 : wr.cell? ⟨rb, 1, none⟩ = some (.bool false) := hc0.cell 1 (by simp)
    -- a byte behind the row
    have grown : ∀ {wx w2 : World} {v2 : Value} {lx : List Int} {bx : Bool}, KR B wx rb lx bx → KeepR rb w wx → Grow wx v w2 v2 → KR B w2 rb lx bx ∧ KeepR rb w w2 ∧ ∀ g, v2.ownBlock = some g → w.heap.size ≤ g := fun {wx w2 v2 lx bx} h1 h2 h3 =>
      ⟨h1.keep h3.1 fun b hb => ⟨by have := h2.size; omega, fun e => by have := hown b e; omega⟩, Keep.trans h2 (h3.1.mono fun b hb => ⟨by have := hb.1; have := h2.size; omega, fun e => by have := hown b e; have := hb.1; omega⟩), fun g hg => (h3.2 g hg).elim (hown g) fun h4 => by have := h2.size; omega⟩
    have told : ∀ {wx : World}, Bu wx v b → Sl .u8 wx v b := fun h => h.sl; have hsz : ∀ {q : List Int}, q.length ≤ l.length → (strOfNums q).size ≤ l.length := fun {q} hq => by
      show (q.map _).toArray.size ≤ _
      simpa using hq
    refine K.kgl ?_; refine WL.call rfl rfl rfl rfl rfl Try.func39 rfl (by kernel_rfl) (kbyte_any hr) ?_; rintro _ w2 ⟨rfl, h2, k2⟩; refine ⟨_, rfl, ?_⟩; have hbu2 := hbu.keep k2 (fun g hg => ⟨hbu.lt _ hg, by have := hown g hg; omega⟩); have k02 := hk.trans k2; cases li with
    | nil =>
      refine K.kgo ?_; refine WL.call rfl rfl rfl rfl rfl Try.func39 rfl (by kernel_rfl) (kbyte_any h2) ?_; rintro _ w3 ⟨rfl, h3, k3⟩; refine ⟨_, rfl, ?_⟩; have hbu3 := hbu2.keep k3 (fun g hg => ⟨hbu2.lt _ hg, by have := hown g hg; omega⟩); have k03 := k02.trans k3; refine K.kgo ?_; refine WL.strOf rfl rfl rfl rfl rfl rfl rfl rfl hbu3.sl ?_; refine K.kgo ?_; exact WQ.ret1 rfl rfl ⟨strOfNums b, rfl, hsz (Nat.le_trans (Nat.le_add_right _ _) hlen), k03, [], hsz (Nat.le_trans (Nat.le_add_right _ _) hlen), h3⟩
    | cons c rest =>
      cases rest with
      | nil =>
        by_cases hc : c = 0
        · subst hc
          refine K.kgo ?_; refine WL.call rfl rfl rfl rfl rfl Try.func39 rfl (by kernel_rfl) (kbyte_any h2) ?_; rintro _ w3 ⟨rfl, h3, k3⟩; refine ⟨_, rfl, ?_⟩; have hbu3 := hbu2.keep k3 (fun g hg => ⟨hbu2.lt _ hg, by have := hown g hg; omega⟩); have k03 := k02.trans k3; refine K.kgo ?_; refine WL.strOf rfl rfl rfl rfl rfl rfl rfl rfl hbu3.sl ?_; refine K.kgo ?_; exact WQ.ret1 rfl rfl ⟨strOfNums b, rfl, hsz (Nat.le_trans (Nat.le_add_right _ _) hlen), k03, [], hsz (Nat.le_trans (Nat.le_add_right _ _) hlen), h3⟩
        · have hne : nth [c] 0 ≠ 0 := hc
          generalize hcc : nth [c] 0 = c' at hne; refine K.kgo ?_; refine WL.push rfl rfl rfl rfl rfl rfl rfl rfl rfl rfl rfl (fun _ => rfl) rfl hbu2 (by simp; omega) fun v3 w3 hb3 hg3 => ?_; obtain ⟨h3, k3, o3⟩ := grown h2 k02 hg3; refine K.kgo ?_; exact WQ.again ([], false, b ++ [c'], v3) ⟨rfl, rfl, trivial⟩ ⟨h3, k3, hb3, o3, by simp at hlen ⊢; omega, rfl⟩ (by show 2 * 0 + 1 < 2 * 1 + 1; omega)
      | cons c2 r =>
        simp only [List.length_cons] at hlen
        by_cases hc : c = 0
        · subst hc
          have hun : txR (0 :: c2 :: r) b = if c2 = 0 then some (b, r) else if c2 = 255 then txR r (b ++ [0]) else none := by
            conv => lhs; unfold txR
            rw [if_neg (by simp)]
          rw [hun] at htx ⊢; refine K.kgo ?_; refine WL.call rfl rfl rfl rfl rfl Try.func39 rfl (by kernel_rfl) (kbyte_any h2) ?_; rintro _ w3 ⟨rfl, h3, k3⟩; refine ⟨_, rfl, ?_⟩; have hbu3 := hbu2.keep k3 (fun g hg => ⟨hbu2.lt _ hg, by have := hown g hg; omega⟩); have k03 := k02.trans k3; have h3 : KR B w3 rb r false := h3; have hn2 : nth (List.drop 1 (0 :: c2 :: r)) 0 = c2 := rfl; rw [hn2]
          by_cases z0 : c2 = 0
          · subst z0
            rw [if_pos rfl]; refine K.kgo ?_; refine WL.strOf rfl rfl rfl rfl rfl rfl rfl rfl hbu3.sl ?_; refine K.kgo ?_; exact WQ.ret1 rfl rfl ⟨strOfNums b, rfl, hsz (Nat.le_trans (Nat.le_add_right _ _) hlen), k03, rfl, h3⟩
          · rw [if_neg z0] at htx ⊢
            by_cases z1 : c2 = 255
            · subst z1
              rw [if_pos rfl] at htx ⊢; refine K.kgo ?_; refine WL.push rfl rfl rfl rfl rfl rfl rfl rfl rfl rfl rfl (fun _ => rfl) rfl hbu3 (by simp; omega) fun v3 w4 hb3 hg3 => ?_; obtain ⟨h4, k4, o4⟩ := grown h3 k03 hg3; refine K.kgo ?_; exact WQ.again (r, false, b ++ [0], v3) ⟨rfl, rfl, trivial⟩ ⟨h4, k4, hb3, o4, by simp; omega, if_neg (by simp)⟩ (by show 2 * r.length + 1 < 2 * (r.length + 1 + 1) + 1; omega)
            · rw [if_neg z1] at htx ⊢
              obtain ⟨s3, -, hc3⟩ := h3.ex; refine K.kgo ?_; refine WL.store rfl rfl rfl rfl rfl rfl (by kernel_rfl) (hc3.cell 1 (by simp)) (hc3.free 1) ?_; refine K.kgo ?_; exact WQ.again (r, true, b, v) ⟨rfl, rfl, trivial⟩ ⟨h3.setT, k03.trans (KeepR.set _ _ _ _), hbu3.keep (K := fun x => x ≠ rb) ((Keep.refl _ w3).setCell (fun hk => hk rfl) _) (fun g hg => by have := hown g hg; omega), hown, by show b.length + r.length ≤ l.length; omega, if_pos rfl⟩ (by show 2 * r.length + 0 < 2 * (r.length + 1 + 1) + 1; omega)
        · have hun : txR (c :: c2 :: r) b = txR (c2 :: r) (b ++ [c]) := by
            conv => lhs; unfold txR
            rw [if_pos hc]
          rw [hun] at htx ⊢; have hne : nth (c :: c2 :: r) 0 = c := rfl; rw [hne]; refine K.kgo ?_; refine WL.push rfl rfl rfl rfl rfl rfl rfl rfl rfl rfl rfl (fun _ => rfl) rfl hbu2 (by simp; omega) fun v3 w3 hb3 hg3 => ?_; obtain ⟨h3, k3, o3⟩ := grown h2 k02 hg3; refine K.kgo ?_; exact WQ.again (c2 :: r, false, b ++ [c], v3) ⟨rfl, rfl, trivial⟩ ⟨h3, k3, hb3, o3, by simp; omega, if_neg (by simp)⟩ (by show 2 * (r.length + 1) + 1 < 2 * (r.length + 1 + 1) + 1; omega)
theorem KR.setB (h : KR B w rb l bad) (b : Bool) : KR B (w.setCell ⟨rb, 1, none⟩ (.bool b)) rb l b := by
  obtain ⟨s, h1, h2⟩ := h.ex; exact ⟨h.rlt, s, h1, h2.set 1 (.bool b)⟩
theorem ktext_two (h : KR B w rb l bad) (hB : B ≤ w.heap.size) (hl : l.length ≤ 1000000) :
    Calls Try.prog 42 #[.pointer (some ⟨rb, 0, none⟩)] w fun e w' => ∃ (t : ByteArray) (r : List Int) (b' : Bool), e = .returned (.string t) ∧ KR B w' rb r b' ∧ t.size + r.length ≤ l.length ∧ KeepR rb w w' ∧
      ∀ b r2, bad = false → txR l [] = some (b, r2) → t = strOfNums b ∧ r = r2 ∧ b' = false := by
  refine (ktext_any h hB hl).mono ?_; rintro e w' ⟨t, rfl, -, hk, ho⟩; cases hq : (if bad then none else txR l []) with
  | none =>
    rw [hq] at ho; obtain ⟨r, h1, h2⟩ := ho; refine ⟨t, r, true, rfl, h2, h1, hk, fun b r2 h3 h4 => ?_⟩; rw [h3, h4] at hq; cases hq
  | some x =>
    obtain ⟨b, r⟩ := x; rw [hq] at ho; obtain ⟨rfl, h2⟩ := ho; have htx : txR l [] = some (b, r) := by
      cases bad with
      | true => cases hq
      | false => exact hq
    refine ⟨_, r, false, rfl, h2, ?_, hk, fun b r2 _ h4 => ?_⟩
    · have := txR_len _ _ htx
      show (b.map _).toArray.size + _ ≤ _
      simp at this ⊢
      exact this
    · rw [htx] at h4
      cases h4
      exact ⟨rfl, rfl, rfl⟩
end K
end Go.Proofs.Ytfpakjbaiohcaaa

namespace Go.Proofs.Ytfpakjbaiohcaaa
open Go.RowKit
namespace K

theorem ret_u8 {x y : Int} (h : x = y) : Ending.returned (.int .u8 x) = .returned (.int .u8 y) := by rw [h]
theorem class_any (k : Int) (w : World) (h1 : 1 ≤ k) (h9 : k ≤ 9) :
    Calls Try.prog 30 #[.int .i64 k] w fun e w' => e = .returned (.int .u8 (classI k)) ∧ w = w' := by
  refine enter (args := [.int .i64 k]) Try.func30 rfl Try.ntmps30 rfl ?_; have e16 : ((2 ^ min 4 IntKind.i64.bits : Nat) : Int) = 16 := rfl
  by_cases h4 : k ≤ 4
  · have he : k = 1 ∨ k = 2 ∨ k = 3 ∨ k = 4 := by omega
    rcases he with rfl | rfl | rfl | rfl
    all_goals
      refine K.kgo ?_; exact WQ.ret1 rfl rfl ⟨ret_u8 (by decide), rfl⟩
  · refine K.kgo ?_
    refine WQ.ret1 rfl rfl ⟨ret_u8 ?_, rfl⟩; rw [e16, IntWalk.i64_in _ (by omega), IntKind.wrap_u8]; unfold classI; rw [if_neg (by omega), if_neg h4]; omega

theorem short_any (v : Int) (w : World) (_h0 : 0 ≤ v) :
    Calls Try.prog 49 #[.int .u32 v] w fun e w' => ∃ b, e = .returned b ∧ Bu w' b (shortI v) ∧ Below w.heap.size w w' ∧ ∀ g, b.ownBlock = some g → w.heap.size ≤ g := by
  refine enter (args := [.int .u32 v]) Try.func49 rfl Try.ntmps49 rfl ?_; refine K.kgo ?_; refine WL.lit rfl rfl rfl rfl rfl rfl rfl fun b w' hb h1 h2 => ?_; refine K.kgo ?_; refine WQ.ret1 rfl rfl ⟨b, rfl, ?_, h1, h2⟩; simp only [IntKind.wrap_u8] at hb; exact hb
theorem big_any (v : Int) (w : World) (h0 : 0 ≤ v) (hv : v < 18446744073709551616) :
    Calls Try.prog 32 #[.int .u64 v] w fun e w' => ∃ b, e = .returned b ∧ Bu w' b (bigI v) ∧ Below w.heap.size w w' ∧ ∀ g, b.ownBlock = some g → w.heap.size ≤ g := by
  refine enter (args := [.int .u64 v]) Try.func32 rfl Try.ntmps32 rfl ?_; have e1 : IntKind.u32.wrap (v / ((2 ^ min 32 IntKind.u64.bits : Nat) : Int)) = v / 4294967296 := by
    rw [show ((2 ^ min 32 IntKind.u64.bits : Nat) : Int) = 4294967296 from rfl, IntKind.wrap_u32]; omega
  have e2 : IntKind.u32.wrap v = v % 4294967296 := IntKind.wrap_u32 v; refine K.kgo ?_; refine WL.call rfl rfl rfl rfl rfl Try.func49 rfl (by kernel_rfl) (by rw [e1]; exact short_any _ w (by omega)) ?_; rintro e w1 ⟨b1, rfl, hb1, k1, g1⟩; refine ⟨b1, rfl, ?_⟩; refine K.kgo ?_; refine WL.call rfl rfl rfl rfl rfl Try.func49 rfl (by kernel_rfl) (by rw [e2]; exact short_any _ w1 (by omega)) ?_; rintro e w2 ⟨b2, rfl, hb2, k2, g2⟩; refine ⟨b2, rfl, ?_⟩; refine WL.app rfl rfl rfl rfl rfl (hb1.below k2) rfl hb2.sl (by simp [shortI]) fun b w3 hb gr => ?_; refine K.kgo ?_; refine WQ.ret1 rfl rfl ⟨b, rfl, hb, ?_, ?_⟩
  · exact (k1.trans (k2.mono k1.size)).trans (gr.old (Nat.le_trans k1.size k2.size) g1)
  · exact gr.own (Nat.le_trans k1.size k2.size) g1
end K
end Go.Proofs.Ytfpakjbaiohcaaa

namespace Go.Proofs.Ytfpakjbaiohcaaa
open Go.RowKit
namespace K

theorem wrap_i8 (x : Int) : IntKind.i8.wrap x = (x + 128) % 256 - 128 := by simp [IntKind.wrap, IntKind.bits, IntKind.signed]; omega
theorem flip_u8 (a : Int) (h0 : 0 ≤ a) (h1 : a ≤ 255) : bits .xor .u8 (if IntKind.u8.signed = true then -1 else IntKind.u8.max) a = 255 - a := by
  have h : ∀ x : Fin 256, bits .xor .u8 (if IntKind.u8.signed = true then -1 else IntKind.u8.max) (x.val : Int) = 255 - (x.val : Int) := by decide +kernel
  have := h ⟨a.toNat, by omega⟩
  simpa [Int.toNat_of_nonneg h0] using this

set_option maxHeartbeats 4000000 in
theorem number_any (x s : Int) (w : World) (hx0 : -9223372036854775808 ≤ x) (hx1 : x ≤ 9223372036854775807) (hs0 : 0 ≤ s) (hs1 : s ≤ 18) :
    Calls Try.prog 31 #[.int .i64 x, .int .i64 s] w fun e w' => ∃ b, e = .returned b ∧ Bu w' b (numB x s) ∧ Below w.heap.size w w' ∧ ∀ g, b.ownBlock = some g → w.heap.size ≤ g := by
  refine enter (args := [.int .i64 x, .int .i64 s]) Try.func31 rfl Try.ntmps31 rfl ?_
  by_cases h0 : x = 0
  · subst h0
    refine K.kgo ?_; refine WL.lit rfl rfl rfl rfl rfl rfl rfl fun b w' hb h1 h2 => ?_; refine K.kgo ?_; exact WQ.ret1 rfl rfl ⟨b, rfl, hb, h1, h2⟩
  · have h0x := h0
    have hu : x.natAbs ≤ 9223372036854775808 := by omega
    obtain ⟨u, hue⟩ : ∃ u, x.natAbs = u := ⟨_, rfl⟩; rw [hue] at hu; have hu0 : ¬ u = 0 := by omega
    have e1 : x < 0 → IntKind.u64.wrap (0 - IntKind.u64.wrap x) = (u : Int) := fun h => by rw [IntKind.wrap_u64, IntKind.wrap_u64]; omega
    have e2 : ¬ x < 0 → IntKind.u64.wrap x = (u : Int) := fun h => by rw [IntKind.wrap_u64]; omega
    refine K.kgo ?_; refine WC.mid (fun _ : Unit => [(0, .int .i64 x), (1, .int .i64 s), (5, .int .u64 u)]) (fun _ w' => w = w') rfl ?_ ?_
    · by_cases hn : x < 0
      · refine WC.condT rfl hn ?_
        refine K.kgo ?_; exact WQ.meet () ⟨rfl, rfl, congrArg (fun z => some (Value.int .u64 z)) (e1 hn), trivial⟩ rfl
      · refine WC.condF rfl hn ?_
        refine K.kgo ?_; exact WQ.meet () ⟨rfl, rfl, congrArg (fun z => some (Value.int .u64 z)) (e2 hn), trivial⟩ rfl
    clear e1 e2; rintro _ _ rfl; refine K.kgo ?_; refine WC.loop (fun i : Nat × Nat × List Nat × Value => [(0, .int .i64 x), (5, .int .u64 i.2.1), (6, .int .i64 (i.2.2.1.length - s)), (7, i.2.2.2)])
      (fun i w' => (digs u = i.2.2.1 ++ digsF i.1 i.2.1 ∧ i.1 + i.2.2.1.length = 20 ∧ i.2.1 < 10 ^ i.1 ∧ i.2.1 ≤ u) ∧ Bu w' i.2.2.2 ((nzs i.2.2.1).map fun d : Nat => (d : Int) + 1) ∧ Below w.heap.size w w' ∧ ∀ g, i.2.2.2.ownBlock = some g → w.heap.size ≤ g)
      (fun i => i.2.1) (20, u, [], .slice none 0 0) ⟨rfl, rfl, congrArg (fun z => some (Value.int .i64 z)) (by simp), rfl, trivial⟩ ⟨⟨rfl, rfl, by show u < 10 ^ 20; omega, Nat.le_refl _⟩, Bu.nil w, Below.refl _ _, fun g hg => by cases hg⟩ ?_
    rintro ⟨f, c, A, b⟩ wr ⟨⟨hA, hf, hc, hcu⟩, hb, hbel, hown⟩; simp only at hA hf hc hcu hb hbel hown ⊢; have hlt := digsF_lt 20 u
    by_cases h0 : c = 0
    · subst h0
      have hAu : A = digs u := by rw [hA]; cases f <;> simp [digsF]
      have hdl : (digs u).length ≤ 20 := digsF_len 20 u; have hnl := nzs_len (digs u); subst hAu; clear hA hf hc hcu; have e14 : IntKind.u8.wrap (IntKind.u8.wrap (IntKind.i8.wrap (((digs u).length : Int) - s)) + 192) = (((digs u).length : Int) - s + 192) % 256 := by
        rw [IntKind.wrap_u8, IntKind.wrap_u8, wrap_i8]; omega
      refine K.kgo ?_; refine WL.lit rfl rfl rfl rfl rfl rfl rfl fun b0 w1 hb0 k0 g0 => ?_; rw [e14] at hb0; have hrl : (List.map (fun d : Nat => (d : Int) + 1) (nzs (digs u))).length = (nzs (digs u)).length := List.length_map _; have hrev : digB (digs u) = (List.map (fun d : Nat => (d : Int) + 1) (nzs (digs u))).reverse := by unfold digB; rw [List.map_reverse]
      have hpos : posB (digs u) s = (((digs u).length : Int) - s + 192) % 256 :: (List.map (fun d : Nat => (d : Int) + 1) (nzs (digs u))).reverse ++ [0] := by unfold posB; rw [hrev]
      have hpr := posB_range u s; have hpl := posB_len u s; generalize hR : List.map (fun d : Nat => (d : Int) + 1) (nzs (digs u)) = R at hb hrl hpos; generalize hH : (((digs u).length : Int) - s + 192) % 256 = H at hb0 hpos; obtain ⟨sp, cc, rfl, -, -⟩ := hb.form; refine K.kgo ?_; refine WC.loop (fun i : Nat × Value => [(0, .int .i64 x), (7, .slice sp R.length cc), (9, i.2), (10, .int .i64 ((i.1 : Int) - 1))])
        (fun i w' => i.1 ≤ R.length ∧ Bu w' i.2 (H :: (R.drop i.1).reverse) ∧ Below wr.heap.size wr w' ∧ ∀ g, i.2.ownBlock = some g → wr.heap.size ≤ g)
        (fun i => i.1) (R.length, b0) ⟨rfl, rfl, rfl, rfl, trivial⟩ ⟨Nat.le_refl _, by simpa using hb0, k0, g0⟩ ?_
      rintro ⟨k, vv⟩ wr2 ⟨hk, hb2, hbel2, hown2⟩; simp only at hk hb2 hbel2 hown2 ⊢
      by_cases hk0 : k = 0
      · subst hk0
        refine K.kgo ?_; refine WL.push rfl rfl rfl rfl rfl rfl rfl rfl rfl rfl rfl (fun _ => rfl) rfl hb2 (by simp; omega) fun v3 w3 hb3 hg3 => ?_; have hb3' : Bu w3 v3 (posB (digs u) s) := by rw [hpos]; simpa using hb3
        have hbel3 : Below w.heap.size w w3 := (hbel.trans (hbel2.mono hbel.size)).trans (hg3.old (Nat.le_trans hbel.size hbel2.size) fun g hg => Nat.le_trans hbel.size (hown2 g hg)); have hown3 : ∀ g, v3.ownBlock = some g → w.heap.size ≤ g := hg3.own (Nat.le_trans hbel.size hbel2.size) fun g hg => Nat.le_trans hbel.size (hown2 g hg); clear hb3; refine K.kgo ?_
        by_cases hn : x < 0
        · refine WC.condT rfl hn ?_
          generalize hF : posB (digs u) s = F at hb3' hpr hpl; obtain ⟨sp3, c3, rfl, -, -⟩ := hb3'.form; refine K.kgo ?_; refine WC.loop (fun k : Nat => [(9, .slice sp3 F.length c3), (69, .slice sp3 F.length c3), (70, .int .i64 F.length), (71, .int .i64 k)])
            (fun k w' => k ≤ F.length ∧ Bu w' (.slice sp3 F.length c3) (flipB (F.take k) ++ F.drop k) ∧ Below w.heap.size w w') (fun k => F.length - k) 0 ⟨rfl, rfl, rfl, rfl, trivial⟩ ⟨Nat.zero_le _, by simpa [flipB] using hb3', hbel3⟩ ?_
          rintro k wr3 ⟨hk, hb4, hbel4⟩; have hll : (flipB (F.take k) ++ F.drop k).length = F.length := by simp [flipB]; omega
          by_cases hkn : k < F.length
          · obtain ⟨g, c', hv, hog, hcell, hfr, hset⟩ := hb4.at (j := k) (by rw [hll]; exact hkn)
            obtain rfl : sp3 = some ⟨g, 0, none⟩ := by injection hv
            have hdr : F.drop k = nth F k :: F.drop (k + 1) := by
              rw [List.drop_eq_getElem_cons hkn]; simp [nth, hkn]
            have hfl : (flipB (F.take k)).length = k := by simp [flipB]; omega
            have hnk : nth (flipB (F.take k) ++ F.drop k) k = nth F k := by
              rw [hdr]; unfold nth; rw [List.getD_eq_getElem?_getD, List.getElem?_append_right (by omega), hfl]; simp
            have hrg := hpr (nth F k) (by unfold nth; rw [List.getD_eq_getElem?_getD, List.getElem?_eq_getElem hkn]; exact List.getElem_mem hkn); have hfp := flip_u8 (nth F k) hrg.1 hrg.2; rw [hnk] at hcell; have hset2 := hset (255 - nth F k); refine K.kgo ?_; refine WL.idx k k rfl rfl rfl rfl rfl rfl rfl rfl hkn (by omega) ?_; refine WL.load rfl rfl rfl rfl rfl rfl hcell ?_; refine K.kgo ?_; refine WL.idx k k rfl rfl rfl rfl rfl rfl rfl rfl hkn (by omega) ?_; refine WL.store (v := .int .u8 (255 - nth F k)) rfl rfl rfl rfl (congrArg (fun z => some (Value.int .u8 z)) hfp) rfl (by kernel_rfl) hcell hfr ?_; refine K.kgo ?_; refine WQ.again (k + 1) ⟨rfl, rfl, rfl, rfl, trivial⟩ ⟨hkn, ?_, hbel4.trans (hset2.2.old hbel4.size fun g2 hg2 => hown3 g2 hg2)⟩ (by show F.length - (k + 1) < F.length - k; omega); have he : (flipB (F.take k) ++ F.drop k).set k (255 - nth F k) = flipB (F.take (k + 1)) ++ F.drop (k + 1) := by
              rw [hdr, List.set_append_right _ _ (by omega), hfl, Nat.sub_self, List.set_cons_zero]; have : F.take (k + 1) = F.take k ++ [nth F k] := by
                rw [List.take_add_one]; simp [nth, hkn]
              rw [this]; simp [flipB]
            rw [he] at hset2; exact hset2.1
          · obtain rfl : k = F.length := by omega
            refine K.kgo ?_; refine WQ.ret1 rfl rfl ⟨_, rfl, ?_, hbel4, hown3⟩; unfold numB; rw [if_neg h0x, if_pos hn, hue, hF]
            simpa using hb4
        · refine WC.condF rfl hn ?_
          refine K.kgo ?_; refine WQ.ret1 rfl rfl ⟨_, rfl, ?_, hbel3, hown3⟩; unfold numB; rw [if_neg h0x, if_neg hn, hue]; exact hb3'
      · obtain ⟨k, rfl⟩ : ∃ k', k = k' + 1 := ⟨k - 1, by omega⟩
        refine K.kgo ?_; refine WL.idxI k rfl rfl rfl rfl rfl rfl (hb.sl.of_below hbel2) rfl (by omega) (by omega) fun p hp => ?_; refine WL.load rfl rfl rfl rfl rfl rfl hp ?_; refine WL.push rfl rfl rfl rfl rfl rfl rfl rfl rfl rfl rfl (fun _ => rfl) rfl hb2 (by simp; omega) fun v3 w3 hb3 hg3 => ?_; refine K.kgo ?_; refine WQ.again (k, v3) ⟨rfl, rfl, rfl, congrArg (fun z => some (Value.int .i64 z)) (by simp), trivial⟩ ⟨by show k ≤ R.length; omega, ?_, hbel2.trans (hg3.old hbel2.size hown2), hg3.own hbel2.size hown2⟩ (by show k < k + 1; omega); have hdr : R.drop k = nth R k :: R.drop (k + 1) := by
          rw [List.drop_eq_getElem_cons (by omega)]; simp [nth, show k < R.length by omega]
        show Bu w3 v3 (H :: (R.drop k).reverse)
        rw [hdr, List.reverse_cons]; exact hb3
    · obtain ⟨f, rfl⟩ : ∃ f', f = f' + 1 := ⟨f - 1, by cases f with | zero => simp at hc; omega | succ f => rfl⟩
      have hd1 : digsF (f + 1) c = c % 10 :: digsF f (c / 10) := by rw [digsF, if_neg h0]
      have hA2 : digs u = (A ++ [c % 10]) ++ digsF f (c / 10) := by rw [hA, hd1]; simp
      have hsn := nzs_snoc A (c % 10); have hnl := nzs_len A; have hc10 : c / 10 < 10 ^ f := by rw [Nat.pow_succ] at hc; omega
      have hw : IntKind.u8.wrap ((c : Int).tmod 10) = ((c % 10 : Nat) : Int) := by
        rw [IntKind.wrap_u8, Int.tmod_eq_emod_of_nonneg (by omega)]; omega
      have hwp : IntKind.u8.wrap (IntKind.u8.wrap ((c : Int).tmod 10) + 1) = ((c % 10 : Nat) : Int) + 1 := by rw [hw, IntKind.wrap_u8]; omega
      have hq : IntKind.u64.wrap ((c : Int).tdiv 10) = ((c / 10 : Nat) : Int) := by
        rw [IntKind.wrap_u64, Int.tdiv_eq_ediv_of_nonneg (by omega)]; omega
      have hlm : (List.map (fun d : Nat => (d : Int) + 1) (nzs A)).length = (nzs A).length := List.length_map _; obtain ⟨sp, cc, rfl, -, -⟩ := hb.form; have fin : ∀ b w', Bu w' b ((nzs (A ++ [c % 10])).map fun d : Nat => (d : Int) + 1) → Below w.heap.size w w' → (∀ g, b.ownBlock = some g → w.heap.size ≤ g) → (digs u = (A ++ [c % 10]) ++ digsF f (c / 10) ∧ f + (A ++ [c % 10]).length = 20 ∧ c / 10 < 10 ^ f ∧ c / 10 ≤ u) ∧ Bu w' b ((nzs (A ++ [c % 10])).map fun d : Nat => (d : Int) + 1) ∧ Below w.heap.size w w' ∧ ∀ g, b.ownBlock = some g → w.heap.size ≤ g :=
        fun b w' h1 h2 h3 => ⟨⟨hA2, by simp; omega, hc10, by omega⟩, h1, h2, h3⟩
      have e6 : (A.length : Int) - s + 1 = ((A ++ [c % 10]).length : Int) - s := by simp; omega
      by_cases hd : c % 10 = 0
      · by_cases hz : nzs A = []
        · have hz0 : (nzs A).length = 0 := by rw [hz]; rfl
          rw [hz, if_pos rfl, if_pos hd] at hsn; refine K.kgo ?_; refine WQ.again (f, c / 10, A ++ [c % 10], _) ⟨rfl, congrArg (fun z => some (Value.int .u64 z)) hq, congrArg (fun z => some (Value.int .i64 z)) e6, rfl, trivial⟩ (fin _ _ ?_ hbel hown) (by show c / 10 < c; omega); rw [hsn, ← hz]; exact hb
        · have hz0 : 0 < (nzs A).length := by cases hl : nzs A with | nil => exact (hz hl).elim | cons a r => simp
          rw [if_neg hz] at hsn; refine K.kgo ?_; refine WL.push rfl rfl rfl rfl rfl rfl rfl rfl rfl rfl rfl (fun _ => rfl) rfl hb (by simp; omega) fun v3 w3 hb3 hg3 => ?_; refine K.kgo ?_; refine WQ.again (f, c / 10, A ++ [c % 10], v3) ⟨rfl, congrArg (fun z => some (Value.int .u64 z)) hq, congrArg (fun z => some (Value.int .i64 z)) e6, rfl, trivial⟩ (fin _ _ ?_ (hbel.trans (hg3.old hbel.size hown)) (hg3.own hbel.size hown)) (by show c / 10 < c; omega); rw [hsn, List.map_append]; rw [hwp] at hb3; exact hb3
      · have hsn2 : nzs (A ++ [c % 10]) = nzs A ++ [c % 10] := by
          rw [hsn]
          by_cases hz : nzs A = []
          · rw [if_pos hz, if_neg hd, hz]; rfl
          · rw [if_neg hz]
        refine K.kgo ?_; refine WL.push rfl rfl rfl rfl rfl rfl rfl rfl rfl rfl rfl (fun _ => rfl) rfl hb (by simp; omega) fun v3 w3 hb3 hg3 => ?_; refine K.kgo ?_; refine WQ.again (f, c / 10, A ++ [c % 10], v3) ⟨rfl, congrArg (fun z => some (Value.int .u64 z)) hq, congrArg (fun z => some (Value.int .i64 z)) e6, rfl, trivial⟩ (fin _ _ ?_ (hbel.trans (hg3.old hbel.size hown)) (hg3.own hbel.size hown)) (by show c / 10 < c; omega); rw [hsn2, List.map_append]; rw [hwp] at hb3; exact hb3
end K
end Go.Proofs.Ytfpakjbaiohcaaa

namespace Go.Proofs.Ytfpakjbaiohcaaa
open Go.RowKit
namespace K
theorem xor_fl (z tn : Int) (hz : 0 ≤ z ∧ z ≤ 255) (ht : tn = 0 ∨ tn = 255) : bits .xor .u8 z tn = fl tn z := by
  unfold fl; rcases ht with rfl | rfl
  · rw [if_pos rfl]
    have h : ∀ x : Fin 256, bits .xor .u8 (x.val : Int) 0 = (x.val : Int) := by decide +kernel
    have := h ⟨z.toNat, by omega⟩
    simpa [Int.toNat_of_nonneg hz.1] using this
  · rw [if_neg (by omega)]
    have h : ∀ x : Fin 256, bits .xor .u8 (x.val : Int) 255 = 255 - (x.val : Int) := by decide +kernel
    have := h ⟨z.toNat, by omega⟩
    simpa [Int.toNat_of_nonneg hz.1] using this
theorem fl_range {z tn : Int} (hz : 0 ≤ z ∧ z ≤ 255) : 0 ≤ fl tn z ∧ fl tn z ≤ 255 := by unfold fl; split <;> omega
theorem Byt.nth {l : List Int} (h : Byt l) (i : Nat) : 0 ≤ nth l i ∧ nth l i ≤ 255 := by
  show 0 ≤ l.getD i 0 ∧ l.getD i 0 ≤ 255
  rw [List.getD_eq_getElem?_getD]; cases hq : l[i]? with
  | none => simp
  | some x => exact h x (List.mem_of_getElem? hq)
def NumPost (B rb : Nat) (w : World) (l : List Int) (bad : Bool) (e : Ending) (w' : World) : Prop :=
  ∃ (k n s : Int) (l' : List Int) (bad' : Bool), e = .returned (.agg #[.int .i64 k, .int .i64 n, .int .i64 s, .string ByteArray.empty, .slice none 0 0, .slice none 0 0]) ∧ (0 ≤ k ∧ k ≤ 255) ∧ (-9223372036854775808 ≤ n ∧ n ≤ 9223372036854775807) ∧ (0 ≤ s ∧ s ≤ 255) ∧
    KR B w' rb l' bad' ∧ KeepR rb w w' ∧ NumOut l bad k n s l' bad'
theorem ones6 (k n s : Int) : Ones [.int .i64 k, .int .i64 n, .int .i64 s, .string ByteArray.empty, .slice none 0 0, .slice none 0 0] := fun v hv => by
  simp at hv
  rcases hv with rfl | rfl | rfl | rfl | rfl | rfl <;> rfl
variable {B rb : Nat} {w : World} {l : List Int} {bad : Bool}
theorem KR.mark {wx : World} {lx : List Int} {bx : Bool} (h : KR B wx rb lx bx) (hk : KeepR rb w wx) {T g : Nat} {cs : List Value} (hv : VBlk T wx g cs) (hg : g ≠ rb) :
    KR B (wx.setCell ⟨rb, 1, none⟩ (.bool true)) rb lx true ∧ KeepR rb w (wx.setCell ⟨rb, 1, none⟩ (.bool true)) ∧ VBlk T (wx.setCell ⟨rb, 1, none⟩ (.bool true)) g cs :=
  ⟨h.setT, hk.trans (KeepR.set _ _ _ _), hv.keep (K := fun x => x ≠ rb) ((Keep.refl _ wx).setCell (fun hk => hk rfl) _) hg⟩
set_option maxHeartbeats 8000000 in
theorem knumber_any (h : KR B w rb l bad) (hB : B ≤ w.heap.size) :
    Calls Try.prog 40 #[.pointer (some ⟨rb, 0, none⟩)] w (NumPost B rb w l bad) := by
  refine enter (args := [.pointer (some ⟨rb, 0, none⟩)]) Try.func40 rfl Try.ntmps40 rfl ?_; have hrB := h.rlt; refine K.kgo ?_; refine WL.alloc (z := .agg zCells.toArray) rfl rfl rfl rfl (fun _ => by kernel_rfl) fun vb w1 hf => ?_; have hf1 : Fresh w vb w1 37 zCells := hf; clear hf; have hve := hf1.eq; have hvr : vb ≠ rb := by omega
  have h1 : KR B w1 rb l bad := h.keep (Keep.of_below hf1.below) fun b hb => Nat.lt_of_lt_of_le hb hB; have k1 : KeepR rb w w1 := KeepR.below hf1.below; have hv1 := hf1.blk; clear hf1; refine K.kgo ?_; refine WL.call rfl rfl rfl rfl rfl Try.func39 rfl (by kernel_rfl) (kbyte_any h1) ?_; rintro _ w2 ⟨rfl, h2, k2⟩; refine ⟨_, rfl, ?_⟩; have hv2 := hv1.keep k2 ⟨hv1.lt, hvr⟩; have k02 := k1.trans k2; have hcr := h.byt.nth 0; have hfst : ∀ n0 s0 r, l = numB n0 s0 ++ r → l = nth l 0 :: l.drop 1 := fun n0 s0 r e => by
    cases l with
    | nil =>
      exfalso
      have : (numB n0 s0 ++ r).length = 0 := by rw [← e]; rfl
      unfold numB at this
      split at this
      · simp at this
      · split at this <;> simp [flipB, posB] at this
    | cons a l => rfl
  obtain ⟨c, hc⟩ : ∃ c, c = nth l 0 := ⟨_, rfl⟩; rw [← hc] at hcr hfst ⊢; have hbl : ∀ {n0 s0 : Int} {r : List Int}, l = numB n0 s0 ++ r → l.isEmpty = false := fun e => by
    have := hfst _ _ _ e; cases l with
    | nil => cases this
    | cons => rfl
  have hdl : (l.drop 1).length ≤ l.length := by simp
  by_cases h128 : c = 128
  · refine K.kgo ?_
    refine WL.build [.int .i64 3, .int .i64 0, .int .i64 0, .string ByteArray.empty, .slice none 0 0, .slice none 0 0] rfl rfl rfl rfl rfl (by kernel_rfl) ?_; refine WL.storeRow rfl rfl rfl rfl rfl rfl hv2 rfl rfl (ones6 _ _ _) ?_; refine K.kgo ?_; have hK : Keep (fun x => x ≠ vb) w2 (w2.setRow vb [.int .i64 3, .int .i64 0, .int .i64 0, .string ByteArray.empty, .slice none 0 0, .slice none 0 0].toArray) := Keep.setRow (Keep.refl _ w2) (fun hk => hk rfl) _; refine WQ.retC rfl rfl rfl rfl (hv2.setRow _) ⟨3, 0, 0, l.drop 1, bad || l.isEmpty, rfl, by omega, by omega, by omega, h2.keep hK fun b hb => by show b ≠ vb; omega, Keep.setRow k02 (fun hk => by have := hk.1; omega) _, hdl, ?_⟩; intro n0 s0 r hb hn hs he; have e1 := hfst _ _ _ he; have e2 := hbl he; obtain ⟨rfl, -, h5⟩ | ⟨-, h5, -⟩ := numB_inv (c := c) (l2 := l.drop 1) hn (by omega) (e1.symm.trans he)
    · rcases hs with rfl | ⟨h6, h7, h8⟩
      · exact ⟨rfl, rfl, rfl, h5, by rw [hb, e2]; rfl⟩
      · exact (h8 (by decide)).elim
    · exact (h5 h128).elim
  obtain ⟨tn, htn⟩ : ∃ tn, tn = (if c < 128 then (255 : Int) else 0) := ⟨_, rfl⟩; have htn2 : tn = 0 ∨ tn = 255 := by rw [htn]; split <;> omega
  have hx0 := xor_fl c tn hcr htn2; obtain ⟨e, he⟩ : ∃ e, IntKind.i8.wrap (IntKind.u8.wrap (bits .xor .u8 c tn - 192)) = e := ⟨_, rfl⟩; have her : -128 ≤ e ∧ e ≤ 127 := by rw [← he, wrap_i8]; omega
  have hee : 64 ≤ fl tn c → e = fl tn c - 192 := fun h64 => by
    have := fl_range (tn := tn) hcr; rw [← he, hx0, wrap_i8, IntKind.wrap_u8]; omega
  obtain ⟨b2, hb2⟩ : ∃ b2, b2 = (bad || l.isEmpty) := ⟨_, rfl⟩; obtain ⟨l2, hl2⟩ : ∃ l2, l2 = l.drop 1 := ⟨_, rfl⟩; rw [← hb2, ← hl2] at h2; rw [← hl2] at hdl hfst; refine K.kgo ?_; refine WC.mid (fun _ : Unit => [(0, .pointer (some ⟨rb, 0, none⟩)), (2, .pointer (some ⟨vb, 0, none⟩)), (3, .int .u8 c), (4, .int .u8 tn)]) (fun _ w' => w2 = w') rfl ?_ ?_
  · by_cases hlt : c < 128
    · rw [if_pos hlt] at htn
      refine WC.condT rfl hlt ?_; refine K.kgo ?_; exact WQ.meet () ⟨rfl, rfl, rfl, congrArg (fun z => some (Value.int .u8 z)) htn.symm, trivial⟩ rfl
    · rw [if_neg hlt] at htn
      refine WC.condF rfl hlt ?_; refine K.kgo ?_; exact WQ.meet () ⟨rfl, rfl, rfl, congrArg (fun z => some (Value.int .u8 z)) htn.symm, trivial⟩ rfl
  rintro _ _ rfl; refine K.kgb ?_; refine WC.mid (fun i : List Int × Bool × Nat × Nat => [(0, .pointer (some ⟨rb, 0, none⟩)), (2, .pointer (some ⟨vb, 0, none⟩)), (4, .int .u8 tn), (5, .int .i64 e), (6, .int .u64 (i.2.2.1 : Int)), (7, .int .i64 (i.2.2.2 : Int))])
    (fun i w' => KR B w' rb i.1 i.2.1 ∧ KeepR rb w w' ∧ VBlk 37 w' vb zCells ∧ (i.2.2.1 < 18446744073709551616 ∧ i.2.2.2 ≤ 21 ∧ i.1.length ≤ l.length) ∧ NE tn l2 b2 i.1 i.2.1 i.2.2.1 i.2.2.2) rfl ?_ ?_
  · refine WC.block ?_
    refine WC.loop (fun i : List Int × Bool × Nat × Nat => [(0, .pointer (some ⟨rb, 0, none⟩)), (2, .pointer (some ⟨vb, 0, none⟩)), (4, .int .u8 tn), (5, .int .i64 e), (6, .int .u64 (i.2.2.1 : Int)), (7, .int .i64 (i.2.2.2 : Int))])
      (fun i w' => KR B w' rb i.1 i.2.1 ∧ KeepR rb w w' ∧ VBlk 37 w' vb zCells ∧ (i.2.2.1 < 18446744073709551616 ∧ i.2.2.2 ≤ 21 ∧ (i.2.1 = false → i.2.2.2 ≤ 20) ∧ i.1.length ≤ l.length) ∧ NL tn l2 b2 i.1 i.2.1 i.2.2.1 i.2.2.2)
      (fun i => 2 * i.1.length + (if i.2.1 then 0 else 1)) (l2, b2, 0, 0) ⟨rfl, rfl, rfl, congrArg (fun z => some (Value.int .i64 z)) he, rfl, rfl, trivial⟩ ⟨h2, k02, hv2, ⟨by show 0 < _; omega, Nat.zero_le _, fun _ => Nat.zero_le _, hdl⟩, NL.start⟩ ?_
    clear hx0 he hee h2 hv2 k02 hcr hfst hbl; rintro ⟨li, bi, u, many⟩ wr ⟨hr, hk, hv, ⟨hu, hm, hm2, hlen⟩, hN⟩; simp only at hr hk hv hu hm hm2 hlen hN ⊢; obtain ⟨s0, -, hc0⟩ := hr.ex; have c1 : wr.cell? ⟨rb, 1, none⟩ = some (.bool bi) := hc0.cell 1 (by simp); have hzr := hk.size; cases bi with
    | true =>
      refine K.kgl ?_; exact WQ.meet (li, true, u, many) ⟨rfl, rfl, rfl, rfl, rfl, rfl, trivial⟩ ⟨hr, hk, hv, ⟨hu, hm, hlen⟩, hN.dead⟩
    | false =>
      have hm2 := hm2 rfl; refine K.kgl ?_; refine WL.call rfl rfl rfl rfl rfl Try.func39 rfl (by kernel_rfl) (kbyte_any hr) ?_; rintro _ w3 ⟨rfl, h3, k3⟩; refine ⟨_, rfl, ?_⟩; have hv3 := hv.keep k3 ⟨hv.lt, hvr⟩; have k03 := hk.trans k3; have hdr := hr.byt.nth 0; have hxd := xor_fl (nth li 0) tn hdr htn2; have hdf := fl_range (tn := tn) hdr; have hd0 := @NL.done tn l2 li b2 u many hN; have hd1 := fun (h0 : fl tn (nth li 0) ≠ 0) (b' : Bool) (u' m' : Nat) => @NL.step tn l2 li b2 u many htn2 hN h0 b' u' m'; generalize fl tn (nth li 0) = d at hxd hdf hd0 hd1; generalize nth li 0 = c0 at hxd hdr ⊢; have hdl3 : (li.drop 1).length ≤ l.length := by simp; omega
      by_cases h0 : d = 0
      · refine K.kgo ?_
        exact WQ.meet (li.drop 1, false || li.isEmpty, u, many) ⟨rfl, rfl, rfl, rfl, rfl, rfl, trivial⟩ ⟨h3, k03, hv3, ⟨hu, hm, hdl3⟩, hd0 h0⟩
      obtain ⟨u', hu'⟩ : ∃ u' : Nat, (IntKind.u64.wrap (IntKind.u64.wrap ((u : Int) * 10) + IntKind.u64.wrap (IntKind.u8.wrap (bits .xor .u8 c0 tn - 1)))) = u' := ⟨_, (Int.toNat_of_nonneg (by rw [IntKind.wrap_u64]; omega)).symm⟩; have hul : u' < 18446744073709551616 := by
        have : (u' : Int) < 18446744073709551616 := by rw [← hu', IntKind.wrap_u64]; omega
        omega
      have huv : u < 10 ^ 18 → 1 ≤ d → d ≤ 10 → u' = u * 10 + (d - 1).toNat := fun a1 a2 a3 => by
        have : (u' : Int) = (u : Int) * 10 + (d - 1) := by
          rw [← hu', hxd, IntKind.wrap_u64, IntKind.wrap_u64, IntKind.wrap_u64, IntKind.wrap_u8]; omega
        omega
      have hne : ∀ {P : Prop}, P → (li ≠ [] → d ≤ 10 → many ≤ 19 → P) := fun h _ _ _ => h; have hmes : 2 * (li.drop 1).length + (if (false || li.isEmpty) = true then 0 else 1) < 2 * li.length + 1 := by
        cases li with
        | nil => simp
        | cons a li => simp
      have hmes2 : 2 * (li.drop 1).length + 0 < 2 * li.length + 1 := by simp; omega
      by_cases hbad : 10 < d ∨ 19 < many
      · have hst := h3.mark k03 hv3 hvr
        obtain ⟨s3, -, hc3⟩ := h3.ex; have hstep := hd1 h0 true u' (many + 1) (fun _ a b _ => by omega) huv rfl
        by_cases h10 : 10 < d
        · refine K.kgo ?_
          refine WL.store rfl rfl rfl rfl rfl rfl (by kernel_rfl) (hc3.cell 1 (by simp)) (hc3.free 1) ?_; refine K.kgo ?_; exact WQ.again (li.drop 1, true, u', many + 1) ⟨rfl, rfl, rfl, rfl, congrArg (fun z => some (Value.int .u64 z)) hu', rfl, trivial⟩ ⟨hst.1, hst.2.1, hst.2.2, ⟨hul, by show many + 1 ≤ 21; omega, fun h => (by cases h), hdl3⟩, hstep⟩ hmes2
        · refine K.kgo ?_
          refine WL.store rfl rfl rfl rfl rfl rfl (by kernel_rfl) (hc3.cell 1 (by simp)) (hc3.free 1) ?_; refine K.kgo ?_; exact WQ.again (li.drop 1, true, u', many + 1) ⟨rfl, rfl, rfl, rfl, congrArg (fun z => some (Value.int .u64 z)) hu', rfl, trivial⟩ ⟨hst.1, hst.2.1, hst.2.2, ⟨hul, by show many + 1 ≤ 21; omega, fun h => (by cases h), hdl3⟩, hstep⟩ hmes2
      · have hstep := hd1 h0 (false || li.isEmpty) u' (many + 1) (fun a _ _ _ => by cases li with | nil => exact (a rfl).elim | cons => rfl) huv rfl
        have n1 : ¬ 10 < d := fun h => hbad (.inl h); have n2 : ¬ 19 < many := fun h => hbad (.inr h); refine K.kgo ?_; exact WQ.again (li.drop 1, false || li.isEmpty, u', many + 1) ⟨rfl, rfl, rfl, rfl, congrArg (fun z => some (Value.int .u64 z)) hu', rfl, trivial⟩ ⟨h3, k03, hv3, ⟨hul, by show many + 1 ≤ 21; omega, fun _ => by show many + 1 ≤ 20; omega, hdl3⟩, hstep⟩ hmes
  clear h2 hv2 k02 hcr he; rintro ⟨l3, b3, u, many⟩ w3 ⟨hr3, hk3, hv3, ⟨hu, hm, hlen3⟩, hNE⟩; simp only at hr3 hk3 hv3 hu hm hlen3 hNE ⊢; obtain ⟨sc0, hsc0⟩ : ∃ sc0 : Int, (many : Int) - e = sc0 := ⟨_, rfl⟩; have hsr : -127 ≤ sc0 ∧ sc0 ≤ 149 := by omega
  refine K.kgb ?_; refine WC.mid (fun i : Nat × Int × Bool => [(0, .pointer (some ⟨rb, 0, none⟩)), (2, .pointer (some ⟨vb, 0, none⟩)), (4, .int .u8 tn), (9, .int .u64 (i.1 : Int)), (10, .int .i64 i.2.1)])
    (fun i w' => KR B w' rb l3 i.2.2 ∧ KeepR rb w w' ∧ VBlk 37 w' vb zCells ∧ (i.1 < 18446744073709551616 ∧ -127 ≤ i.2.1 ∧ i.2.1 ≤ 149 ∧ (i.2.2 = false → 0 ≤ i.2.1)) ∧ ML u sc0 b3 i.1 i.2.1 i.2.2) rfl ?_ ?_
  · refine WC.block ?_
    refine WC.loop (fun i : Nat × Int × Bool => [(0, .pointer (some ⟨rb, 0, none⟩)), (2, .pointer (some ⟨vb, 0, none⟩)), (4, .int .u8 tn), (9, .int .u64 (i.1 : Int)), (10, .int .i64 i.2.1)])
      (fun i w' => KR B w' rb l3 i.2.2 ∧ KeepR rb w w' ∧ VBlk 37 w' vb zCells ∧ (i.1 < 18446744073709551616 ∧ -127 ≤ i.2.1 ∧ i.2.1 ≤ 149) ∧ ML u sc0 b3 i.1 i.2.1 i.2.2)
      (fun i => (-i.2.1).toNat) (u, sc0, b3) ⟨rfl, rfl, rfl, rfl, congrArg (fun z => some (Value.int .i64 z)) hsc0, trivial⟩ ⟨hr3, hk3, hv3, ⟨hu, hsr.1, hsr.2⟩, ML.start⟩ ?_
    clear hr3 hk3 hv3 hNE; rintro ⟨n, sc, bi⟩ wr ⟨hr, hk, hv, ⟨hn, hs1, hs2⟩, hM⟩; simp only at hr hk hv hn hs1 hs2 hM ⊢; obtain ⟨s0, -, hc0⟩ := hr.ex; have c1 : wr.cell? ⟨rb, 1, none⟩ = some (.bool bi) := hc0.cell 1 (by simp)
    by_cases hsc : sc < 0
    · cases bi with
      | true =>
        refine K.kgl ?_; exact WQ.meet (n, sc, true) ⟨rfl, rfl, rfl, rfl, rfl, trivial⟩ ⟨hr, hk, hv, ⟨hn, hs1, hs2, fun h => by cases h⟩, hM⟩
      | false =>
        obtain ⟨n', hn'⟩ : ∃ n' : Nat, IntKind.u64.wrap ((n : Int) * 10) = n' := ⟨_, (Int.toNat_of_nonneg (by rw [IntKind.wrap_u64]; omega)).symm⟩; have hnl : n' < 18446744073709551616 := by
          have : (n' : Int) < 18446744073709551616 := by rw [← hn', IntKind.wrap_u64]; omega
          omega
        have hnv : 10 * n ≤ 9223372036854775808 → n' = n * 10 := fun h => by
          have : (n' : Int) = (n : Int) * 10 := by rw [← hn', IntKind.wrap_u64]; omega
          omega
        have hmes : (-(sc + 1)).toNat < (-sc).toNat := by omega
        by_cases hb : 1152921504606846976 < n
        · have hst := hr.mark hk hv hvr
          refine K.kgl ?_; refine WL.store rfl rfl rfl rfl rfl rfl (by kernel_rfl) (hc0.cell 1 (by simp)) (hc0.free 1) ?_; refine K.kgo ?_; exact WQ.again (n', sc + 1, true) ⟨rfl, rfl, rfl, congrArg (fun z => some (Value.int .u64 z)) hn', rfl, trivial⟩ ⟨hst.1, hst.2.1, hst.2.2, ⟨hnl, by show -127 ≤ sc + 1; omega, by show sc + 1 ≤ 149; omega⟩, hM.step hsc fun h => by omega⟩ hmes
        · refine K.kgl ?_
          exact WQ.again (n', sc + 1, false) ⟨rfl, rfl, rfl, congrArg (fun z => some (Value.int .u64 z)) hn', rfl, trivial⟩ ⟨hr, hk, hv, ⟨hnl, by show -127 ≤ sc + 1; omega, by show sc + 1 ≤ 149; omega⟩, hM.step hsc fun h => ⟨rfl, hnv h⟩⟩ hmes
    · refine K.kgl ?_
      exact WQ.meet (n, sc, bi) ⟨rfl, rfl, rfl, rfl, rfl, trivial⟩ ⟨hr, hk, hv, ⟨hn, hs1, hs2, fun _ => by show 0 ≤ sc; omega⟩, hM⟩
  clear hr3 hk3 hv3; rintro ⟨n, sc, b4⟩ w4 ⟨hr4, hk4, hv4, ⟨hn, hs1, hs2, hs3⟩, hML⟩; simp only at hr4 hk4 hv4 hn hs1 hs2 hs3 hML ⊢; obtain ⟨s4, -, hc4⟩ := hr4.ex; have hst4 := hr4.mark hk4 hv4 hvr; refine K.kgn ?_; refine WL.mid (fun b : Bool => [(0, .pointer (some ⟨rb, 0, none⟩)), (2, .pointer (some ⟨vb, 0, none⟩)), (4, .int .u8 tn), (9, .int .u64 (n : Int)), (10, .int .i64 sc), (86, .bool b)]) (fun b w' => (b = true ↔ (9223372036854775808 < n ∨ (n = 9223372036854775808 ∧ tn = 0))) ∧ w4 = w') rfl ?_ ?_
  · by_cases q1 : 9223372036854775808 < n
    · refine K.kgo ?_
      exact WQ.meet true ⟨rfl, rfl, rfl, rfl, rfl, rfl, trivial⟩ ⟨by simp [q1], rfl⟩
    · by_cases q2 : n = 9223372036854775808
      · by_cases q3 : tn = 0
        · refine K.kgo ?_
          exact WQ.meet true ⟨rfl, rfl, rfl, rfl, rfl, rfl, trivial⟩ ⟨by simp [q2, q3], rfl⟩
        · refine K.kgo ?_
          exact WQ.meet false ⟨rfl, rfl, rfl, rfl, rfl, rfl, trivial⟩ ⟨by simp [q1, q3], rfl⟩
      · refine K.kgo ?_
        exact WQ.meet false ⟨rfl, rfl, rfl, rfl, rfl, rfl, trivial⟩ ⟨by simp [q1, q2], rfl⟩
  rintro b _ ⟨hbq, rfl⟩; refine WC.mid (fun _ : Bool => [(0, .pointer (some ⟨rb, 0, none⟩)), (2, .pointer (some ⟨vb, 0, none⟩)), (4, .int .u8 tn), (9, .int .u64 (n : Int)), (10, .int .i64 sc)])
    (fun b5 w' => KR B w' rb l3 b5 ∧ KeepR rb w w' ∧ VBlk 37 w' vb zCells ∧ (b = false → b5 = b4)) rfl ?_ ?_
  · cases b with
    | true =>
      refine K.kgo ?_; refine WL.store rfl rfl rfl rfl rfl rfl (by kernel_rfl) (hc4.cell 1 (by simp)) (hc4.free 1) ?_; refine K.kgo ?_; exact WQ.meet true ⟨rfl, rfl, rfl, rfl, rfl, trivial⟩ ⟨hst4.1, hst4.2.1, hst4.2.2, fun h => by cases h⟩
    | false =>
      refine K.kgo ?_; exact WQ.meet b4 ⟨rfl, rfl, rfl, rfl, rfl, trivial⟩ ⟨hr4, hk4, hv4, fun _ => rfl⟩
  clear hst4 hc4 hr4 hk4 hv4; rintro b5 w5 ⟨hr5, hk5, hv5, hb5⟩; obtain ⟨x, hx⟩ : ∃ x, x = (if tn = 0 then IntKind.i64.wrap (n : Int) else IntKind.i64.wrap (IntKind.u64.wrap (0 - (n : Int)))) := ⟨_, rfl⟩; have hxr : -9223372036854775808 ≤ x ∧ x ≤ 9223372036854775807 := by rw [hx]; split <;> (rw [IntKind.wrap_i64]; omega)
  have hxv : (tn = 0 → n < 9223372036854775808 → x = n) ∧ (¬ tn = 0 → n ≤ 9223372036854775808 → x = -(n : Int)) := by
    constructor
    · intro a b; rw [hx, if_pos a, IntKind.wrap_i64]; omega
    · intro a b; rw [hx, if_neg a, IntKind.wrap_i64, IntKind.wrap_u64]; omega
  refine K.kgo ?_; refine WC.mid (fun _ : Unit => [(0, .pointer (some ⟨rb, 0, none⟩)), (2, .pointer (some ⟨vb, 0, none⟩)), (10, .int .i64 sc), (11, .int .i64 x)]) (fun _ w' => w5 = w') rfl ?_ ?_
  · by_cases q : tn = 0
    · rw [if_pos q] at hx
      refine WC.condF rfl (fun h => h q) ?_; refine K.kgo ?_; exact WQ.meet () ⟨rfl, rfl, rfl, congrArg (fun z => some (Value.int .i64 z)) hx.symm, trivial⟩ rfl
    · rw [if_neg q] at hx
      refine WC.condT rfl q ?_; refine K.kgo ?_; exact WQ.meet () ⟨rfl, rfl, rfl, congrArg (fun z => some (Value.int .i64 z)) hx.symm, trivial⟩ rfl
  clear hx; rintro _ _ rfl; refine K.kgo ?_; refine WL.call rfl rfl rfl rfl rfl Try.func53 rfl (by kernel_rfl) (make_any x sc hxr (by omega) w5) ?_; rintro _ w6 ⟨k, n6, s6, er, rfl, g1, g2, g3, hb6, g4⟩; refine ⟨_, rfl, ?_⟩; have hr6 := hr5.keep (Keep.of_below hb6) fun b hb => by have := hk5.size; omega
  have hv6 := hv5.below hb6 hv5.lt; have hk6 := hk5.trans (KeepR.below hb6); clear hr5 hv5 hk5; refine K.kgo ?_; refine WL.alloc (z := .agg zCells.toArray) rfl rfl rfl rfl (fun _ => by kernel_rfl) fun xb w7 hf => ?_; have hf7 : Fresh w6 xb w7 37 zCells := hf; clear hf; refine WL.storeRow (cs := [.int .i64 k, .int .i64 n6, .int .i64 s6, .string ByteArray.empty, .slice none 0 0, .slice none 0 0]) rfl rfl rfl rfl rfl rfl hf7.blk rfl rfl (ones6 _ _ _) ?_; have hb8 : Below w6.heap.size w6 (w7.setRow xb [.int .i64 k, .int .i64 n6, .int .i64 s6, .string ByteArray.empty, .slice none 0 0, .slice none 0 0].toArray) := below_setRow hf7.below (by rw [hf7.eq]; exact Nat.le_refl _) _; have hx8 := hf7.blk.setRow [.int .i64 k, .int .i64 n6, .int .i64 s6, .string ByteArray.empty, .slice none 0 0, .slice none 0 0]; have hxe := hf7.eq; clear hf7; generalize w7.setRow xb [.int .i64 k, .int .i64 n6, .int .i64 s6, .string ByteArray.empty, .slice none 0 0, .slice none 0 0].toArray = w8 at hb8 hx8 ⊢; have hr8 := hr6.keep (Keep.of_below hb8) fun b hb => by have := hk6.size; omega
  have hv8 := hv6.below hb8 hv6.lt; have hk8 := hk6.trans (KeepR.below hb8); have hvl := hv6.lt; clear hr6 hv6 hk6 hb8; refine K.kgo ?_; refine WC.mid (fun _ : Bool => [(2, .pointer (some ⟨vb, 0, none⟩)), (12, .pointer (some ⟨xb, 0, none⟩))])
    (fun b9 w' => KR B w' rb l3 b9 ∧ KeepR rb w w' ∧ VBlk 37 w' vb zCells ∧ VBlk 37 w' xb [.int .i64 k, .int .i64 n6, .int .i64 s6, .string ByteArray.empty, .slice none 0 0, .slice none 0 0] ∧ (er = 0 → b9 = b5)) rfl ?_ ?_
  · by_cases q : er = 0
    · refine WC.condF rfl (fun h => h q) ?_
      refine K.kgo ?_; exact WQ.meet b5 ⟨rfl, rfl, trivial⟩ ⟨hr8, hk8, hv8, hx8, fun _ => rfl⟩
    · obtain ⟨s8, -, hc8⟩ := hr8.ex
      have hst := hr8.mark hk8 hv8 hvr; have hst2 := hr8.mark hk8 hx8 (by omega); refine WC.condT rfl q ?_; refine K.kgo ?_; refine WL.store rfl rfl rfl rfl rfl rfl (by kernel_rfl) (hc8.cell 1 (by simp)) (hc8.free 1) ?_; refine K.kgo ?_; exact WQ.meet true ⟨rfl, rfl, trivial⟩ ⟨hst.1, hst.2.1, hst.2.2, hst2.2.2, fun h => (q h).elim⟩
  clear hr8 hk8 hv8 hx8; rintro b9 w9 ⟨hr9, hk9, hv9, hx9, hb9⟩; refine K.kgo ?_; refine WL.loadMid (m := 6) rfl rfl rfl rfl rfl rfl (VBlk.rangeAt hx9) rfl ?_; refine WL.storeRow rfl rfl rfl rfl rfl rfl hv9 rfl rfl (ones6 _ _ _) ?_; refine K.kgo ?_; have hK : Keep (fun x => x ≠ vb) w9 (w9.setRow vb [.int .i64 k, .int .i64 n6, .int .i64 s6, .string ByteArray.empty, .slice none 0 0, .slice none 0 0].toArray) := Keep.setRow (Keep.refl _ w9) (fun hk => hk rfl) _; refine WQ.retC rfl rfl rfl rfl (hv9.setRow _) ⟨k, n6, s6, l3, b9, rfl, g1, g2, g3, hr9.keep hK fun b hb => by show b ≠ vb; omega, Keep.setRow hk9 (fun hk => by have := hk.1; omega) _, hlen3, ?_⟩; intro n0 s0 r hbd hn0 hs he; have e1 := hfst _ _ _ he; have e2 := hbl he; obtain ⟨-, h5, -⟩ | ⟨q1, -, tn', q2, q3, q4, q5⟩ := numB_inv (c := c) (l2 := l2) hn0 (by omega) (e1.symm.trans he)
  · exact (h128 h5).elim
  obtain rfl : tn' = tn := by rw [q2, htn]
  obtain rfl : b2 = false := by rw [hb2, hbd, e2]; rfl
  obtain ⟨rfl, rfl, q6, q7⟩ := num_ok hn0 q1 hs q4 (hee (by have := digs_len (u := n0.natAbs) (by omega) (by omega); omega)) q5 hNE; rw [hsc0] at q6 q7; obtain ⟨rfl, q8, q9⟩ := hML _ rfl q6 (by omega); have hs3 := hs3 rfl; rw [show (-sc).toNat = 0 by omega, Nat.pow_zero, Nat.mul_one] at q8; have hss : sc = s0 := by omega
  have hbf : b = false := by
    cases b with
    | false => rfl
    | true =>
      rcases hbq.1 rfl with a | ⟨a, a2⟩
      · omega
      · rw [a2] at q2
        split at q2 <;> omega
  have hb5 := hb5 hbf; have hxn : x = n0 := by
    by_cases q : tn' = 0
    · have := hxv.1 q
      rw [q] at q2
      split at q2 <;> omega
    · have := hxv.2 q
      split at q2 <;> omega
  rw [hxn, hss] at g4; obtain ⟨a1, a2, a3, a4⟩ := g4 hs; exact ⟨a2, a3, a4, rfl, (hb9 a1).trans hb5⟩
end K
end Go.Proofs.Ytfpakjbaiohcaaa

namespace Go.Proofs.Ytfpakjbaiohcaaa
namespace Frm
abbrev Byt (l : List Int) : Prop := ∀ c ∈ l, 0 ≤ c ∧ c ≤ 255
end Frm
namespace Crc
def be4 (n : Nat) : List Int := [((n / 16777216 % 256 : Nat) : Int), ((n / 65536 % 256 : Nat) : Int), ((n / 256 % 256 : Nat) : Int), ((n % 256 : Nat) : Int)]
def num4 : List Int → Nat
  | a :: b :: c :: d :: _ => a.toNat * 16777216 + b.toNat * 65536 + c.toNat * 256 + d.toNat
  | _ => 0
theorem be4_num4 {a b c d : Int} (ha : 0 ≤ a ∧ a ≤ 255) (hb : 0 ≤ b ∧ b ≤ 255) (hc : 0 ≤ c ∧ c ≤ 255) (hd : 0 ≤ d ∧ d ≤ 255) (r : List Int) : be4 (num4 (a :: b :: c :: d :: r)) = [a, b, c, d] ∧ num4 (a :: b :: c :: d :: r) < 4294967296 := by
  refine ⟨?_, by show a.toNat * 16777216 + b.toNat * 65536 + c.toNat * 256 + d.toNat < 4294967296; omega⟩
  show be4 (a.toNat * 16777216 + b.toNat * 65536 + c.toNat * 256 + d.toNat) = _
  unfold be4; have h1 : ((a.toNat * 16777216 + b.toNat * 65536 + c.toNat * 256 + d.toNat) / 16777216 % 256 : Nat) = a.toNat := by omega
  have h2 : ((a.toNat * 16777216 + b.toNat * 65536 + c.toNat * 256 + d.toNat) / 65536 % 256 : Nat) = b.toNat := by omega
  have h3 : ((a.toNat * 16777216 + b.toNat * 65536 + c.toNat * 256 + d.toNat) / 256 % 256 : Nat) = c.toNat := by omega
  have h4 : ((a.toNat * 16777216 + b.toNat * 65536 + c.toNat * 256 + d.toNat) % 256 : Nat) = d.toNat := by omega
  rw [h1, h2, h3, h4, Int.toNat_of_nonneg ha.1, Int.toNat_of_nonneg hb.1, Int.toNat_of_nonneg hc.1, Int.toNat_of_nonneg hd.1]
theorem num4_lt (l : List Int) (h : ∀ c ∈ l, 0 ≤ c ∧ c ≤ 255) : num4 l < 4294967296 := by
  match l, h with
  | [], _ => simp [num4]
  | [_], _ => simp [num4]
  | [_, _], _ => simp [num4]
  | [_, _, _], _ => simp [num4]
  | a :: b :: c :: d :: r, h => exact (be4_num4 (h a (by simp)) (h b (by simp)) (h c (by simp)) (h d (by simp)) r).2
end Crc
end Go.Proofs.Ytfpakjbaiohcaaa

namespace Go.Proofs.Ytfpakjbaiohcaaa
open Go.RowKit
namespace K
theorem nth_mem' (l : List Int) (i : Nat) (h : i < l.length) : nth l i ∈ l := by simp [nth, h]
theorem wraps_u32 (n : Int) (h0 : 0 ≤ n) (h1 : n < 2 ^ 32) : IntKind.u32.wrap n = n := by rw [IntKind.wrap_u32]; omega
theorem wraps_u64 (n : Int) (h0 : 0 ≤ n) (h1 : n < 2 ^ 64) : IntKind.u64.wrap n = n := by rw [IntKind.wrap_u64]; omega
theorem four32 (a b c d : Int) (ha : 0 ≤ a ∧ a ≤ 255) (hb : 0 ≤ b ∧ b ≤ 255) (hc : 0 ≤ c ∧ c ≤ 255) (hd : 0 ≤ d ∧ d ≤ 255) :
    bits .or .u32 (bits .or .u32 (bits .or .u32 (IntKind.u32.wrap (IntKind.u32.wrap a * ((2 ^ min 24 IntKind.u32.bits : Nat) : Int))) (IntKind.u32.wrap (IntKind.u32.wrap b * ((2 ^ min 16 IntKind.u32.bits : Nat) : Int))))
      (IntKind.u32.wrap (IntKind.u32.wrap c * ((2 ^ min 8 IntKind.u32.bits : Nat) : Int)))) (IntKind.u32.wrap d) = a * 16777216 + b * 65536 + c * 256 + d := by
  rw [show ((2 ^ min 24 IntKind.u32.bits : Nat) : Int) = 16777216 from rfl, show ((2 ^ min 16 IntKind.u32.bits : Nat) : Int) = 65536 from rfl, show ((2 ^ min 8 IntKind.u32.bits : Nat) : Int) = 256 from rfl]; rw [wraps_u32 a (by omega) (by omega), wraps_u32 b (by omega) (by omega), wraps_u32 c (by omega) (by omega), wraps_u32 d (by omega) (by omega), wraps_u32 (a * 16777216) (by omega) (by omega), wraps_u32 (b * 65536) (by omega) (by omega), wraps_u32 (c * 256) (by omega) (by omega)]; rw [bits_join .u32 32 (by decide) wraps_u32 24 (a * 16777216) (b * 65536) (by omega) (by omega) (by omega) (by omega) (by omega) (by omega)]; rw [bits_join .u32 32 (by decide) wraps_u32 16 (a * 16777216 + b * 65536) (c * 256) (by omega) (by omega) (by omega) (by omega) (by omega) (by omega)]; rw [bits_join .u32 32 (by decide) wraps_u32 8 (a * 16777216 + b * 65536 + c * 256) d (by omega) (by omega) (by omega) (by omega) (by omega) (by omega)]
theorem two64 (h l : Nat) (hh : h < 4294967296) (hl : l < 4294967296) : bits .or .u64 (IntKind.u64.wrap (IntKind.u64.wrap (h : Int) * ((2 ^ min 32 IntKind.u64.bits : Nat) : Int))) (IntKind.u64.wrap (l : Int)) = ((h * 4294967296 + l : Nat) : Int) := by
  rw [show ((2 ^ min 32 IntKind.u64.bits : Nat) : Int) = 4294967296 from rfl, wraps_u64 (h : Int) (by omega) (by omega), wraps_u64 (l : Int) (by omega) (by omega), wraps_u64 ((h : Int) * 4294967296) (by omega) (by omega)]; rw [bits_join .u64 64 (by decide) wraps_u64 32 ((h : Int) * 4294967296) (l : Int) (by omega) (by omega) (by omega) (by omega) (by omega) (by omega)]; omega
theorem num4_nth {l : List Int} (hl : 4 ≤ l.length) (hb : Frm.Byt l) : nth l 0 * 16777216 + nth l 1 * 65536 + nth l 2 * 256 + nth l 3 = ((Crc.num4 l : Nat) : Int) := by
  match l, hl, hb with
  | a :: b :: c :: d :: r, _, hb =>
    have h1 := hb a (by simp); have h2 := hb b (by simp); have h3 := hb c (by simp); have h4 := hb d (by simp)
    show a * 16777216 + b * 65536 + c * 256 + d = ((a.toNat * 16777216 + b.toNat * 65536 + c.toNat * 256 + d.toNat : Nat) : Int)
    omega
def rsV (l : List Int) : List Value := if l.length < 4 then [.int .u32 0, .int .i64 2] else [.int .u32 (Crc.num4 l : Nat), .int .i64 0]
theorem readShort_any {w : World} {v : Value} {l : List Int} (hv : Sl .u8 w v l) (hb : Frm.Byt l) :
    Calls Try.prog 54 #[v] w fun e w' => e = .returned (.tuple (rsV l).toArray) ∧ Below w.heap.size w w' := by
  obtain ⟨sp, cap, rfl, h1, h2, -⟩ := id hv; refine enter (args := [.slice sp l.length cap]) Try.func54 rfl Try.ntmps54 rfl ?_; unfold rsV
  by_cases h : l.length < 4
  · rw [if_pos h]
    refine K.kgo ?_; exact WQ.ret2 rfl rfl rfl ⟨rfl, Below.refl _ _⟩
  rw [if_neg h]; have hfin := num4_nth (by omega) hb; have a0 := hb _ (nth_mem' l 0 (by omega)); have a1 := hb _ (nth_mem' l 1 (by omega)); have a2 := hb _ (nth_mem' l 2 (by omega)); have a3 := hb _ (nth_mem' l 3 (by omega)); have h32 := four32 _ _ _ _ a0 a1 a2 a3; rw [hfin] at h32; clear hfin a0 a1 a2 a3; refine K.kgo ?_; refine WC.drawn 21 (fun wx => wx.heap = w.heap) fun w2 hd => ?_; have hb2 : Below w.heap.size w w2 := hd.below _; have hS : w2.heap = w.heap := hd.heap; clear hd; refine K.fr [0, 5, 11, 17] hS ?_; refine WD.idxI 1 0 rfl (by kernel_rfl) rfl rfl (fun _ _ _ _ _ h => h) rfl rfl rfl rfl hv rfl rfl (by omega) (.inr hS) fun p0 q0 => ?_; refine K.wl 2 [3, 4, 10, 16, 21, 22, 23] rfl rfl rfl rfl rfl rfl rfl (fun wx hx => (heap_cell hx _).trans q0) hS ?_; refine WD.idxI 6 1 rfl (by kernel_rfl) rfl rfl (fun _ _ _ _ _ h => h) rfl rfl rfl rfl hv rfl rfl (by omega) (.inr hS) fun p1 q1 => ?_; refine K.wl 7 [8, 9, 10, 16, 21, 22, 23] rfl rfl rfl rfl rfl rfl rfl (fun wx hx => (heap_cell hx _).trans q1) hS ?_; refine WD.idxI 12 2 rfl (by kernel_rfl) rfl rfl (fun _ _ _ _ _ h => h) rfl rfl rfl rfl hv rfl rfl (by omega) (.inr hS) fun p2 q2 => ?_; refine K.wl 13 [14, 15, 16, 21, 22, 23] rfl rfl rfl rfl rfl rfl rfl (fun wx hx => (heap_cell hx _).trans q2) hS ?_; refine WD.idxI 18 3 rfl (by kernel_rfl) rfl rfl (fun _ _ _ _ _ h => h) rfl rfl rfl rfl hv rfl rfl (by omega) (.inr hS) fun p3 q3 => ?_; refine K.wl 19 [20, 21, 22, 23] rfl rfl rfl rfl rfl rfl rfl (fun wx hx => (heap_cell hx _).trans q3) hS ?_; refine K.fr [3, 4, 8, 9, 10, 14, 15, 16, 20] hS ?_; refine K.wo 21 ?_; refine WL.pure rfl rfl rfl rfl ?_; refine WL.as 28 (.int .u32 ((Crc.num4 l : Nat) : Int)) rfl (congrArg (Value.int .u32) h32) ?_; refine K.dl ?_
  (refine K.fzl 22 rfl (q := ?_); refine K.fzl 23 rfl (q := ?_))
  refine WD.done (by kernel_rfl) ?_; refine K.kgo ?_; exact WQ.ret2 rfl rfl rfl ⟨rfl, hb2⟩
def rbV (l : List Int) : List Value := if l.length < 8 then [.int .u64 0, .int .i64 2] else [.int .u64 ((Crc.num4 l * 4294967296 + Crc.num4 (l.drop 4) : Nat) : Int), .int .i64 0]
theorem readBig_any {w : World} {v : Value} {l : List Int} (hv : Sl .u8 w v l) (hb : Frm.Byt l) :
    Calls Try.prog 41 #[v] w fun e w' => e = .returned (.tuple (rbV l).toArray) ∧ Below w.heap.size w w' := by
  obtain ⟨sp, cap, rfl, h1, h2, -⟩ := id hv; refine enter (args := [.slice sp l.length cap]) Try.func41 rfl Try.ntmps41 rfl ?_; unfold rbV
  by_cases h : l.length < 8
  · rw [if_pos h]
    refine K.kgo ?_; exact WQ.ret2 rfl rfl rfl ⟨rfl, Below.refl _ _⟩
  rw [if_neg h]; have e1 : rsV l = [.int .u32 (Crc.num4 l : Nat), .int .i64 0] := by unfold rsV; rw [if_neg (by omega)]
  have e2 : rsV (l.drop 4) = [.int .u32 (Crc.num4 (l.drop 4) : Nat), .int .i64 0] := by unfold rsV; rw [if_neg (by rw [List.length_drop]; omega)]
  have hbd : Frm.Byt (l.drop 4) := fun c hc => hb c (List.mem_of_mem_drop hc); have h64 := two64 (Crc.num4 l) (Crc.num4 (l.drop 4)) (Crc.num4_lt _ hb) (Crc.num4_lt _ hbd); refine K.kgo ?_; refine WL.call rfl rfl rfl rfl rfl Try.func54 rfl (by kernel_rfl) (readShort_any hv hb) ?_; rintro _ w1 ⟨rfl, k1⟩; refine ⟨_, rfl, ?_⟩; rw [e1]; refine K.kgo ?_; refine WL.from rfl rfl rfl rfl rfl rfl rfl (by omega) (by omega) (hv.of_below k1) fun v2 hv2 => ?_
  refine WL.call rfl rfl rfl rfl rfl Try.func54 rfl (by kernel_rfl) (readShort_any hv2 hbd) ?_; rintro _ w2 ⟨rfl, k2⟩; refine ⟨_, rfl, ?_⟩; rw [show (4 : Int).toNat = 4 from rfl, e2]; refine K.kgo ?_; exact WQ.ret2 rfl (congrArg (fun z => some (Value.int .u64 z)) h64) rfl ⟨rfl, k1.trans (k2.mono k1.size)⟩
end K
end Go.Proofs.Ytfpakjbaiohcaaa

namespace Go.Proofs.Ytfpakjbaiohcaaa
open Go.RowKit
namespace K
section
variable {n : NN} {Q : Exit → Act → World → Prop} {l : Env} {w : World} {ops : Array Oper} {d : Nat} {S : World → Prop} {m fuel : Nat} {listed : Array Bool}
theorem WD.substrFrom {oi : Oper} {t : Nat} {x lo : Operand} {s : ByteArray} {k' : IntKind} {z : Int} (i : Nat) (hi : ops[i]? = some oi) (hs : mayB ops listed i m = true) (hd : oi.dst = some d) (hn : Nat.blt d n.n = true)
    (hQ : Passes Q) (hw : wants ops l oi = some true) (ho : oi.op = .slice t x (some lo) none none) (ht : tyOf ty t = some .str)
    (hx : evl l x = some (.string s)) (hlo : evl l lo = some (.int k' z)) (h0 : 0 ≤ z) (h2 : z ≤ s.size) (hS : listed.getD m false = true ∨ S w)
    (h : WD n ops Q S m fuel (listed.setIfInBounds i true) ((d, .string (s.extract z.toNat s.size)) :: l) w) : WD n ops Q S m (fuel + 1) listed l w :=
  WD.first i hi hs hd hn hQ (fun a ha => .inl ⟨wants_run ha hw, fun w _ => by
    unfold execOp; rw [ho]; have hu := TyOk.of tyOk ht; have := run_slice_string_from_if (P := Try.prog) w t s k' z hu; rw [if_pos ⟨h0, h2⟩] at this; simp [ha.eval hx, ha.eval hlo, run_sliceAt_string w t _ _ _ _ hu, this]⟩) hS h
end
theorem bytesI_drop (s : ByteArray) (k : Nat) : bytesI (s.extract k s.size) = (bytesI s).drop k := by
  unfold bytesI; rw [ByteArray.toList_eq, ByteArray.toList_eq, ByteArray.data_extract, Array.toList_extract, ← List.map_drop]
  congr 1
  rw [List.extract_eq_take_drop]; have : s.data.toList.length = s.size := rfl; rw [List.take_of_length_le]; rw [List.length_drop, this]; omega
def KvPost (m B rb : Nat) (w : World) (l : List Int) (bad : Bool) (r : Ending) (w' : World) : Prop :=
  ∃ v cs l' bad', r = .returned (.agg cs.toArray) ∧ IsVo (fun b => w.heap.size ≤ b) (m + 1) w' v cs ∧ KR B w' rb l' bad' ∧ KeepR rb w w' ∧ KOut m l bad v l' bad'
theorem four_back {v : Int} (h0 : 0 ≤ v) (h1 : v < 4294967296) (r : List Int) : Crc.num4 (shortI v ++ r) = v.toNat := by
  show (v / 16777216 % 256).toNat * 16777216 + (v / 65536 % 256).toNat * 65536 + (v / 256 % 256).toNat * 256 + (v % 256).toNat = v.toNat
  omega
theorem big_back {n : Int} (h : 0 ≤ n ∧ n ≤ 9007199254740992) (r : List Int) : ((Crc.num4 (bigI n ++ r) * 4294967296 + Crc.num4 ((bigI n ++ r).drop 4) : Nat) : Int) = n ∧ (bigI n ++ r).drop 8 = r := by
  refine ⟨?_, rfl⟩; have e1 : bigI n ++ r = shortI (n / 4294967296) ++ (shortI (n % 4294967296) ++ r) := by unfold bigI; rw [List.append_assoc]
  have e2 : (shortI (n / 4294967296) ++ (shortI (n % 4294967296) ++ r)).drop 4 = shortI (n % 4294967296) ++ r := rfl; rw [e1, e2, four_back (by omega) (by omega), four_back (by omega) (by omega)]; omega
theorem KOut.cons {m : Nat} {l l2 l' : List Int} {bad b' : Bool} {v : V} (hl : l.isEmpty = false) (h2 : l2 = l.drop 1) (h : KOut m (nth l 0 :: l2) bad v l' b') : KOut m l bad v l' b' := by
  subst h2; cases l with
  | nil => cases hl
  | cons c l => exact h
theorem kv_box {m B rb vb : Nat} {w w4 : World} {v : V} {cs : List Value} {hB : B ≤ w.heap.size} (hvbe : vb = w.heap.size) (hrB : rb < B) {l l4 : List Int} {bad e4 : Bool} (hv4 : IsVo (fun b => w.heap.size ≤ b ∧ b ≠ vb) (m + 1) w4 v cs)
    (hr4 : KR B w4 rb l4 e4) (hk4 : KeepR rb w w4) (ho4 : KOut m l bad v l4 e4) : KvPost m B rb w l bad (.returned (.agg cs.toArray)) (w4.setRow vb cs.toArray) := by
  have hset : Keep (fun b => b ≠ vb) w4 (w4.setRow vb cs.toArray) := Keep.setRow (Keep.refl _ w4) (fun hk => hk rfl) _; exact ⟨v, cs, l4, e4, rfl, hv4.keep hset (fun b hb _ => hb.2) (fun b hb => hb.1), hr4.keep hset (fun b hb => by have := hrB; have := hB; omega), Keep.setRow hk4 (fun hk => by have := hk.1; omega) _, ho4⟩
abbrev rowV (c : Int) (sn sk : Value) : List Value := [.int .i64 c, .int .i64 0, .int .i64 0, .string ByteArray.empty, sn, sk]
theorem kids_end {rb vb m B : Nat} {c : Int} {w wx : World} {ns : List ByteArray} {ks : List V} {sn sk : Value} {q : Nat → Prop} {l li : List Int} {bad ei : Bool} (hc : 0 ≤ c ∧ c ≤ 255) (h1 : KidsW rb vb (m + 1) c w wx ns ks sn sk q) (h2 : KR B wx rb li ei) (h3 : KOut (m + 1) l bad (.mk c 0 0 noT ns ks) li ei) :
    VBlk 37 wx vb (rowV c sn sk) ∧ IsVo (fun b => w.heap.size ≤ b ∧ b ≠ vb) (m + 1 + 1) wx (.mk c 0 0 noT ns ks) (rowV c sn sk) ∧ KR B wx rb li ei ∧ KeepR rb w wx ∧ KOut (m + 1) l bad (.mk c 0 0 noT ns ks) li ei :=
  ⟨h1.blk, ⟨sn, sk, rfl, wf_i64 (by show -9223372036854775808 ≤ c ∧ c ≤ _; omega), wf_i64 (by show -9223372036854775808 ≤ (0 : Int) ∧ (0 : Int) ≤ _; omega), wf_i64 (by show -9223372036854775808 ≤ (0 : Int) ∧ (0 : Int) ≤ _; omega), by show ByteArray.empty.size ≤ _; decide, h1.names.els, h1.kids.els.mono (fun _ h => h) fun x cs hx => hx.mono fun b hb => ⟨(h1.qs b hb).1, (h1.qs b hb).2.2.1⟩⟩, h2, h1.keep, h3⟩

set_option maxHeartbeats 16000000 in
theorem kvalue_step (m : Nat) (ih : ∀ {B rb : Nat} {w : World} {l : List Int} {bad : Bool} (d : Int), d = 17 - (m : Int) → KR B w rb l bad → B ≤ w.heap.size → l.length ≤ 1000000 → Calls Try.prog 26 #[.pointer (some ⟨rb, 0, none⟩), .int .i64 d] w (KvPost m B rb w l bad))
    {B rb : Nat} {w : World} {l : List Int} {bad : Bool} (d : Int) (hd : d = 17 - ((m + 1 : Nat) : Int)) (hm : m + 1 ≤ 16) (h : KR B w rb l bad) (hB : B ≤ w.heap.size) (hl : l.length ≤ 1000000) :
    Calls Try.prog 26 #[.pointer (some ⟨rb, 0, none⟩), .int .i64 d] w (KvPost (m + 1) B rb w l bad) := by
  refine enter (args := [.pointer (some ⟨rb, 0, none⟩), .int .i64 d]) Try.func26 rfl Try.ntmps26 rfl ?_; refine K.kgo ?_; refine WL.alloc (z := .agg #[.int .i64 0, .int .i64 0, .int .i64 0, .string ByteArray.empty, .slice none 0 0, .slice none 0 0]) rfl rfl rfl rfl (fun _ => by kernel_rfl) fun vb w1 hf => ?_; have hf' : Fresh w vb w1 37 [.int .i64 0, .int .i64 0, .int .i64 0, .string ByteArray.empty, .slice none 0 0, .slice none 0 0] := hf; clear hf; have hvbe := hf'.eq; have hrB := h.rlt; have h1 : KR B w1 rb l bad := h.keep (Keep.of_below hf'.below) fun b hb => Nat.lt_of_lt_of_le hb hB; have hk1 : KeepR rb w w1 := KeepR.below hf'.below; have hblk1 := hf'.blk; have hsz1 := hf'.size; clear hf'; have hbyt := h.byt; refine K.kgo ?_; refine WL.call rfl rfl rfl rfl rfl Try.func39 rfl (by kernel_rfl) (kbyte_any h1) ?_; rintro _ w2 ⟨rfl, h3, hk2⟩; refine ⟨_, rfl, ?_⟩; have hblk3 := hblk1.keep hk2 ⟨hblk1.lt, by omega⟩; have hk3 := hk1.trans hk2; clear h1 hk1 hblk1 hk2; have hc01 := hbyt.nth 0; have hcons := @KOut.cons (m + 1) l (l.drop 1); have hll : (l.drop 1).length + (if l.isEmpty then 0 else 1) = l.length := by cases l with | nil => rfl | cons => rfl
  have hnil : l.isEmpty = true → l = [] ∧ nth l 0 = 0 := fun e => by cases l with | nil => exact ⟨rfl, rfl⟩ | cons => cases e
  generalize nth l 0 = c at hc01 hcons hnil ⊢; generalize l.drop 1 = l2 at h3 hcons hll; generalize hem : l.isEmpty = em at h3 hcons hll hnil; have hl2 : l2.length ≤ 1000000 := by omega
  -- the store into the box
  have stB : ∀ {wx : World} {i : Nat} (u : Value) {lx : List Int} {ex : Bool}, KR B wx rb lx ex → KeepR rb w wx → KR B (wx.setCell ⟨vb, i, none⟩ u) rb lx ex ∧ KeepR rb w (wx.setCell ⟨vb, i, none⟩ u) := fun {wx i} u {lx ex} hr hk =>
    ⟨hr.keep (K := fun b => b ≠ vb) ((Keep.refl _ wx).setCell (fun hk => hk rfl) _) (fun b hb => by omega), Keep.setCell hk (fun hk => by have := hk.1; simp only at this; omega) _⟩
  refine K.kgb ?_; refine WC.mid (fun _ : V × List Value × List Int × Bool => [(4, .pointer (some ⟨vb, 0, none⟩))])
    (fun i w' => VBlk 37 w' vb i.2.1 ∧ IsVo (fun b => w.heap.size ≤ b ∧ b ≠ vb) (m + 1 + 1) w' i.1 i.2.1 ∧ KR B w' rb i.2.2.1 i.2.2.2 ∧ KeepR rb w w' ∧ KOut (m + 1) l bad i.1 i.2.2.1 i.2.2.2) rfl ?_ ?_
  rotate_left
  · rintro ⟨v, cs, l4, e4⟩ w4 ⟨hb4, hv4, hr4, hk4, ho4⟩
    simp only at hb4 hv4 hr4 hk4 ho4 ⊢; have hcs := hv4.len; refine K.kgo ?_; refine WL.loadMid rfl rfl rfl rfl rfl rfl (VBlk.rangeAt hb4) hcs ?_; refine WL.storeRow rfl rfl rfl rfl rfl rfl hb4 hcs hcs hv4.one ?_; refine K.kgo ?_; exact WQ.retC rfl rfl rfl hcs (hb4.setRow cs) (kv_box (hB := hB) hvbe hrB hv4 hr4 hk4 ho4)
  by_cases k1 : c = 16
  · subst k1
    have hem0 : em = false := by cases em with | false => rfl | true => have := (hnil rfl).2; omega
    subst hem0; refine K.kgo ?_; refine WL.store (v := .int .i64 1) rfl rfl rfl rfl rfl rfl (by kernel_rfl) (hblk3.cell 0 (by simp)) (hblk3.free 0) ?_; obtain ⟨h5, hk5⟩ := stB (i := 0) (.int .i64 1) h3 hk3; have hblk5 := hblk3.set 0 (.int .i64 1); refine K.kgo ?_; exact WQ.meet (.mk 1 0 0 noT [] [], _, l2, _) ⟨rfl, trivial⟩ ⟨hblk5, isVo_leaf (by omega) (by omega) (by omega) (by decide), h5, hk5, hcons rfl rfl (.leaf (by show 0 + l2.length + 1 ≤ l2.length + 1; omega) fun x r q0 q1 q2 q3 => by
      obtain ⟨-, rfl, rfl⟩ | ⟨e, -⟩ | ⟨e, -⟩ | ⟨e, -⟩ | ⟨e, -⟩ | ⟨e, -⟩ | ⟨e, -⟩ := kinv q1 q3 <;> (first | omega | skip); exact ⟨rfl, rfl, by rw [q0]⟩)⟩
  by_cases k2 : c = 32
  · subst k2
    have hem0 : em = false := by cases em with | false => rfl | true => have := (hnil rfl).2; omega
    subst hem0; refine K.kgo ?_; refine WL.store (v := .int .i64 2) rfl rfl rfl rfl rfl rfl (by kernel_rfl) (hblk3.cell 0 (by simp)) (hblk3.free 0) ?_; obtain ⟨h5, hk5⟩ := stB (i := 0) (.int .i64 2) h3 hk3; have hblk5 := hblk3.set 0 (.int .i64 2); generalize w2.setCell ⟨vb, 0, none⟩ (.int .i64 2) = w5 at h5 hk5 hblk5 ⊢; simp only [List.set_cons_zero] at hblk5; have hc2 := h5.byt.nth 0; refine K.kgo ?_; refine WL.call rfl rfl rfl rfl rfl Try.func39 rfl (by kernel_rfl) (kbyte_any h5) ?_; rintro _ w6 ⟨rfl, h6, hk6⟩; refine ⟨_, rfl, ?_⟩; have hblk6 := hblk5.keep hk6 ⟨hblk5.lt, by omega⟩; have hlen6 : (l2.drop 1).length ≤ l2.length := by simp
    have hok : ∀ x r, bad = false → chk (m + 1) x = 0 → Wr x → (32 : Int) :: l2 = keyV (m + 1) x ++ r → V.mk 2 (nth l2 0) 0 noT [] [] = x ∧ l2.drop 1 = r ∧ (bad || false || l2.isEmpty) = false := fun x r q0 q1 q2 q3 => by
      obtain ⟨e, -⟩ | ⟨-, n, -, rfl, rfl⟩ | ⟨e, -⟩ | ⟨e, -⟩ | ⟨e, -⟩ | ⟨e, -⟩ | ⟨e, -⟩ := kinv q1 q3 <;> (first | omega | skip); exact ⟨rfl, rfl, by rw [q0]; rfl⟩
    generalize nth l2 0 = c2 at hc2 hok ⊢; refine K.kgo ?_; refine WL.store (v := .int .i64 c2) rfl rfl rfl rfl rfl rfl (by kernel_rfl) (hblk6.cell 1 (by simp)) (hblk6.free 1) ?_; obtain ⟨h7, hk7⟩ := stB (i := 1) (.int .i64 c2) h6 (hk5.trans hk6); have hblk7 := hblk6.set 1 (.int .i64 c2); refine K.kgo ?_; exact WQ.meet (.mk 2 c2 0 noT [] [], _, l2.drop 1, _) ⟨rfl, trivial⟩ ⟨hblk7, isVo_leaf (by omega) (by omega) (by omega) (by decide), h7, hk7, hcons rfl rfl (.leaf (by show 0 + (l2.drop 1).length + 1 ≤ l2.length + 1; omega) hok)⟩
  by_cases k3 : c = 48
  · subst k3
    have hem0 : em = false := by cases em with | false => rfl | true => have := (hnil rfl).2; omega
    subst hem0; refine K.kgo ?_; refine WL.call rfl rfl rfl rfl rfl Try.func40 rfl (by kernel_rfl) (knumber_any h3 (by have := hk3.size; omega)) ?_; rintro _ w4 ⟨kk, n, s, l4, b4, rfl, g1, g2, g3, h4, hk4, ho4⟩; refine ⟨_, rfl, ?_⟩; have hblk4 := hblk3.keep hk4 ⟨hblk3.lt, by omega⟩; refine K.kgo ?_; refine WL.storeRow (cs := [.int .i64 kk, .int .i64 n, .int .i64 s, .string ByteArray.empty, .slice none 0 0, .slice none 0 0]) rfl rfl rfl rfl rfl rfl hblk4 rfl rfl (ones6 _ _ _) ?_; refine K.kgo ?_; refine WQ.retC rfl rfl rfl rfl (hblk4.setRow _) (kv_box (v := .mk kk n s noT [] []) (hB := hB) hvbe hrB (isVo_leaf g1 g2 g3 (by decide)) h4 (hk3.trans hk4) (hcons rfl rfl (.leaf (by show 0 + l4.length + 1 ≤ l2.length + 1; have := ho4.len; omega) fun x r q0 q1 q2 q3 => ?_))); obtain ⟨e, -⟩ | ⟨e, -⟩ | ⟨-, n0, s0, e1, e2⟩ | ⟨e, -⟩ | ⟨e, -⟩ | ⟨e, -⟩ | ⟨e, -⟩ := kinv q1 q3 <;> (first | omega | skip); have hw := q2.num; rcases e1 with ⟨rfl, rfl⟩ | ⟨e1, rfl⟩
    · obtain ⟨rfl, rfl, rfl, rfl, rfl⟩ := ho4.ok _ _ r (by rw [q0]; rfl) hw (.inl rfl) e2
      exact ⟨rfl, rfl, rfl⟩
    · obtain ⟨e3, rfl, rfl, rfl, rfl⟩ := ho4.ok _ _ r (by rw [q0]; rfl) hw (.inr e1) e2
      rw [if_neg (by omega)] at e3; exact ⟨by rw [e3], rfl, rfl⟩
  by_cases k5 : c = 64
  · subst k5
    have hem0 : em = false := by cases em with | false => rfl | true => have := (hnil rfl).2; omega
    subst hem0; refine K.kgo ?_; refine WL.store (v := .int .i64 5) rfl rfl rfl rfl rfl rfl (by kernel_rfl) (hblk3.cell 0 (by simp)) (hblk3.free 0) ?_; obtain ⟨h5, hk5⟩ := stB (i := 0) (.int .i64 5) h3 hk3; have hblk5 := hblk3.set 0 (.int .i64 5); generalize w2.setCell ⟨vb, 0, none⟩ (.int .i64 5) = w5 at h5 hk5 hblk5 ⊢; simp only [List.set_cons_zero] at hblk5; clear h3 hk3 hblk3; rw [Bool.or_false] at h5; obtain ⟨s, hsl, hrc⟩ := h5.ex; have hslen := bytesI_len s; rw [hsl] at hslen; have hb5 := h5.byt; refine K.kgo ?_; refine WL.load rfl rfl rfl rfl rfl rfl (hrc.cell 0 (by simp)) ?_; refine WL.bytesOf rfl rfl rfl rfl rfl rfl rfl rfl (by omega) fun g cc w6 hs6 hb6 hg6 => ?_; rw [hsl] at hs6; refine WL.call rfl rfl rfl rfl rfl Try.func41 rfl (by kernel_rfl) (readBig_any hs6 hb5) ?_; rintro _ w7 ⟨rfl, hb7⟩; refine ⟨_, rfl, ?_⟩; have hb57 : Below w5.heap.size w5 w7 := hb6.trans (hb7.mono hb6.size); have hk5z := hk5.size; have h7 := h5.keep (Keep.of_below hb57) fun b hb => by omega
    have hk7 := hk5.trans (KeepR.below hb57); have hblk7 := hblk5.below hb57 hblk5.lt; have hrc7 := hrc.below hb57 hrc.lt; have hvr : vb ≠ rb := by omega
    clear h5 hk5 hblk5 hrc hs6 hb6 hb7 hb57; unfold rbV
    -- the reader becomes bad
    have toBad : ∀ (x : V), KR B (w7.setCell ⟨rb, 1, none⟩ (.bool true)) rb l2 true ∧ KeepR rb w (w7.setCell ⟨rb, 1, none⟩ (.bool true)) ∧ VBlk 37 (w7.setCell ⟨rb, 1, none⟩ (.bool true)) vb [.int .i64 5, .int .i64 0, .int .i64 0, .string ByteArray.empty, .slice none 0 0, .slice none 0 0] := fun _ => h7.mark hk7 hblk7 hvr; obtain ⟨hm1, hm2, hm3⟩ := toBad noV; clear toBad; have hout : (bad = false → l2.length < 8) → KOut (m + 1) l bad (.mk 5 0 0 noT [] []) l2 true := fun hbad => hcons rfl rfl (.leaf (by show 0 + l2.length + 1 ≤ l2.length + 1; omega) fun x r q0 q1 q2 q3 => by
      obtain ⟨e, -⟩ | ⟨e, -⟩ | ⟨e, -⟩ | ⟨-, n, -, rfl, rfl⟩ | ⟨e, -⟩ | ⟨e, -⟩ | ⟨e, -⟩ := kinv q1 q3 <;> (first | omega | skip); have := hbad q0; simp [bigI, shortI] at this
      omega)
    by_cases h8 : l2.length < 8
    · rw [if_pos h8]
      have hfin := hout fun _ => h8; cases bad with
      | true =>
        refine K.kgo ?_; refine WL.load rfl rfl rfl rfl rfl rfl (hrc7.cell 1 (by simp)) ?_; refine K.kgo ?_; refine WL.store rfl rfl rfl rfl rfl rfl (by kernel_rfl) (hrc7.cell 1 (by simp)) (hrc7.free 1) ?_; obtain ⟨s8, -, hrc8⟩ := hm1.ex; refine K.kgo ?_; refine WL.load rfl rfl rfl rfl rfl rfl (hrc8.cell 1 (by simp)) ?_; refine K.kgo ?_; exact WQ.meet (.mk 5 0 0 noT [] [], _, l2, true) ⟨rfl, trivial⟩ ⟨hm3, isVo_leaf (by omega) (by omega) (by omega) (by decide), hm1, hm2, hfin⟩
      | false =>
        refine K.kgo ?_; refine WL.load rfl rfl rfl rfl rfl rfl (hrc7.cell 1 (by simp)) ?_; refine K.kgo ?_; refine WL.store rfl rfl rfl rfl rfl rfl (by kernel_rfl) (hrc7.cell 1 (by simp)) (hrc7.free 1) ?_; obtain ⟨s8, -, hrc8⟩ := hm1.ex; refine K.kgo ?_; refine WL.load rfl rfl rfl rfl rfl rfl (hrc8.cell 1 (by simp)) ?_; refine K.kgo ?_; exact WQ.meet (.mk 5 0 0 noT [] [], _, l2, true) ⟨rfl, trivial⟩ ⟨hm3, isVo_leaf (by omega) (by omega) (by omega) (by decide), hm1, hm2, hfin⟩
    · rw [if_neg h8]
      obtain ⟨N, hN⟩ : ∃ N : Nat, Crc.num4 l2 * 4294967296 + Crc.num4 (l2.drop 4) = N := ⟨_, rfl⟩; rw [hN]; cases bad with
      | true =>
        have hfin := hout fun h => by cases h
        refine K.kgo ?_; refine WL.load rfl rfl rfl rfl rfl rfl (hrc7.cell 1 (by simp)) ?_; refine K.kgo ?_; refine WL.store rfl rfl rfl rfl rfl rfl (by kernel_rfl) (hrc7.cell 1 (by simp)) (hrc7.free 1) ?_; obtain ⟨s8, -, hrc8⟩ := hm1.ex; refine K.kgo ?_; refine WL.load rfl rfl rfl rfl rfl rfl (hrc8.cell 1 (by simp)) ?_; refine K.kgo ?_; exact WQ.meet (.mk 5 0 0 noT [] [], _, l2, true) ⟨rfl, trivial⟩ ⟨hm3, isVo_leaf (by omega) (by omega) (by omega) (by decide), hm1, hm2, hfin⟩
      | false =>
        clear hm1 hm2 hm3 hout; obtain ⟨Z, hZ⟩ : ∃ Z, IntKind.i64.wrap (N : Int) = Z := ⟨_, rfl⟩; have hZr : -9223372036854775808 ≤ Z ∧ Z ≤ 9223372036854775807 := by rw [← hZ, IntKind.wrap_i64]; omega
        have hdl : (l2.drop 8).length + 8 = l2.length := by rw [List.length_drop]; omega
        have hfin : KOut (m + 1) l false (.mk 5 Z 0 noT [] []) (l2.drop 8) false := hcons rfl rfl (.leaf (by show 0 + (l2.drop 8).length + 1 ≤ l2.length + 1; omega) fun x r q0 q1 q2 q3 => by
          obtain ⟨e, -⟩ | ⟨e, -⟩ | ⟨e, -⟩ | ⟨-, n, hn, rfl, rfl⟩ | ⟨e, -⟩ | ⟨e, -⟩ | ⟨e, -⟩ := kinv q1 q3 <;> (first | omega | skip); obtain ⟨b1, b2⟩ := big_back hn r; rw [hN] at b1; have : Z = n := by rw [← hZ, b1, IntKind.wrap_i64]; omega
          exact ⟨by rw [this], b2, rfl⟩)
        refine K.kgo ?_; refine WL.load rfl rfl rfl rfl rfl rfl (hrc7.cell 1 (by simp)) ?_; refine K.kgo ?_; refine WL.store rfl rfl rfl rfl rfl rfl (by kernel_rfl) (hrc7.cell 1 (by simp)) (hrc7.free 1) ?_; have h8' := h7.setB false; have hrc8 := hrc7.set 1 (.bool false); have hk8 := hk7.trans (KeepR.set rb 1 w7 (.bool false)); have hblk8 := hblk7.keep (K := fun x => x ≠ rb) ((Keep.refl _ w7).setCell (p := ⟨rb, 1, none⟩) (fun hk => hk rfl) (.bool false)) hvr; generalize w7.setCell ⟨rb, 1, none⟩ (.bool false) = w8 at h8' hrc8 hk8 hblk8 ⊢; simp only [List.set_cons_zero, List.set_cons_succ] at hrc8; clear h7 hrc7 hk7 hblk7; refine K.kgo ?_; refine WL.load rfl rfl rfl rfl rfl rfl (hrc8.cell 1 (by simp)) ?_; refine K.kgo ?_; refine WC.drawn 12 (fun wx => VBlk 56 wx rb [.string s, .bool false]) fun w9 hd => ?_; have h9 := h8'.keep (Keep.of_below (hd.below w8.heap.size)) fun b hb => by have := hk8.size; omega
        have hrc9 := hrc8.below (hd.below _) hrc8.lt; have hk9 := hk8.trans (KeepR.below (hd.below _)); have hblk9 := hblk8.below (hd.below _) hblk8.lt; have hS := hrc9; refine K.fr [0, 1] hS ?_; refine WD.freeAs 2 (.int .i64 Z) rfl (by kernel_rfl) rfl rfl (fun _ _ _ _ _ h => h) rfl rfl (congrArg (Value.int .i64) hZ) (.inr hS) ?_; refine K.fr [3, 4, 5] hS ?_; refine K.wl 6 [7, 12] rfl rfl rfl rfl rfl rfl rfl (fun wx hx => hx.cell 0 (by simp)) hS ?_; refine WD.substrFrom (z := 8) 7 rfl (by kernel_rfl) rfl rfl (fun _ _ _ _ _ h => h) rfl rfl rfl rfl rfl (by omega) (by omega) (.inr hS) ?_; refine K.fr [8] hS ?_; refine K.wo 9 ?_; refine WL.store (v := .int .i64 Z) rfl rfl rfl rfl rfl rfl (by kernel_rfl) (hblk9.cell 1 (by simp)) (hblk9.free 1) ?_; obtain ⟨h10, hk10⟩ := stB (i := 1) (.int .i64 Z) h9 hk9; have hblk10 := hblk9.set 1 (.int .i64 Z); have hrc10 := hrc9.keep (K := fun x => x ≠ vb) ((Keep.refl _ w9).setCell (p := ⟨vb, 1, none⟩) (fun hk => hk rfl) (.int .i64 Z)) (Ne.symm hvr); generalize w9.setCell ⟨vb, 1, none⟩ (.int .i64 Z) = w10 at h10 hk10 hblk10 hrc10 ⊢; simp only [List.set_cons_zero, List.set_cons_succ] at hblk10; have hS := hrc10; refine K.di hS ?_; refine K.fr [10, 11] hS ?_; refine K.wo 12 ?_; refine WL.store rfl rfl rfl rfl rfl rfl (by kernel_rfl) (hrc10.cell 0 (by simp)) (hrc10.free 0) ?_; have hrc11 := hrc10.set 0 (.string (s.extract (8 : Int).toNat s.size)); have h11 : KR B (w10.setCell ⟨rb, 0, none⟩ (.string (s.extract (8 : Int).toNat s.size))) rb (l2.drop 8) false := ⟨hrB, _, by rw [← hsl]; exact bytesI_drop s 8, by simpa using hrc11⟩; have hk11 := hk10.trans (KeepR.set rb 0 w10 (.string (s.extract (8 : Int).toNat s.size))); have hblk11 := hblk10.keep (K := fun x => x ≠ rb) ((Keep.refl _ w10).setCell (p := ⟨rb, 0, none⟩) (fun hk => hk rfl) (.string (s.extract (8 : Int).toNat s.size))) hvr; refine K.dl ?_; refine WD.done (by kernel_rfl) ?_; refine K.kgo ?_; exact WQ.meet (.mk 5 Z 0 noT [] [], _, l2.drop 8, false) ⟨rfl, trivial⟩ ⟨hblk11, isVo_leaf (by omega) hZr (by omega) (by decide), h11, hk11, hfin⟩
  by_cases k67 : c = 80 ∨ c = 96
  · have hem0 : em = false := by cases em with | false => rfl | true => have := (hnil rfl).2; omega
    subst hem0; obtain ⟨kk, hkk⟩ : ∃ kk, kk = c / 16 + 1 := ⟨_, rfl⟩; have hok : ∀ (t : ByteArray) (l4 : List Int) (b4 : Bool), t.size + l4.length ≤ l2.length → (∀ b r2, (bad || false) = false → txR l2 [] = some (b, r2) → t = strOfNums b ∧ l4 = r2 ∧ b4 = false) → KOut (m + 1) l bad (.mk kk 0 0 t [] []) l4 b4 := fun t l4 b4 ht hx => hcons rfl rfl (.leaf (by simp only [List.length_cons]; omega) fun x r q0 q1 q2 q3 => by
      obtain ⟨e, -⟩ | ⟨e, -⟩ | ⟨e, -⟩ | ⟨e, -⟩ | ⟨-, t0, -, rfl, e2⟩ | ⟨e, -⟩ | ⟨e, -⟩ := kinv q1 q3 <;> (first | omega | skip); have h8 : txR l2 [] = some (t0.toList.map fun c => (c.toNat : Int), r) := by
        rw [e2, textK]; have := txR_enc t0.toList [] r
        simpa [List.append_assoc] using this
      obtain ⟨rfl, rfl, rfl⟩ := hx _ _ (by rw [q0]; rfl) h8; exact ⟨by rw [bytes_back, hkk], rfl, rfl⟩)
    rcases k67 with k6 | k7
    all_goals
      subst c; have hkk : kk = _ := hkk; refine K.kgo ?_; refine WL.as 82 (.int .i64 kk) rfl (congrArg (Value.int .i64) hkk.symm) ?_; refine WL.store (v := .int .i64 kk) rfl rfl rfl rfl rfl rfl (by kernel_rfl) (hblk3.cell 0 (by simp)) (hblk3.free 0) ?_; obtain ⟨h5, hk5⟩ := stB (i := 0) (.int .i64 kk) h3 hk3; have hblk5 := hblk3.set 0 (.int .i64 kk); generalize w2.setCell ⟨vb, 0, none⟩ (.int .i64 kk) = w5 at h5 hk5 hblk5 ⊢; simp only [List.set_cons_zero] at hblk5; refine K.kgo ?_; refine WL.call rfl rfl rfl rfl rfl Try.func42 rfl (by kernel_rfl) (ktext_two h5 (by have := hk5.size; omega) hl2) ?_; rintro _ w4 ⟨t, l4, b4, rfl, h4, ht, hk4, hx⟩; refine ⟨_, rfl, ?_⟩; have hblk4 := hblk5.keep hk4 ⟨hblk5.lt, by omega⟩; refine K.kgo ?_; refine WL.store (v := .string t) rfl rfl rfl rfl rfl rfl (by kernel_rfl) (hblk4.cell 3 (by simp)) (hblk4.free 3) ?_; obtain ⟨h6, hk6⟩ := stB (i := 3) (.string t) h4 (hk5.trans hk4); have hblk6 := hblk4.set 3 (.string t); refine K.kgo ?_; exact WQ.meet (.mk kk 0 0 t [] [], _, l4, b4) ⟨rfl, trivial⟩ ⟨hblk6, isVo_leaf (by omega) (by omega) (by omega) (by omega), h6, hk6, hok t l4 b4 ht hx⟩
  by_cases k8 : c = 112
  · subst k8
    have hem0 : em = false := by cases em with | false => rfl | true => have := (hnil rfl).2; omega
    subst hem0; refine K.kgo ?_; refine WL.store (v := .int .i64 8) rfl rfl rfl rfl rfl rfl (by kernel_rfl) (hblk3.cell 0 (by simp)) (hblk3.free 0) ?_; obtain ⟨h5, hk5⟩ := stB (i := 0) (.int .i64 8) h3 hk3; have hblk5 := hblk3.set 0 (.int .i64 8); generalize w2.setCell ⟨vb, 0, none⟩ (.int .i64 8) = w5 at h5 hk5 hblk5 ⊢; simp only [List.set_cons_zero] at hblk5; rw [Bool.or_false] at h5; refine K.kgo ?_; refine WC.loop (fun i : List V × List Int × Bool => [(0, .pointer (some ⟨rb, 0, none⟩)), (1, .int .i64 d), (4, .pointer (some ⟨vb, 0, none⟩))])
      (fun i wr => (∃ sn sk q, KidsW rb vb (m + 1) 8 w wr [] i.1 sn sk q) ∧ KR B wr rb i.2.1 i.2.2 ∧ KL m l2 bad i.1 i.2.1 i.2.2) (fun i => 2 * i.2.1.length + (if i.2.2 then 0 else 1)) ([], l2, bad)
      ⟨rfl, rfl, rfl, trivial⟩ ⟨⟨_, _, fun _ => False, hblk5, OwnE.nil _ _ _ _ _ _, OwnE.nil _ _ _ _ _ _, (fun g hg => by cases hg), (fun b hb => hb.elim), hk5, hvbe, by omega⟩, h5, KL.start⟩ ?_
    rintro ⟨ks, li, bi⟩ wr ⟨⟨sn, sk, q, hK⟩, hr, hL⟩; simp only at hK hr hL ⊢; have hcnt := hL.count; obtain ⟨rs, -, hrb⟩ := hr.ex; have hlw : li.length ≤ l2.length := by have := hL.wt 0; cases bi <;> simp at this <;> omega
    have hwr := hK.keep.size; refine K.kgo ?_; refine WL.load rfl rfl rfl rfl rfl rfl (hrb.cell 1 (by simp)) ?_; cases bi with
    | true =>
      refine K.kgo ?_; exact WQ.meet (.mk 8 0 0 noT [] ks, _, li, true) ⟨rfl, trivial⟩ (kids_end (by omega) hK hr (hcons rfl rfl (hL.stop (Nat.le_refl _))))
    | false =>
      refine K.kgo ?_; refine WL.call rfl rfl rfl rfl rfl Try.func43 rfl (by kernel_rfl) (kends_any hr) ?_; rintro _ w6 ⟨rfl, h6, hk6⟩; refine ⟨_, rfl, ?_⟩; have hK6 := hK.read hk6
      by_cases h0 : nth li 0 = 0
      · rw [if_pos h0] at h6
        have hd1 := hL.done h0; generalize nth li 0 = c0 at h0 ⊢; refine K.kgo ?_; exact WQ.meet (.mk 8 0 0 noT [] ks, _, li.drop 1, false || li.isEmpty) ⟨rfl, trivial⟩ (kids_end (by omega) hK6 h6 (hcons rfl rfl hd1))
      · rw [if_neg h0] at h6
        have hstep := fun v l' b' => @KL.step m l' l2 li bad b' v ks hL h0; generalize nth li 0 = c0 at h0 ⊢; have hw6 := hk6.size; refine K.kgo ?_; refine WC.drawn 9 (fun wx => VBlk 37 wx vb (rowV 8 sn sk)) fun w15 hd5 => ?_; have hK5 := hK6.below (hd5.below _); have hr5 := h6.keep (Keep.of_below (hd5.below w6.heap.size)) fun b hb => by omega
        have hsz5 : w6.heap.size ≤ w15.heap.size := (hd5.below 0).size; have hS := hK5.blk; refine K.fr [0] hS ?_; refine K.wl 1 [7, 8, 9] rfl rfl rfl rfl rfl rfl rfl (fun wx hx => hx.cell 5 (by simp)) hS ?_; refine K.fr [2, 3, 4] hS ?_; refine K.wo 5 ?_; refine WL.call rfl rfl rfl rfl rfl Try.func26 rfl (by kernel_rfl) (ih (d + 1) (by omega) hr5 (by omega) (by omega)) ?_; rintro _ w16 ⟨v, cs, l6, e6, rfl, hv6, hr6, hk6, ho6⟩; refine ⟨_, rfl, ?_⟩; have hvb5 := hK5.blk.lt; have hsn5 : ∀ g, (sn).ownBlock = some g → g < w15.heap.size := fun g hg => hK5.names.lt hg; have hsk5 : ∀ g, sk.ownBlock = some g → g < w15.heap.size := fun g hg => hK5.kids.lt hg; have hK6 := hK5.read hk6; refine WL.nil (WQ.dk (.inr hK6.blk) ?_); refine K.wo 6 ?_; refine WL.lit1 rfl rfl rfl rfl rfl rfl rfl hv6.len ⟨by omega, by omega⟩ (by kernel_rfl) fun g7 w17 hf7 => ?_; have hK7 := (hK6.below hf7.below).widen (S := w15.heap.size) (by have := hK5.keep.size; omega) hvb5 hsn5 hsk5; have hr7 := hr6.keep (Keep.of_below hf7.below) fun b hb => by have := hk6.size; omega
        have hv7 := hv6.there.keep (O' := fun b => q b ∨ (w15.heap.size ≤ b ∧ b < w17.heap.size)) (Keep.of_below hf7.below) (fun b _ h => h) fun b hb => .inr ⟨hb.1, by have := hf7.size; omega⟩; refine WL.nil (WQ.dk (.inr hK7.blk) ?_); refine K.wo 7 ?_; refine WL.snoc rfl rfl rfl rfl elemV6 rfl hK7.kids rfl hf7.blk hv6.one hv6.len hv7 (by omega) (by omega) fun sk8 w18 ho8 hg8 => ?_; obtain ⟨hb8, hK9⟩ := hK7.setK ho8 hg8; refine K.di hb8 ?_; have hsk8 : sk8.oneCell' = true := ho8.one; refine K.wo 8 ?_; refine WL.pure rfl rfl rfl rfl ?_; refine K.di hb8 ?_; refine K.wo 9 ?_; refine WL.store rfl rfl rfl rfl rfl hsk8 (by kernel_rfl) (hb8.cell 5 (by simp)) (hb8.free 5) ?_; have hr9 : KR B (w18.setCell ⟨vb, 5, none⟩ sk8) rb l6 e6 := (hr7.keep hg8.1 fun b hb => ⟨by have := hf7.size; have := hk6.size; omega, fun e => by have := (hK7.kids.own e).1; omega⟩).keep (K := fun b => b ≠ vb) ((Keep.refl _ w18).setCell (fun hk => hk rfl) _) fun b hb => by omega
        generalize w18.setCell ⟨vb, 5, none⟩ sk8 = w19 at hK9 hr9; refine K.dl ?_; refine WD.done (by kernel_rfl) ?_; refine K.kgo ?_; exact WQ.again (ks ++ [v], l6, e6) ⟨rfl, rfl, rfl, trivial⟩ ⟨⟨sn, sk8, _, hK9⟩, hr9, hstep v l6 e6 ho6⟩ (by
          show 2 * l6.length + (if e6 then 0 else 1) < 2 * li.length + 1
          have := ho6.len; cases e6 with
          | true => simp; omega
          | false => have := ho6.less; simp; omega)
  by_cases k9 : c = 128
  · subst k9
    have hem0 : em = false := by cases em with | false => rfl | true => have := (hnil rfl).2; omega
    subst hem0; refine K.kgo ?_; refine WL.store (v := .int .i64 9) rfl rfl rfl rfl rfl rfl (by kernel_rfl) (hblk3.cell 0 (by simp)) (hblk3.free 0) ?_; obtain ⟨h5, hk5⟩ := stB (i := 0) (.int .i64 9) h3 hk3; have hblk5 := hblk3.set 0 (.int .i64 9); generalize w2.setCell ⟨vb, 0, none⟩ (.int .i64 9) = w5 at h5 hk5 hblk5 ⊢; simp only [List.set_cons_zero] at hblk5; rw [Bool.or_false] at h5; refine K.kgo ?_; refine WC.loop (fun i : List ByteArray × List V × List Int × Bool => [(0, .pointer (some ⟨rb, 0, none⟩)), (1, .int .i64 d), (4, .pointer (some ⟨vb, 0, none⟩))])
      (fun i wr => (∃ sn sk q, KidsW rb vb (m + 1) 9 w wr i.1 i.2.1 sn sk q) ∧ KR B wr rb i.2.2.1 i.2.2.2 ∧ PL m l2 bad i.1 i.2.1 i.2.2.1 i.2.2.2) (fun i => 2 * i.2.2.1.length + (if i.2.2.2 then 0 else 1)) ([], [], l2, bad)
      ⟨rfl, rfl, rfl, trivial⟩ ⟨⟨_, _, fun _ => False, hblk5, OwnE.nil _ _ _ _ _ _, OwnE.nil _ _ _ _ _ _, (fun g hg => by cases hg), (fun b hb => hb.elim), hk5, hvbe, by omega⟩, h5, PL.start⟩ ?_
    rintro ⟨ns, ks, li, bi⟩ wr ⟨⟨sn, sk, q, hK⟩, hr, hL⟩; simp only at hK hr hL ⊢; have hcnt := hL.count; have hnk := hL.len; obtain ⟨rs, -, hrb⟩ := hr.ex; have hlw : li.length ≤ l2.length := by have := hL.wt 0; cases bi <;> simp at this <;> omega
    have hwr := hK.keep.size; refine K.kgo ?_; refine WL.load rfl rfl rfl rfl rfl rfl (hrb.cell 1 (by simp)) ?_; cases bi with
    | true =>
      refine K.kgo ?_; exact WQ.meet (.mk 9 0 0 noT ns ks, _, li, true) ⟨rfl, trivial⟩ (kids_end (by omega) hK hr (hcons rfl rfl (hL.stop (Nat.le_refl _))))
    | false =>
      refine K.kgo ?_; refine WL.call rfl rfl rfl rfl rfl Try.func43 rfl (by kernel_rfl) (kends_any hr) ?_; rintro _ w6 ⟨rfl, h6, hk6⟩; refine ⟨_, rfl, ?_⟩; have hK6 := hK.read hk6
      by_cases h0 : nth li 0 = 0
      · rw [if_pos h0] at h6
        have hd1 := hL.done h0; generalize nth li 0 = c0 at h0 ⊢; refine K.kgo ?_; exact WQ.meet (.mk 9 0 0 noT ns ks, _, li.drop 1, false || li.isEmpty) ⟨rfl, trivial⟩ (kids_end (by omega) hK6 h6 (hcons rfl rfl hd1))
      · rw [if_neg h0] at h6
        cases li with
        | nil => exact (h0 rfl).elim
        | cons c0 li2 =>
        have h0 : c0 ≠ 0 := h0; have hw6 := hk6.size; simp only [List.length_cons] at hlw; rw [show nth (c0 :: li2) 0 = c0 from rfl]; refine K.kgo ?_; refine WL.mid (fun _ : Bool => [(0, .pointer (some ⟨rb, 0, none⟩)), (1, .int .i64 d), (4, .pointer (some ⟨vb, 0, none⟩))]) (fun b1 wx => (c0 = 1 → b1 = false) ∧ KidsW rb vb (m + 1) 9 w wx ns ks sn sk q ∧ KR B wx rb li2 b1) rfl ?_ ?_
        · refine WL.call rfl rfl rfl rfl rfl Try.func39 rfl (by kernel_rfl) (kbyte_any h6) ?_
          rintro _ w7 ⟨rfl, h7, hk7⟩; refine ⟨_, rfl, ?_⟩; have h7 : KR B w7 rb li2 false := h7; rw [show nth (c0 :: li2) 0 = c0 from rfl]; have hK7 := hK6.read hk7; obtain ⟨rs7, -, hrc7⟩ := h7.ex
          by_cases h1 : c0 = 1
          · refine K.kgo ?_
            refine WL.load rfl rfl rfl rfl rfl rfl (hrc7.cell 1 (by simp)) ?_; refine K.kgo ?_; refine WL.store rfl rfl rfl rfl rfl rfl (by kernel_rfl) (hrc7.cell 1 (by simp)) (hrc7.free 1) ?_; refine K.kgo ?_; exact WQ.meet false ⟨rfl, rfl, rfl, trivial⟩ ⟨fun _ => rfl, hK7.read (KeepR.set _ _ _ _), h7.setB false⟩
          · refine K.kgo ?_
            refine WL.store rfl rfl rfl rfl rfl rfl (by kernel_rfl) (hrc7.cell 1 (by simp)) (hrc7.free 1) ?_; refine K.kgo ?_; exact WQ.meet true ⟨rfl, rfl, rfl, trivial⟩ ⟨fun h => (h1 h).elim, hK7.read (KeepR.set _ _ _ _), h7.setB true⟩
        clear h6 hK6 hK hr; rintro b1 w7 ⟨hb1, hK7, h7⟩; have hw7 := hK7.keep.size; refine K.kgo ?_; refine WC.drawn 7 (fun wx => VBlk 37 wx vb (rowV 9 sn sk)) fun w5 hd5 => ?_; have hK5 := hK7.below (hd5.below _); have hr5 := h7.keep (Keep.of_below (hd5.below w7.heap.size)) fun b hb => by omega
        have hsz5 : w7.heap.size ≤ w5.heap.size := (hd5.below 0).size; have hS := hK5.blk; refine K.fr [0] hS ?_; refine K.wl 1 [5, 6, 7] rfl rfl rfl rfl rfl rfl rfl (fun wx hx => hx.cell 4 (by simp)) hS ?_; refine K.fr [2] hS ?_; refine K.wo 3 ?_; refine WL.call rfl rfl rfl rfl rfl Try.func42 rfl (by kernel_rfl) (ktext_two hr5 (by omega) (by omega)) ?_; rintro _ w6 ⟨t, lt, et, rfl, hr6, ht, hk6', hot⟩; refine ⟨_, rfl, ?_⟩; have hK6 := hK5.read hk6'; refine WL.nil (WQ.dk (.inr hK6.blk) ?_); refine K.wo 4 ?_; refine WL.lit1 (cs := [.string t]) rfl rfl rfl rfl rfl rfl rfl rfl ⟨by omega, by omega⟩ (by kernel_rfl) fun g7 w7' hf7 => ?_; have hK7' := hK6.below hf7.below; have hr7 := hr6.keep (Keep.of_below hf7.below) fun b hb => by have := hk6'.size; omega
        refine WL.nil (WQ.dk (.inr hK7'.blk) ?_); refine K.wo 5 ?_; refine WL.snoc (y := t) rfl rfl rfl rfl elemS1 rfl hK7'.names rfl hf7.blk (by intro u hu; simp at hu; rw [hu]; rfl) rfl ⟨rfl, by omega⟩ (by omega) (by omega) fun sn8 w8 ho8 hg8 => ?_; obtain ⟨hb8, hK9⟩ := hK7'.setN ho8 hg8; refine K.di hb8 ?_; have hsn8 : sn8.oneCell' = true := ho8.one; refine K.wo 6 ?_; refine WL.pure rfl rfl rfl rfl ?_; refine K.di hb8 ?_; refine K.wo 7 ?_; refine WL.store rfl rfl rfl rfl rfl hsn8 (by kernel_rfl) (hb8.cell 4 (by simp)) (hb8.free 4) ?_; have hr9 : KR B (w8.setCell ⟨vb, 4, none⟩ sn8) rb lt et := (hr7.keep hg8.1 fun b hb => ⟨by have := hf7.size; have := hk6'.size; omega, fun e => by have := (hK7'.names.own e).1; omega⟩).keep (K := fun b => b ≠ vb) ((Keep.refl _ w8).setCell (fun hk => hk rfl) _) fun b hb => by omega
        generalize w8.setCell ⟨vb, 4, none⟩ sn8 = w9 at hK9 hr9; refine K.dl ?_; refine WD.done (by kernel_rfl) ?_; clear hK7 hr7 hb8 hK6 hr6 hK5 hr5 hS hk6' ho8 hg8 hK7' h7; have hw9 := hK9.keep.size; have hltl : lt.length ≤ l2.length := by omega
        refine K.kgo ?_; refine WC.drawn 9 (fun wx => VBlk 37 wx vb (rowV 9 sn8 sk)) fun w15 hd5 => ?_; have hK5 := hK9.below (hd5.below _); have hr5 := hr9.keep (Keep.of_below (hd5.below w9.heap.size)) fun b hb => by omega
        have hsz5 : w9.heap.size ≤ w15.heap.size := (hd5.below 0).size; have hS := hK5.blk; refine K.fr [0] hS ?_; refine K.wl 1 [7, 8, 9] rfl rfl rfl rfl rfl rfl rfl (fun wx hx => hx.cell 5 (by simp)) hS ?_; refine K.fr [2, 3, 4] hS ?_; refine K.wo 5 ?_; refine WL.call rfl rfl rfl rfl rfl Try.func26 rfl (by kernel_rfl) (ih (d + 1) (by omega) hr5 (by omega) (by omega)) ?_; rintro _ w16 ⟨v, cs, l6, e6, rfl, hv6, hr6, hk6, ho6⟩; refine ⟨_, rfl, ?_⟩; have hvb5 := hK5.blk.lt; have hsn5 : ∀ g, (sn8).ownBlock = some g → g < w15.heap.size := fun g hg => hK5.names.lt hg; have hsk5 : ∀ g, sk.ownBlock = some g → g < w15.heap.size := fun g hg => hK5.kids.lt hg; have hK6 := hK5.read hk6; refine WL.nil (WQ.dk (.inr hK6.blk) ?_); refine K.wo 6 ?_; refine WL.lit1 rfl rfl rfl rfl rfl rfl rfl hv6.len ⟨by omega, by omega⟩ (by kernel_rfl) fun g7 w17 hf7 => ?_; have hK7 := (hK6.below hf7.below).widen (S := w15.heap.size) (by have := hK5.keep.size; omega) hvb5 hsn5 hsk5; have hr7 := hr6.keep (Keep.of_below hf7.below) fun b hb => by have := hk6.size; omega
        have hv7 := hv6.there.keep (O' := fun b => q b ∨ (w15.heap.size ≤ b ∧ b < w17.heap.size)) (Keep.of_below hf7.below) (fun b _ h => h) fun b hb => .inr ⟨hb.1, by have := hf7.size; omega⟩; refine WL.nil (WQ.dk (.inr hK7.blk) ?_); refine K.wo 7 ?_; refine WL.snoc rfl rfl rfl rfl elemV6 rfl hK7.kids rfl hf7.blk hv6.one hv6.len hv7 (by omega) (by omega) fun sk8 w18 ho8 hg8 => ?_; obtain ⟨hb8, hKx⟩ := hK7.setK ho8 hg8; refine K.di hb8 ?_; have hsk8 : sk8.oneCell' = true := ho8.one; refine K.wo 8 ?_; refine WL.pure rfl rfl rfl rfl ?_; refine K.di hb8 ?_; refine K.wo 9 ?_; refine WL.store rfl rfl rfl rfl rfl hsk8 (by kernel_rfl) (hb8.cell 5 (by simp)) (hb8.free 5) ?_; have hrx : KR B (w18.setCell ⟨vb, 5, none⟩ sk8) rb l6 e6 := (hr7.keep hg8.1 fun b hb => ⟨by have := hf7.size; have := hk6.size; omega, fun e => by have := (hK7.kids.own e).1; omega⟩).keep (K := fun b => b ≠ vb) ((Keep.refl _ w18).setCell (fun hk => hk rfl) _) fun b hb => by omega
        generalize w18.setCell ⟨vb, 5, none⟩ sk8 = w19 at hKx hrx; refine K.dl ?_; refine WD.done (by kernel_rfl) ?_; refine K.kgo ?_; exact WQ.again (ns ++ [t], ks ++ [v], l6, e6) ⟨rfl, rfl, rfl, trivial⟩ ⟨⟨sn8, sk8, _, hKx⟩, hrx, hL.step h0 ht (fun e b r2 h => hot b r2 (hb1 e) h) ho6⟩ (by
          show 2 * l6.length + (if e6 then 0 else 1) < 2 * (li2.length + 1) + 1
          have := ho6.len; cases e6 <;> simp <;> omega)
  · have hfin : KOut (m + 1) l bad (.mk 0 0 0 noT [] []) l2 true := by
      cases em with
      | true =>
        obtain ⟨rfl, -⟩ := hnil rfl; have : l2 = [] := List.eq_nil_of_length_eq_zero (by simpa using hll); rw [this]; exact .nil
      | false => exact hcons rfl rfl (.none (by simp) fun x r q0 q1 q2 q3 => by
          obtain ⟨e, -⟩ | ⟨e, -⟩ | ⟨e, -⟩ | ⟨e, -⟩ | ⟨e, -⟩ | ⟨e, -⟩ | ⟨e, -⟩ := kinv q1 q3 <;> omega)
    have hvr : vb ≠ rb := by omega
    obtain ⟨hm1, hm2, hm3⟩ := h3.mark hk3 hblk3 hvr; obtain ⟨s3, -, hrc3⟩ := h3.ex; refine K.kgo ?_; refine WL.store rfl rfl rfl rfl rfl rfl (by kernel_rfl) (hrc3.cell 1 (by simp)) (hrc3.free 1) ?_; refine K.kgo ?_; exact WQ.meet (.mk 0 0 0 noT [] [], _, l2, true) ⟨rfl, trivial⟩ ⟨hm3, isVo_leaf (by omega) (by omega) (by omega) (by decide), hm1, hm2, hfin⟩

theorem kvalue_any : ∀ (m : Nat) {B rb : Nat} {w : World} {l : List Int} {bad : Bool} (d : Int), d = 17 - (m : Int) → m ≤ 16 → KR B w rb l bad → B ≤ w.heap.size → l.length ≤ 1000000 → Calls Try.prog 26 #[.pointer (some ⟨rb, 0, none⟩), .int .i64 d] w (KvPost m B rb w l bad)
  | 0, B, rb, w, l, bad, d, hd, _, h, hB, _ => by
    refine enter (args := [.pointer (some ⟨rb, 0, none⟩), .int .i64 d]) Try.func26 rfl Try.ntmps26 rfl ?_; refine K.kgo ?_; refine WL.alloc (z := .agg #[.int .i64 0, .int .i64 0, .int .i64 0, .string ByteArray.empty, .slice none 0 0, .slice none 0 0]) rfl rfl rfl rfl (fun _ => by kernel_rfl) fun vb w1 hf => ?_; have hf' : Fresh w vb w1 37 [.int .i64 0, .int .i64 0, .int .i64 0, .string ByteArray.empty, .slice none 0 0, .slice none 0 0] := hf; clear hf; have hvbe := hf'.eq; have hrB := h.rlt; have h1 : KR B w1 rb l bad := h.keep (Keep.of_below hf'.below) fun b hb => Nat.lt_of_lt_of_le hb hB; have hk1 : KeepR rb w w1 := KeepR.below hf'.below; have hblk1 := hf'.blk; obtain ⟨s3, -, hrc3⟩ := h1.ex; obtain ⟨hm1, hm2, hm3⟩ := h1.mark hk1 hblk1 (by omega); refine K.kgo ?_; refine WL.store rfl rfl rfl rfl rfl rfl (by kernel_rfl) (hrc3.cell 1 (by simp)) (hrc3.free 1) ?_; refine K.kgo ?_; have hv : ∀ wx, IsVo (fun b => w.heap.size ≤ b ∧ b ≠ vb) 1 wx (.mk 0 0 0 noT [] []) _ := fun _ => isVo_leaf (k := 0) (n := 0) (s := 0) (t := noT) (by omega) (by omega) (by omega) (by decide); refine WL.loadMid rfl rfl rfl rfl rfl rfl (VBlk.rangeAt hm3) rfl ?_; refine WL.storeRow rfl rfl rfl rfl rfl rfl hm3 rfl rfl (hv w1).one ?_; refine K.kgo ?_; exact WQ.retC rfl rfl rfl rfl (hm3.setRow _) (kv_box (hB := hB) hvbe hrB (hv _) hm1 hm2 (.deep (Nat.le_refl _)))
  | m + 1, _, _, _, _, _, d, hd, hm, h, hB, hl => kvalue_step m (fun d hd h hB hl => kvalue_any m d hd (by omega) h hB hl) d hd hm h hB hl
end K
end Go.Proofs.Ytfpakjbaiohcaaa

namespace Go.Proofs.Ytfpakjbaiohcaaa
open Go.RowKit
namespace K

theorem ret_u64 {x y : Int} (h : x = y) : Ending.returned (.int .u64 x) = .returned (.int .u64 y) := by rw [h]
theorem abs_any (x : Int) (w : World) (h0 : -9223372036854775808 ≤ x) (h1 : x ≤ 9223372036854775807) :
    Calls Try.prog 37 #[.int .i64 x] w fun e w' => e = .returned (.int .u64 (x.natAbs : Nat)) ∧ w = w' := by
  refine enter (args := [.int .i64 x]) Try.func37 rfl Try.ntmps37 rfl ?_
  by_cases hn : x < 0
  · refine K.kgo ?_
    refine WQ.ret1 rfl rfl ⟨ret_u64 ?_, rfl⟩; rw [IntKind.wrap_u64, IntKind.wrap_u64]; omega
  · refine K.kgo ?_
    refine WQ.ret1 rfl rfl ⟨ret_u64 ?_, rfl⟩; rw [IntKind.wrap_u64]; omega

def dz : Nat → Nat → List Nat
  | 0, _ => []
  | f + 1, c => c % 10 :: if c / 10 = 0 then [] else dz f (c / 10)
theorem dz_eq : ∀ (f c : Nat), 0 < c → c < 10 ^ f → dz f c = digsF f c
  | 0, c, h, h1 => by simp at h1; omega
  | f + 1, c, h, h1 => by
    unfold dz digsF; rw [if_neg (show ¬ c = 0 by omega)]
    by_cases h0 : c / 10 = 0
    · rw [if_pos h0, h0]; cases f <;> simp [digsF]
    · rw [if_neg h0, dz_eq f (c / 10) (by omega) (by rw [Nat.pow_succ] at h1; omega)]
def ch (d : Nat) : UInt8 := UInt8.ofNat (48 + d)
def decS (u : Nat) : List UInt8 := ((dz 20 u).reverse).map ch
theorem dec_any (u : Nat) (w : World) (hu : u < 18446744073709551616) :
    Calls Try.prog 58 #[.int .u64 u] w fun e w' => (∃ s, e = .returned (.string s) ∧ s.toList = decS u) ∧ Below w.heap.size w w' := by
  refine enter (args := [.int .u64 u]) Try.func58 rfl Try.ntmps58 rfl ?_; refine K.kgo ?_; refine WC.loop (fun i : Nat × Nat × List Nat × ByteArray => [(0, .int .u64 i.2.1), (3, .string i.2.2.2)])
    (fun i w' => (dz 20 u = i.2.2.1 ++ dz i.1 i.2.1 ∧ i.1 + i.2.2.1.length = 20 ∧ i.2.1 < 10 ^ i.1 ∧ i.2.1 ≤ u ∧ (i.2.2.1 ≠ [] → 0 < i.2.1)) ∧ i.2.2.2.toList = (i.2.2.1.reverse).map ch ∧ Below w.heap.size w w')
    (fun i => i.1) (20, u, [], ⟨#[]⟩) ⟨rfl, rfl, trivial⟩ ⟨⟨rfl, rfl, by show u < 10 ^ 20; omega, Nat.le_refl _, fun h => (h rfl).elim⟩, (by show (ByteArray.mk #[]).toList = []; decide +kernel), Below.refl _ _⟩ ?_
  rintro ⟨f, c, A, s⟩ wr ⟨⟨hA, hf, hc, hcu, hpos⟩, hs, hbel⟩; simp only at hA hf hc hcu hpos hs hbel ⊢; have hsz : s.size = A.length := by have := congrArg List.length hs; rw [ByteArray.toList_eq, Array.length_toList] at this; simpa using this
  obtain ⟨f, rfl⟩ : ∃ f', f = f' + 1 := ⟨f - 1, by
    cases f with
    | zero =>
      have hc0 : c = 0 := by simp at hc; omega
      have : A ≠ [] := fun e => by rw [e] at hf; simp at hf
      have := hpos this; omega
    | succ f => rfl⟩
  have hw : IntKind.u8.wrap (IntKind.u64.wrap (48 + (c : Int).tmod 10)) = ((48 + c % 10 : Nat) : Int) := by
    rw [IntKind.wrap_u8, IntKind.wrap_u64, Int.tmod_eq_emod_of_nonneg (by omega)]; omega
  have hq : IntKind.u64.wrap ((c : Int).tdiv 10) = ((c / 10 : Nat) : Int) := by
    rw [IntKind.wrap_u64, Int.tdiv_eq_ediv_of_nonneg (by omega)]; omega
  refine K.kgo ?_; refine WL.lit rfl rfl rfl rfl rfl rfl rfl fun b w1 hb hb1 _ => ?_; rw [hw] at hb; refine WL.strOf rfl rfl rfl rfl rfl rfl rfl rfl hb.sl ?_; have hch : (strOfNums [((48 + c % 10 : Nat) : Int)]).toList = [ch (c % 10)] := by
    rw [ByteArray.toList_eq, strOfNums_data]
    rfl
  have hcz : (strOfNums [((48 + c % 10 : Nat) : Int)]).size = 1 := by rw [strOfNums_size]; rfl
  rw [hw]; generalize strOfNums [((48 + c % 10 : Nat) : Int)] = x at hch hcz; refine K.kgo ?_; refine WL.concat rfl rfl rfl rfl rfl rfl (by omega) ?_; have hxs : (x ++ s).toList = ((A ++ [c % 10]).reverse).map ch := by
    rw [ByteArray.toList_eq, ByteArray.data_append, Array.toList_append, ← ByteArray.toList_eq, ← ByteArray.toList_eq, hch, hs]; simp
  generalize x ++ s = y at hxs; refine K.kgo ?_; have hbel1 : Below w.heap.size w w1 := hbel.trans (hb1.mono hbel.size)
  by_cases h0 : c / 10 = 0
  · refine WC.as 15 (.bool true) rfl (congrArg Value.bool (decide_eq_true (by rw [hq, h0]; rfl))) ?_
    refine K.kgo ?_; refine WQ.ret1 rfl rfl ⟨⟨y, rfl, ?_⟩, hbel1⟩; rw [hxs]; unfold decS; rw [hA]; unfold dz; rw [if_pos h0]
  · refine WC.as 15 (.bool false) rfl (congrArg Value.bool (decide_eq_false (by rw [hq]; omega))) ?_
    refine K.kgo ?_; refine WQ.again (f, c / 10, A ++ [c % 10], y) ⟨congrArg (fun z => some (Value.int .u64 z)) hq, rfl, trivial⟩ ⟨⟨?_, by simp; omega, by rw [Nat.pow_succ] at hc; show c / 10 < 10 ^ f; omega, by show c / 10 ≤ u; omega, fun _ => by show 0 < c / 10; omega⟩, hxs, hbel1⟩ (by show f < f + 1; omega)
    show dz 20 u = (A ++ [c % 10]) ++ dz f (c / 10)
    rw [hA]
    conv => lhs; unfold dz
    rw [if_neg h0]; simp

theorem rshort_any (v : Int) (w : World) :
    Calls Try.prog 59 #[.int .u32 v] w fun e w' => ∃ b, e = .returned b ∧ Bu w' b (shortI v) ∧ Below w.heap.size w w' ∧ ∀ g, b.ownBlock = some g → w.heap.size ≤ g := by
  refine enter (args := [.int .u32 v]) Try.func59 rfl Try.ntmps59 rfl ?_; refine K.kgo ?_; refine WL.lit rfl rfl rfl rfl rfl rfl rfl fun b w' hb h1 h2 => ?_; refine K.kgo ?_; refine WQ.ret1 rfl rfl ⟨b, rfl, ?_, h1, h2⟩; simp only [IntKind.wrap_u8] at hb; exact hb
theorem rbig_any (v : Int) (w : World) (h0 : 0 ≤ v) (hv : v < 18446744073709551616) :
    Calls Try.prog 51 #[.int .u64 v] w fun e w' => ∃ b, e = .returned b ∧ Bu w' b (bigI v) ∧ Below w.heap.size w w' ∧ ∀ g, b.ownBlock = some g → w.heap.size ≤ g := by
  refine enter (args := [.int .u64 v]) Try.func51 rfl Try.ntmps51 rfl ?_; have e1 : IntKind.u32.wrap (v / ((2 ^ min 32 IntKind.u64.bits : Nat) : Int)) = v / 4294967296 := by
    rw [show ((2 ^ min 32 IntKind.u64.bits : Nat) : Int) = 4294967296 from rfl, IntKind.wrap_u32]; omega
  have e2 : IntKind.u32.wrap v = v % 4294967296 := IntKind.wrap_u32 v; refine K.kgo ?_; refine WL.call rfl rfl rfl rfl rfl Try.func59 rfl (by kernel_rfl) (by rw [e1]; exact rshort_any _ w) ?_; rintro e w1 ⟨b1, rfl, hb1, k1, g1⟩; refine ⟨b1, rfl, ?_⟩; refine K.kgo ?_; refine WL.call rfl rfl rfl rfl rfl Try.func59 rfl (by kernel_rfl) (by rw [e2]; exact rshort_any _ w1) ?_; rintro e w2 ⟨b2, rfl, hb2, k2, g2⟩; refine ⟨b2, rfl, ?_⟩; refine WL.app rfl rfl rfl rfl rfl (hb1.below k2) rfl hb2.sl (by simp [shortI]) fun b w3 hb gr => ?_; refine K.kgo ?_; refine WQ.ret1 rfl rfl ⟨b, rfl, hb, ?_, ?_⟩
  · exact (k1.trans (k2.mono k1.size)).trans (gr.old (Nat.le_trans k1.size k2.size) g1)
  · exact gr.own (Nat.le_trans k1.size k2.size) g1

theorem rtexts_any {w : World} {v : Value} {l : List Int} (s : ByteArray) (h : Bu w v l) (hm : l.length + (2 * s.size + 2) ≤ 140737488355328) :
    Calls Try.prog 52 #[v, .string s] w fun e w' => ∃ v', e = .returned v' ∧ Bu w' v' (l ++ textK s.toList) ∧ Grow w v w' v' := by
  have hsl : s.toList.length = s.size := by rw [ByteArray.toList_eq]; rfl
  refine enter (args := [v, .string s]) Try.func52 rfl Try.ntmps52 rfl ?_; refine K.kgo ?_; refine WC.loop (fun i : Nat × Value => [(0, i.2), (1, .string s), (5, .int .i64 i.1)]) (fun i wr => i.1 ≤ s.size ∧ Bu wr i.2 (l ++ textP (s.toList.take i.1)) ∧ Grow w v wr i.2) (fun i => s.size - i.1) (0, v)
    ⟨rfl, rfl, rfl, trivial⟩ ⟨Nat.zero_le _, by simpa [textP] using h, Grow.refl w v⟩ ?_
  rintro ⟨k, vv⟩ wr ⟨hk, hbr, hgr⟩; simp only at hk hbr hgr ⊢
  by_cases hks : k < s.size
  · have hpl : (textP (s.toList.take k)).length ≤ 2 * k := Nat.le_trans (textP_le _) (by rw [List.length_take]; omega)
    have htk : s.toList.take (k + 1) = s.toList.take k ++ [s.toList.getD k 0] := by
      rw [List.take_add_one]; simp [hsl, hks]
    have htp := textP_snoc (s.toList.take k) (s.toList.getD k 0); rw [← htk] at htp; refine K.kgo ?_; refine WL.byte k rfl rfl rfl rfl rfl rfl rfl rfl hks ?_; refine WL.push rfl rfl rfl rfl rfl rfl rfl rfl rfl rfl rfl (fun _ => rfl) rfl hbr (by simp; omega) fun v1 w2 hb2 hg2 => ?_; refine K.kgo ?_; refine WL.byte k rfl rfl rfl rfl rfl rfl rfl rfl hks ?_; generalize s.toList.getD k 0 = c at htp hb2; refine K.kgo ?_; refine WC.condS rfl (fun hc => ?_) (fun hc => ?_)
    · have hc0 : c = 0 := UInt8.toNat.inj (by simpa using Int.ofNat.inj hc)
      rw [if_pos hc0] at htp; subst hc0; refine K.kgo ?_; refine WL.push rfl rfl rfl rfl rfl rfl rfl rfl rfl rfl rfl (fun _ => rfl) rfl hb2 (by simp; omega) fun v2 w3 hb3 hg3 => ?_; refine K.kgo ?_; refine WQ.again (k + 1, v2) ⟨rfl, rfl, rfl, trivial⟩ ⟨hks, ?_, (hgr.trans hg2).trans hg3⟩ (by show s.size - (k + 1) < s.size - k; omega)
      show Bu w3 v2 (l ++ textP (s.toList.take (k + 1)))
      rw [htp]
      simpa using hb3
    · rw [if_neg (fun e => hc (by rw [e]; rfl))] at htp
      refine K.kgo ?_; refine WQ.again (k + 1, v1) ⟨rfl, rfl, rfl, trivial⟩ ⟨hks, ?_, hgr.trans hg2⟩ (by show s.size - (k + 1) < s.size - k; omega)
      show Bu w2 v1 (l ++ textP (s.toList.take (k + 1)))
      rw [htp, ← List.append_assoc]; exact hb2
  · obtain rfl : k = s.size := by omega
    have hpl : (textP (s.toList.take s.size)).length ≤ 2 * s.size := Nat.le_trans (textP_le _) (by rw [List.length_take]; omega); refine K.kgo ?_; refine WL.push rfl rfl rfl rfl rfl rfl rfl rfl rfl rfl rfl (fun _ => rfl) rfl hbr (by simp; omega) fun v1 w2 hb2 hg2 => ?_; refine K.kgo ?_; refine WQ.ret1 rfl rfl ⟨_, rfl, ?_, hgr.trans hg2⟩; rw [← hsl, List.take_length] at hb2; unfold textK; rw [← List.append_assoc]; exact hb2
end K
end Go.Proofs.Ytfpakjbaiohcaaa

namespace Go.Proofs.Ytfpakjbaiohcaaa
open Go.RowKit
namespace K

theorem text_any {w : World} {v : Value} {l : List Int} (s : ByteArray) (h : Bu w v l) (hm : l.length + (2 * s.size + 2) ≤ 140737488355328) :
    Calls Try.prog 33 #[v, .string s] w fun e w' => ∃ v', e = .returned v' ∧ Bu w' v' (l ++ textK s.toList) ∧ Grow w v w' v' := by
  have hsl : s.toList.length = s.size := by rw [ByteArray.toList_eq]; rfl
  refine enter (args := [v, .string s]) Try.func33 rfl Try.ntmps33 rfl ?_; refine K.kgo ?_; refine WL.bytesOf rfl rfl rfl rfl rfl rfl rfl rfl (by omega) fun g c w1 hs1 hb1 hg1 => ?_; refine K.kgo ?_; refine WC.loop (fun i : Nat × Value => [(0, i.2), (8, .slice (some ⟨g, 0, none⟩) s.size c), (9, .int .i64 s.size), (10, .int .i64 i.1)]) (fun i wr => i.1 ≤ s.size ∧ Bu wr i.2 (l ++ textP (s.toList.take i.1)) ∧ Grow w1 v wr i.2) (fun i => s.size - i.1) (0, v)
    ⟨rfl, rfl, rfl, rfl, trivial⟩ ⟨Nat.zero_le _, by simpa [textP] using h.below hb1, Grow.refl w1 v⟩ ?_
  rintro ⟨k, vv⟩ wr ⟨hk, hbr, hgr⟩; simp only at hk hbr hgr ⊢; have hsr : Sl .u8 wr (.slice (some ⟨g, 0, none⟩) s.size c) (bytesI s) := hs1.keep hgr.1 fun b o n c e hb => ⟨hb, fun e2 => by cases e; have := h.lt _ e2; omega⟩
  by_cases hks : k < s.size
  · have hpl : (textP (s.toList.take k)).length ≤ 2 * k := Nat.le_trans (textP_le _) (by rw [List.length_take]; omega)
    have htk : s.toList.take (k + 1) = s.toList.take k ++ [s.toList.getD k 0] := by
      rw [List.take_add_one]; simp [hsl, hks]
    have htp := textP_snoc (s.toList.take k) (s.toList.getD k 0); rw [← htk] at htp; have hck := nth_bytesI s hks; generalize s.toList.getD k 0 = c at htp hck; refine K.kgo ?_; refine WL.idxI k rfl rfl rfl rfl rfl rfl hsr rfl rfl (by rw [bytesI_len]; exact hks) fun p hp => ?_; rw [hck] at hp; refine WL.load rfl rfl rfl rfl rfl rfl hp ?_; refine K.kgo ?_; refine WL.push rfl rfl rfl rfl rfl rfl rfl rfl rfl rfl rfl (fun _ => rfl) rfl hbr (by simp; omega) fun v1 w2 hb2 hg2 => ?_; refine K.kgo ?_; refine WC.condS rfl (fun hc => ?_) (fun hc => ?_)
    · have hc0 : c = 0 := UInt8.toNat.inj (by simpa using Int.ofNat.inj hc)
      rw [if_pos hc0] at htp; subst hc0; refine K.kgo ?_; refine WL.push rfl rfl rfl rfl rfl rfl rfl rfl rfl rfl rfl (fun _ => rfl) rfl hb2 (by simp; omega) fun v2 w3 hb3 hg3 => ?_; refine K.kgo ?_; refine WQ.again (k + 1, v2) ⟨rfl, rfl, rfl, rfl, trivial⟩ ⟨hks, ?_, (hgr.trans hg2).trans hg3⟩ (by show s.size - (k + 1) < s.size - k; omega); rw [htp]
      simpa using hb3
    · rw [if_neg (fun e => hc (by rw [e]; rfl))] at htp
      refine K.kgo ?_; refine WQ.again (k + 1, v1) ⟨rfl, rfl, rfl, rfl, trivial⟩ ⟨hks, ?_, hgr.trans hg2⟩ (by show s.size - (k + 1) < s.size - k; omega); rw [htp, ← List.append_assoc]; exact hb2
  · obtain rfl : k = s.size := by omega
    have hpl : (textP (s.toList.take s.size)).length ≤ 2 * s.size := Nat.le_trans (textP_le _) (by rw [List.length_take]; omega); refine K.kgo ?_; refine WL.push rfl rfl rfl rfl rfl rfl rfl rfl rfl rfl rfl (fun _ => rfl) rfl hbr (by simp; omega) fun v1 w2 hb2 hg2 => ?_; refine K.kgo ?_; refine WQ.ret1 rfl rfl ⟨_, rfl, ?_, ?_⟩
    · rw [← hsl, List.take_length] at hb2
      unfold textK; rw [← List.append_assoc]; exact hb2
    · exact ((Grow.refl w v).below hb1).trans (hgr.trans hg2)
end K
end Go.Proofs.Ytfpakjbaiohcaaa
