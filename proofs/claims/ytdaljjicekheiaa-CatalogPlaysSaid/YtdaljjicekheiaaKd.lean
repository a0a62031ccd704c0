/- Walks over the slots that are asked for: regions that draw their order. -/
import Derived.Test.YtdaljjicekheiaaKc
import Derived.Test.YtdaljjicekheiaaReg
namespace Go.Proofs.Ytdaljjicekheiaa
open Go.RowKit
namespace K
variable {kn : Nat} {ds : List Deferred} {n : NN} {Q : Exit → Act → World → Prop} {l : Env} {w w' : World} {ops : Array Oper} {o : Oper} {rest : List Oper} {d : Nat} {S : World → Prop} {m fuel : Nat} {listed : Array Bool}

/-- What goes on behind a step of such a region. -/
def DK (ops : Array Oper) (Q : Exit → Act → World → Prop) (S : World → Prop) (m fuel : Nat) (listed : Array Bool) (a : Act) (w : World) : Prop :=
  (listed.getD m false = true ∨ S w) ∧ wpTill Try.prog .any ops Q S m fuel listed a w
structure WD (n : NN) (ops : Array Oper) (Q : Exit → Act → World → Prop) (S : World → Prop) (m fuel : Nat) (listed : Array Bool) (l : Env) (w : World) : Prop where
  go : ∀ a, Fr n a l → wpTill Try.prog .any ops Q S m fuel listed a w

/-- Nothing but a draw. -/
structure Drew (w w' : World) : Prop where
  below : ∀ B, Below B w w'
  heap : w'.heap = w.heap
theorem Drew.mk' (w : World) : Drew w w.drew := ⟨fun B => ((Keep.of_below (Below.refl B w)).drewN 1).below, rfl⟩

theorem WC.drawn {id : Nat} {ops : List Oper} (m : Nat) (S : World → Prop) (h : ∀ w', Drew w w' → WD ⟨kn, ds, none⟩ ops.toArray Q S m ops.length (Array.replicate ops.length false) l w') : WC ⟨kn, ds, none⟩ (.region id ops.toArray true) Q l w :=
  ⟨fun a ha => wp_region_till m S (by kernel_rfl) ((h _ (Drew.mk' w)).go a ha)⟩
theorem wpOp_of_list {K : Act → World → Prop} {i : Nat} {oi : Oper} {a : Act} (hi : ops[i]? = some oi) (h : wpList Try.prog ops (Exit.then K Q) [oi] a w) : wpOp Try.prog ops Q i K a w := by
  unfold wpOp
  simp only [hi]
  unfold wpList at h
  by_cases hw : Region.wanted oi (yielded ops a.tmps) = true
  · rw [if_pos hw] at h ⊢
    rcases h with h | ⟨h1, a2, w2, h2⟩
    · left
      unfold Oper.wp at h ⊢
      revert h
      generalize (execOp a.eval oi).run Try.prog w = r
      intro h
      cases r with
      | ok x w2 =>
        cases x <;> first | exact h | skip
        all_goals first
          | exact h
          | (refine Calls.mono h fun e w3 h3 => ?_
             cases e with
             | returned v => exact h3
             | panicked ch => exact h3
             | outgrown => obtain ⟨a4, w4, h4⟩ := h3; exact ⟨a4, w4, h4⟩)
      | halt x w2 => cases x <;> first | exact h | skip
    · exact .inr ⟨h1, a2, w2, h2⟩
  · rw [if_neg hw] at h ⊢
    exact h
theorem WD.one {oi : Oper} (i : Nat) (hr : Region.ready .any ops listed = [i]) (hi : ops[i]? = some oi) (h : WL ⟨kn, ds, none⟩ ops (Exit.then (DK ops Q S m fuel (listed.setIfInBounds i true)) Q) [oi] l w) : WD ⟨kn, ds, none⟩ ops Q S m (fuel + 1) listed l w :=
  ⟨fun a ha => ⟨(fun h0 => by rw [h0] at hr; cases hr), fun j hj => by
    rw [hr] at hj
    obtain rfl : j = i := by simpa using hj
    exact wpOp_of_list hi (h.go a ha)⟩⟩
/-- Two may come up. -/
theorem WD.two {oi oj : Oper} (i j : Nat) (hr : Region.ready .any ops listed = [i, j]) (hi : ops[i]? = some oi) (hj : ops[j]? = some oj) (h1 : WL ⟨kn, ds, none⟩ ops (Exit.then (DK ops Q S m fuel (listed.setIfInBounds i true)) Q) [oi] l w)
    (h2 : WL ⟨kn, ds, none⟩ ops (Exit.then (DK ops Q S m fuel (listed.setIfInBounds j true)) Q) [oj] l w) : WD ⟨kn, ds, none⟩ ops Q S m (fuel + 1) listed l w :=
  ⟨fun a ha => ⟨(fun h0 => by rw [h0] at hr; cases hr), fun k hk => by
    rw [hr] at hk
    rcases List.mem_cons.1 hk with e | e
    · subst e; exact wpOp_of_list hi (h1.go a ha)
    · obtain rfl : k = j := by simpa using e
      exact wpOp_of_list hj (h2.go a ha)⟩⟩
theorem WQ.dk (hS : listed.getD m false = true ∨ S w) (h : WD n ops Q S m fuel listed l w) : WQ n (Exit.then (DK ops Q S m fuel listed) Q) .normal l w := ⟨fun a ha => ⟨hS, h.go a ha⟩⟩
theorem WD.done (hr : Region.ready .any ops listed = []) (h : WQ n Q .normal l w) : WD n ops Q S m fuel listed l w := ⟨fun a ha => till_done hr (h.go a ha) fuel⟩
/-- May the operation i be taken first (it waits for nothing; what else may come up is apart from it)? m: the last one. -/
def mayB (ops : Array Oper) (listed : Array Bool) (i m : Nat) : Bool := Region.noSelect ops && Region.free .any ops listed i && (Region.ready .any ops listed).contains i && !(i == m)
def mayR (ops : Array Oper) (listed : Array Bool) (i m : Nat) (us : List Nat) : Bool := Region.noSelect ops && Region.free .any ops listed i && (Region.ready .any ops listed).contains i && waitB .any ops listed i m us && !(us.contains i)
/-- Panics pass. -/
def Passes (Q : Exit → Act → World → Prop) : Prop := ∀ c (a : Act) d v w, Q (.panic c) (a.put (some d) v) w → Q (.panic c) a w
theorem WD.first {oi : Oper} {v : Value} (i : Nat) (hi : ops[i]? = some oi) (hs : mayB ops listed i m = true) (hd : oi.dst = some d) (hn : Nat.blt d n.n = true) (hQ : Passes Q)
    (hy : ∀ a, Fr n a l → YieldsIf Try.prog ops (fun _ => True) oi v a) (hS : listed.getD m false = true ∨ S w) (h : WD n ops Q S m fuel (listed.setIfInBounds i true) ((d, v) :: l) w) : WD n ops Q S m (fuel + 1) listed l w :=
  ⟨fun a ha => by
    unfold mayB at hs
    simp only [Bool.and_eq_true, Bool.not_eq_true'] at hs
    exact wpTill_free hi (Region.noSelect_spec hs.1.1.1) (by rw [hd]; exact fun c a w => hQ c a d v w) (by simpa using hs.2) fuel listed a w (Region.free_spec hi hs.1.1.2) (by simpa using hs.1.2) (hy a ha) hS (by rw [hd]; exact h.go _ (ha.put hn v))⟩
/-- A pure operation, taken first. -/
theorem WD.free {oi : Oper} {v : Value} (i : Nat) (hi : ops[i]? = some oi) (hs : mayB ops listed i m = true) (hd : oi.dst = some d) (hn : Nat.blt d n.n = true)
    (hQ : Passes Q) (hw : wants ops l oi = some true) (hv : pv ty l oi.op = some v) (hS : listed.getD m false = true ∨ S w) (h : WD n ops Q S m fuel (listed.setIfInBounds i true) ((d, v) :: l) w) : WD n ops Q S m (fuel + 1) listed l w :=
  WD.first i hi hs hd hn hQ (fun _ ha => .inl ⟨wants_run ha hw, fun w _ => pv_run tyOk ha hv w⟩) hS h
/-- The same, its value in other words. -/
theorem WD.freeAs {oi : Oper} {v : Value} (i : Nat) (v' : Value) (hi : ops[i]? = some oi) (hs : mayB ops listed i m = true) (hd : oi.dst = some d) (hn : Nat.blt d n.n = true)
    (hQ : Passes Q) (hw : wants ops l oi = some true) (hv : pv ty l oi.op = some v) (e : v = v') (hS : listed.getD m false = true ∨ S w) (h : WD n ops Q S m fuel (listed.setIfInBounds i true) ((d, v') :: l) w) : WD n ops Q S m (fuel + 1) listed l w :=
  WD.first i hi hs hd hn hQ (fun _ ha => .inl ⟨wants_run ha hw, fun w _ => pv_run tyOk ha (hv.trans (congrArg some e)) w⟩) hS h
theorem WD.top {v v' : Value} (e : v = v') (h : WD n ops Q S m fuel listed ((d, v') :: l) w) : WD n ops Q S m fuel listed ((d, v) :: l) w := by subst e; exact h
theorem WD.topT {p : Prop} [Decidable p] (hp : p) (h : WD n ops Q S m fuel listed ((d, .bool true) :: l) w) : WD n ops Q S m fuel listed ((d, .bool (decide p)) :: l) w := WD.top (congrArg Value.bool (decide_eq_true hp)) h
theorem WD.topF {p : Prop} [Decidable p] (hp : ¬ p) (h : WD n ops Q S m fuel listed ((d, .bool false) :: l) w) : WD n ops Q S m fuel listed ((d, .bool (decide p)) :: l) w := WD.top (congrArg Value.bool (decide_eq_false hp)) h
theorem WD.top64 {x : Int} (hx : -9223372036854775808 ≤ x ∧ x ≤ 9223372036854775807) (h : WD n ops Q S m fuel listed ((d, .int .i64 x) :: l) w) : WD n ops Q S m fuel listed ((d, .int .i64 (IntKind.wrap .i64 x)) :: l) w := WD.top (congrArg (Value.int .i64) (IntWalk.i64_in _ hx)) h
/-- An operation that is not asked for. -/
theorem WD.skip {oi : Oper} (i : Nat) (hi : ops[i]? = some oi) (hs : mayB ops listed i m = true) (hd : oi.dst = some d) (hn : Nat.blt d n.n = true)
    (hQ : Passes Q) (hw : wants ops l oi = some false) (hS : listed.getD m false = true ∨ S w) (h : WD n ops Q S m fuel (listed.setIfInBounds i true) ((d, undef) :: l) w) : WD n ops Q S m (fuel + 1) listed l w :=
  WD.first i hi hs hd hn hQ (fun _ ha => .inr ⟨wants_run ha hw, rfl⟩) hS h
/-- What is read, taken first: its value is the same whatever comes ahead of it. -/
theorem WD.read {oi : Oper} {v : Value} (i : Nat) (us : List Nat) (hi : ops[i]? = some oi) (hs : mayR ops listed i m us = true) (hd : oi.dst = some d) (hn : Nat.blt d n.n = true)
    (hQ : Passes Q) (hw : wants ops l oi = some true) (hv : ∀ a, Fr n a l → ∀ w, S w → (execOp a.eval oi).run Try.prog w = .ok (.value v) w) (hS : S w) (h : WD n ops Q S m fuel (listed.setIfInBounds i true) ((d, v) :: l) w) : WD n ops Q S m (fuel + 1) listed l w :=
  ⟨fun a ha => by
    unfold mayR at hs
    simp only [Bool.and_eq_true, Bool.not_eq_true'] at hs
    exact wpTill_first hi (Region.noSelect_spec hs.1.1.1.1) (by rw [hd]; exact fun c a w => hQ c a d v w) fuel listed a w (Region.free_spec hi hs.1.1.1.2) hs.1.2 (by simpa using hs.2) (by simpa using hs.1.1.2) (.inl ⟨wants_run ha hw, hv a ha⟩) hS (by rw [hd]; exact h.go _ (ha.put hn v))⟩
theorem WD.load {oi : Oper} {t : Nat} {x : Operand} {p : Addr} {v : Value} (i : Nat) (us : List Nat) (hi : ops[i]? = some oi) (hs : mayR ops listed i m us = true) (hd : oi.dst = some d) (hn : Nat.blt d n.n = true)
    (hQ : Passes Q) (hw : wants ops l oi = some true) (ho : oi.op = .load t x) (hx : evl l x = some (.pointer (some p))) (ht : scal (tyOf ty t) = true) (hc : ∀ w, S w → w.cell? p = some v) (hS : S w)
    (h : WD n ops Q S m fuel (listed.setIfInBounds i true) ((d, v) :: l) w) : WD n ops Q S m (fuel + 1) listed l w :=
  WD.read i us hi hs hd hn hQ hw (fun a ha w hw => by unfold execOp; rw [ho]; simp [ha.eval hx, Instr.loadAt, Instr.sureAddr, scal_run ht p (hc w hw)]) hS h
theorem WD.loadMid {oi : Oper} {t b off mm : Nat} {x : Operand} {cs : List Value} (i : Nat) (us : List Nat) (hi : ops[i]? = some oi) (hs : mayR ops listed i m us = true) (hd : oi.dst = some d) (hn : Nat.blt d n.n = true)
    (hQ : Passes Q) (hw : wants ops l oi = some true) (ho : oi.op = .load t x) (hx : evl l x = some (.pointer (some ⟨b, off, none⟩))) (ht : cellsN (tyOf ty t) = some mm) (hc : ∀ w, S w → w.rangeAt b off cs) (hm : cs.length = mm) (hS : S w)
    (h : WD n ops Q S m fuel (listed.setIfInBounds i true) ((d, .agg cs.toArray) :: l) w) : WD n ops Q S m (fuel + 1) listed l w :=
  WD.read i us hi hs hd hn hQ hw (fun a ha w hw => by
    obtain ⟨_, hu, hdd, hsz⟩ := cellsN_ok tyOk ht
    unfold execOp
    rw [ho]
    have := run_loadVar_mid (P := Try.prog) w b off t cs _ (hc w hw) hu hdd (by rw [hsz, hm])
    simp [ha.eval hx, Instr.loadAt, Instr.sureAddr, this]) hS h
/-- An element's place, taken first. -/
theorem WD.idx {oi : Oper} {t e s : Nat} {x i' : Operand} {b off len cap : Nat} {k : IntKind} {z : Int} (i j q : Nat) (hi : ops[i]? = some oi) (hs : mayB ops listed i m = true) (hd : oi.dst = some d) (hn : Nat.blt d n.n = true)
    (hQ : Passes Q) (hw : wants ops l oi = some true) (ho : oi.op = .indexAddr t x i') (ht : tyOf ty t = some (.slice e s))
    (hx : evl l x = some (.slice (some ⟨b, off, none⟩) len cap)) (hi' : evl l i' = some (.int k z)) (hz : z = (j : Int)) (hj : j < len) (hq : off + j * s = q) (hS : listed.getD m false = true ∨ S w)
    (h : WD n ops Q S m fuel (listed.setIfInBounds i true) ((d, .pointer (some ⟨b, q, none⟩)) :: l) w) : WD n ops Q S m (fuel + 1) listed l w :=
  WD.first i hi hs hd hn hQ (fun _ ha => .inl ⟨wants_run ha hw, fun w _ => by rw [← hq]; exact idx_run ho ht (ha.eval hx) (ha.eval hi') hz hj⟩) hS h
/-- A byte of a text, taken first. -/
theorem WD.byte {oi : Oper} {t : Nat} {x i' : Operand} {s : ByteArray} {k : IntKind} {z : Int} (i j : Nat) (hi : ops[i]? = some oi) (hs : mayB ops listed i m = true) (hd : oi.dst = some d) (hn : Nat.blt d n.n = true)
    (hQ : Passes Q) (hw : wants ops l oi = some true) (ho : oi.op = .index t x i') (ht : tyOf ty t = some .str)
    (hx : evl l x = some (.string s)) (hi' : evl l i' = some (.int k z)) (hz : z = (j : Int)) (hj : j < s.size) (hS : listed.getD m false = true ∨ S w)
    (h : WD n ops Q S m fuel (listed.setIfInBounds i true) ((d, .int .u8 (s.toList.getD j 0).toNat) :: l) w) : WD n ops Q S m (fuel + 1) listed l w :=
  WD.first i hi hs hd hn hQ (fun _ ha => .inl ⟨wants_run ha hw, fun _ _ => byte_run ho ht (ha.eval hx) (ha.eval hi') hz hj⟩) hS h
end K
end Go.Proofs.Ytdaljjicekheiaa
