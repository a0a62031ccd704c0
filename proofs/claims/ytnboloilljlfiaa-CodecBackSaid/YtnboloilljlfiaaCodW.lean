/- Reading (chapters 1, 7): ReadUvarint, Zag; the reader's fail, byte, number, count, text. -/
import Derived.Test.YtnboloilljlfiaaCodM
import Derived.Test.YtnboloilljlfiaaCodV
namespace Go.Proofs.Ytnboloilljlfiaa
open Go.RowKit
namespace K
section
variable {n : Nat} {l : Env} {w : World} {fn : Func} {R : Ending → World → Prop}
theorem WQ.ret3 {t t2 t3 : Nat} {v v2 v3 : Value} (hr : fn.results = #[.tmp t, .tmp t2, .tmp t3]) (hl : look l t = some v) (hl2 : look l t2 = some v2) (hl3 : look l t3 = some v3) (h : R (.returned (.tuple #[v, v2, v3])) w) : WQ n (bodyPost Try.prog fn R) .ret l w :=
  ⟨fun a ha => ⟨ha.defers, _, by rw [results_tmp3 hr, ha.getD hl, ha.getD hl2, ha.getD hl3], h⟩⟩
end

theorem and127b : ∀ x : Nat, x < 256 → bits .and .u8 (x : Int) 127 = ((x % 128 : Nat) : Int) := by decide +kernel
theorem or_shl (a c i : Nat) (ha : a < 128 ^ i) (h : c * 128 ^ i < 18446744073709551616) (h2 : a < 18446744073709551616) : bits .or .u64 (a : Int) ((c * 128 ^ i : Nat) : Int) = ((a + 128 ^ i * c : Nat) : Int) := by
  rw [bits_or_u64_nat _ _ h2 h, Nat.or_comm, Nat.mul_comm c]
  rw [show 128 ^ i = 2 ^ (7 * i) by rw [Nat.pow_mul]] at ha ⊢
  rw [← Nat.two_pow_add_eq_or_of_lt ha, Nat.add_comm]
theorem zag_xor (u : Nat) (h : u < 18446744073709551616) :
    bits .xor .i64 (IntKind.i64.wrap ((u : Int) / ((2 ^ min 1 IntKind.u64.bits : Nat) : Int))) (IntKind.i64.wrap (0 - IntKind.i64.wrap (bits .and .u64 (u : Int) 1))) = zag u := by
  have e1 : bits .and .u64 (u : Int) 1 = ((u % 2 : Nat) : Int) := by
    have := bits_and_u64_nat u 1 h (by omega)
    rw [show u &&& 1 = u % 2 from Nat.and_two_pow_sub_one_eq_mod u 1] at this
    exact this
  rw [e1, show ((2 ^ min 1 IntKind.u64.bits : Nat) : Int) = 2 from rfl]
  unfold zag
  have ea : IntKind.i64.wrap ((u : Int) / 2) = ((u / 2 : Nat) : Int) := by rw [IntKind.wrap_i64]; omega
  rw [ea]
  by_cases hu : u % 2 = 0
  · rw [if_pos hu, hu, show IntKind.i64.wrap (0 - IntKind.i64.wrap ((0 : Nat) : Int)) = 0 by rw [IntKind.wrap_i64, IntKind.wrap_i64]; omega]
    show IntKind.i64.wrap ((BitVec.ofInt 64 ((u / 2 : Nat) : Int) ^^^ BitVec.ofInt 64 0).toNat : Nat) = _
    rw [show BitVec.ofInt 64 0 = 0#64 from rfl, BitVec.xor_zero, BitVec.ofInt_natCast, BitVec.toNat_ofNat, Nat.mod_eq_of_lt (by omega), IntKind.wrap_i64]; omega
  · rw [if_neg hu, show u % 2 = 1 by omega, show IntKind.i64.wrap (0 - IntKind.i64.wrap ((1 : Nat) : Int)) = -1 by rw [IntKind.wrap_i64, IntKind.wrap_i64]; omega]
    show IntKind.i64.wrap ((BitVec.ofInt 64 ((u / 2 : Nat) : Int) ^^^ BitVec.ofInt 64 (-1)).toNat : Nat) = _
    rw [show BitVec.ofInt 64 (-1) = BitVec.allOnes 64 from by decide, BitVec.xor_allOnes, BitVec.toNat_not, BitVec.ofInt_natCast, BitVec.toNat_ofNat, Nat.mod_eq_of_lt (by omega), IntKind.wrap_i64]; omega
theorem zag_any (u : Nat) (h : u < 18446744073709551616) (w : World) : Calls Try.prog 40 #[.int .u64 u] w fun e w' => e = .returned (.int .i64 (zag u)) ∧ w' = w := by
  refine enter (args := [.int .u64 u]) Try.func40 rfl Try.ntmps40 rfl ?_
  have hz := zag_xor u h
  generalize zag u = z at hz ⊢
  repeat (first | refine WC.seq ?_ | refine WC.block ?_ | refine WC.region ?_ | refine WL.nil ?_ | refine WC.skip ?_ | refine WC.exit ?_ | refine WC.ret ?_ | refine WQ.then rfl ?_ | refine WQ.thenExit ?_ | refine WQ.thenRet ?_ | refine WQ.blk ?_ | refine WQ.blkRet ?_ | refine WQ.blkHere rfl ?_ | refine WQ.blkOther rfl ?_)
  refine WL.pure rfl rfl rfl rfl ?_
  repeat (first | refine WC.seq ?_ | refine WC.block ?_ | refine WC.region ?_ | refine WL.nil ?_ | refine WC.skip ?_ | refine WC.exit ?_ | refine WC.ret ?_ | refine WQ.then rfl ?_ | refine WQ.thenExit ?_ | refine WQ.thenRet ?_ | refine WQ.blk ?_ | refine WQ.blkRet ?_ | refine WQ.blkHere rfl ?_ | refine WQ.blkOther rfl ?_)
  iterate 8 refine WL.pure rfl rfl rfl rfl ?_
  refine WL.pure rfl rfl rfl rfl ?_
  repeat (first | refine WC.seq ?_ | refine WC.block ?_ | refine WC.region ?_ | refine WL.nil ?_ | refine WC.skip ?_ | refine WC.exit ?_ | refine WC.ret ?_ | refine WQ.then rfl ?_ | refine WQ.thenExit ?_ | refine WQ.thenRet ?_ | refine WQ.blk ?_ | refine WQ.blkRet ?_ | refine WQ.blkHere rfl ?_ | refine WQ.blkOther rfl ?_)
  exact WQ.ret1 rfl rfl ⟨congrArg (fun z => Ending.returned (Value.int .i64 z)) hz, rfl⟩

/-- What ReadUvarint tells. -/
def ruV (l : List Int) : List Value := match rdU l with
  | .ok u r => [.int .u64 (u : Nat), .int .i64 ((l.length - r.length : Nat) : Int), .int .i64 0]
  | .bad e => [.int .u64 0, .int .i64 0, .int .i64 e]
theorem rdUF_bad : ∀ (f : Nat) (st : Bool) (l : List Int) (e : Int), rdUF f st l = .bad e → e = 2 ∨ e = 3
  | 0, _, _, e, h => by cases h; exact .inr rfl
  | f + 1, st, [], e, h => by cases h; exact .inl rfl
  | f + 1, st, c :: t, e, h => by
    unfold rdUF at h
    split at h
    · cases h; exact .inr rfl
    split at h
    · cases h
    cases hr : rdUF f true t with
    | ok v r => rw [hr] at h; cases h
    | bad x => rw [hr] at h; cases h; exact rdUF_bad f true t _ hr

set_option maxHeartbeats 1000000 in
theorem readUvarint_any {w : World} {v : Value} {l : List Int} (hs : Sl .u8 w v l) (hb : Byt l) :
    Calls Try.prog 49 #[v] w fun e w' => e = .returned (.tuple (ruV l).toArray) ∧ w' = w := by
  refine enter (args := [v]) Try.func49 rfl Try.ntmps49 rfl ?_
  have hs0 := hs
  obtain ⟨sp, cap, rfl, hc1, hc2, -, -⟩ := hs
  repeat (first | ((with_reducible refine WL.topT ?_ ?_); omega) | ((with_reducible refine WL.topF ?_ ?_); omega) | ((with_reducible refine WL.top64 ?_ ?_); omega) | refine WC.seq ?_ | refine WC.block ?_ | refine WC.region ?_ | refine WL.nil ?_ | refine WC.skip ?_ | refine WC.exit ?_ | refine WC.ret ?_ | refine WQ.then rfl ?_ | refine WQ.thenExit ?_ | refine WQ.thenRet ?_ | refine WQ.blk ?_ | refine WQ.blkRet ?_ | refine WQ.blkHere rfl ?_ | refine WQ.blkOther rfl ?_ | refine WL.pure rfl rfl rfl rfl ?_ | refine WL.on rfl rfl ?_ | refine WL.off rfl rfl rfl ?_ | refine WC.condTrue rfl ?_ | refine WC.condFalse rfl ?_)
  refine WC.loop (fun i : Nat × Nat => [(8, .slice sp l.length cap), (9, .int .i64 l.length), (10, .int .i64 i.1), (5, .int .u64 i.2)])
    (fun i w' => w' = w ∧ i.1 ≤ 9 ∧ i.1 ≤ l.length ∧ i.2 < 128 ^ i.1 ∧ rdU l = (rdUF (10 - i.1) (decide (0 < i.1)) (l.drop i.1)).bind fun v r => .ok (i.2 + 128 ^ i.1 * v) r) (fun i => l.length - i.1) (0, 0) ⟨rfl, rfl, rfl, rfl, trivial⟩
    ⟨rfl, by omega, by omega, by simp, by
      show rdUF 10 false l = _
      cases h : rdUF 10 false l with
      | ok a r => simp [Rd.bind, h]
      | bad e => simp [Rd.bind, h]⟩ ?_
  rintro ⟨i, a⟩ wr ⟨rfl, hi9, hil, ha, hR⟩
  simp only at hi9 hil ha hR ⊢
  by_cases hik : i < l.length
  · have hdr : l.drop i = nth l i :: l.drop (i + 1) := by rw [List.drop_eq_getElem_cons hik]; simp [nth, hik]
    have hc := hb (nth l i) (by unfold nth; simp [hik])
    rw [hdr] at hR
    generalize hcc : nth l i = c at hR hc
    rw [show 10 - i = (9 - i) + 1 by omega] at hR
    unfold rdUF at hR
    repeat (first | ((with_reducible refine WL.topT ?_ ?_); omega) | ((with_reducible refine WL.topF ?_ ?_); omega) | ((with_reducible refine WL.top64 ?_ ?_); omega) | refine WC.seq ?_ | refine WC.block ?_ | refine WC.region ?_ | refine WL.nil ?_ | refine WC.skip ?_ | refine WC.exit ?_ | refine WC.ret ?_ | refine WQ.then rfl ?_ | refine WQ.thenExit ?_ | refine WQ.thenRet ?_ | refine WQ.blk ?_ | refine WQ.blkRet ?_ | refine WQ.blkHere rfl ?_ | refine WQ.blkOther rfl ?_ | refine WL.pure rfl rfl rfl rfl ?_ | refine WL.on rfl rfl ?_ | refine WL.off rfl rfl rfl ?_ | refine WC.condTrue rfl ?_ | refine WC.condFalse rfl ?_)
    refine WL.idxI i rfl rfl rfl rfl rfl rfl hs0 rfl rfl hik fun p hp => ?_
    rw [hcc] at hp
    refine WL.load rfl rfl rfl rfl rfl rfl hp ?_
    by_cases hbad : (9 - i = 0 ∧ 1 < c) ∨ (decide (0 < i) = true ∧ c = 0)
    · rw [if_pos hbad] at hR
      have hfin : ruV l = [.int .u64 0, .int .i64 0, .int .i64 3] := by unfold ruV; rw [hR]; rfl
      by_cases h1 : i = 9
      · subst h1
        by_cases h2 : 1 < c
        · repeat (first | ((with_reducible refine WL.topT ?_ ?_); omega) | ((with_reducible refine WL.topF ?_ ?_); omega) | ((with_reducible refine WL.top64 ?_ ?_); omega) | refine WC.seq ?_ | refine WC.block ?_ | refine WC.region ?_ | refine WL.nil ?_ | refine WC.skip ?_ | refine WC.exit ?_ | refine WC.ret ?_ | refine WQ.then rfl ?_ | refine WQ.thenExit ?_ | refine WQ.thenRet ?_ | refine WQ.blk ?_ | refine WQ.blkRet ?_ | refine WQ.blkHere rfl ?_ | refine WQ.blkOther rfl ?_ | refine WL.pure rfl rfl rfl rfl ?_ | refine WL.on rfl rfl ?_ | refine WL.off rfl rfl rfl ?_ | refine WC.condTrue rfl ?_ | refine WC.condFalse rfl ?_)
          refine WQ.ret3 rfl rfl rfl rfl ⟨by rw [hfin], rfl⟩
        · obtain rfl : c = 0 := by simp at hbad; omega
          repeat (first | ((with_reducible refine WL.topT ?_ ?_); omega) | ((with_reducible refine WL.topF ?_ ?_); omega) | ((with_reducible refine WL.top64 ?_ ?_); omega) | refine WC.seq ?_ | refine WC.block ?_ | refine WC.region ?_ | refine WL.nil ?_ | refine WC.skip ?_ | refine WC.exit ?_ | refine WC.ret ?_ | refine WQ.then rfl ?_ | refine WQ.thenExit ?_ | refine WQ.thenRet ?_ | refine WQ.blk ?_ | refine WQ.blkRet ?_ | refine WQ.blkHere rfl ?_ | refine WQ.blkOther rfl ?_ | refine WL.pure rfl rfl rfl rfl ?_ | refine WL.on rfl rfl ?_ | refine WL.off rfl rfl rfl ?_ | refine WC.condTrue rfl ?_ | refine WC.condFalse rfl ?_)
          refine WQ.ret3 rfl rfl rfl rfl ⟨by rw [hfin], rfl⟩
      · obtain ⟨h2, rfl⟩ : 0 < i ∧ c = 0 := by simp at hbad; omega
        repeat (first | ((with_reducible refine WL.topT ?_ ?_); omega) | ((with_reducible refine WL.topF ?_ ?_); omega) | ((with_reducible refine WL.top64 ?_ ?_); omega) | refine WC.seq ?_ | refine WC.block ?_ | refine WC.region ?_ | refine WL.nil ?_ | refine WC.skip ?_ | refine WC.exit ?_ | refine WC.ret ?_ | refine WQ.then rfl ?_ | refine WQ.thenExit ?_ | refine WQ.thenRet ?_ | refine WQ.blk ?_ | refine WQ.blkRet ?_ | refine WQ.blkHere rfl ?_ | refine WQ.blkOther rfl ?_ | refine WL.pure rfl rfl rfl rfl ?_ | refine WL.on rfl rfl ?_ | refine WL.off rfl rfl rfl ?_ | refine WC.condTrue rfl ?_ | refine WC.condFalse rfl ?_)
        refine WQ.ret3 rfl rfl rfl rfl ⟨by rw [hfin], rfl⟩
    · rw [if_neg hbad] at hR
      simp only [decide_eq_true_eq, not_or, not_and] at hbad
      have e1 : bits .and .u8 c 127 = ((c.toNat % 128 : Nat) : Int) := by
        have := and127b c.toNat (by omega)
        rwa [Int.toNat_of_nonneg hc.1] at this
      have hle : 128 ^ i ≤ 128 ^ 9 := Nat.pow_le_pow_right (by decide) hi9
      have hcm : c.toNat % 128 * 128 ^ i < 18446744073709551616 := by
        by_cases h9 : i = 9
        · subst h9
          have : c ≤ 1 := by have := hbad.1 (by omega); omega
          have : c.toNat % 128 ≤ 1 := by omega
          generalize c.toNat % 128 = q at this
          omega
        · have : 128 ^ i ≤ 128 ^ 8 := Nat.pow_le_pow_right (by decide) (by omega)
          have h2 : c.toNat % 128 < 128 := Nat.mod_lt _ (by decide)
          generalize c.toNat % 128 = q at h2
          generalize 128 ^ i = r at this
          have := Nat.mul_le_mul (Nat.le_of_lt h2) this
          omega
      have e2 : IntKind.u64.wrap (((c.toNat % 128 : Nat) : Int) * ((2 ^ min (7 * i) IntKind.u64.bits : Nat) : Int)) = ((c.toNat % 128 * 128 ^ i : Nat) : Int) := by
        rw [show min (7 * i) IntKind.u64.bits = 7 * i from Nat.min_eq_left (by show 7 * i ≤ 64; omega), Nat.pow_mul, ← Int.natCast_mul, IntKind.wrap_u64]
        generalize c.toNat % 128 * 128 ^ i = q at hcm
        omega
      have e3 := or_shl a (c.toNat % 128) i ha hcm (by omega)
      have e5 : IntKind.u64.wrap ((c.toNat % 128 : Nat) : Int) = ((c.toNat % 128 : Nat) : Int) := by rw [IntKind.wrap_u64]; omega
      have e6 : i % (2 ^ IntKind.u64.bits : Int).natAbs * 7 % (2 ^ IntKind.u64.bits : Int).natAbs = 7 * i := by
        rw [show (2 ^ IntKind.u64.bits : Int).natAbs = 18446744073709551616 from rfl]; omega
      have E : bits .or .u64 (a : Int) (IntKind.u64.wrap (IntKind.u64.wrap (bits .and .u8 c 127) * ((2 ^ min (i % (2 ^ IntKind.u64.bits : Int).natAbs * 7 % (2 ^ IntKind.u64.bits : Int).natAbs) IntKind.u64.bits : Nat) : Int))) = ((a + 128 ^ i * (c.toNat % 128) : Nat) : Int) := by
        rw [e6, e1, e5, e2, e3]
      clear e1 e2 e3 e5 e6
      by_cases hc8 : c < 128
      · rw [if_pos hc8] at hR
        have hfin : ruV l = [.int .u64 ((a + 128 ^ i * (c.toNat % 128) : Nat) : Int), .int .i64 ((i : Int) + 1), .int .i64 0] := by
          unfold ruV
          rw [hR]
          simp only [Rd.bind, List.length_drop]
          rw [show c.toNat % 128 = c.toNat by omega, show ((l.length - (l.length - (i + 1)) : Nat) : Int) = (i : Int) + 1 by omega]
        have hcase : (i = 9 ∧ ¬ c = 0 ∧ ¬ 1 < c) ∨ (¬ i = 9 ∧ ¬ c = 0) ∨ (i = 0 ∧ c = 0) := by omega
        rcases hcase with ⟨h9, hc0, hc1⟩ | ⟨h9, hc0⟩ | ⟨h9, hc0⟩
        all_goals
          repeat (first | ((with_reducible refine WL.topT ?_ ?_); omega) | ((with_reducible refine WL.topF ?_ ?_); omega) | ((with_reducible refine WL.top64 ?_ ?_); omega) | refine WC.seq ?_ | refine WC.block ?_ | refine WC.region ?_ | refine WL.nil ?_ | refine WC.skip ?_ | refine WC.exit ?_ | refine WC.ret ?_ | refine WQ.then rfl ?_ | refine WQ.thenExit ?_ | refine WQ.thenRet ?_ | refine WQ.blk ?_ | refine WQ.blkRet ?_ | refine WQ.blkHere rfl ?_ | refine WQ.blkOther rfl ?_ | refine WL.pure rfl rfl rfl rfl ?_ | refine WL.on rfl rfl ?_ | refine WL.off rfl rfl rfl ?_ | refine WC.condTrue rfl ?_ | refine WC.condFalse rfl ?_)
          refine WQ.ret3 rfl rfl rfl rfl ⟨by rw [hfin, ← E], rfl⟩
      · rw [if_neg hc8] at hR
        have h9 : ¬ i = 9 := fun h => by have := hbad.1 (by omega); omega
        have hc0 : ¬ c = 0 := by omega
        repeat (first | ((with_reducible refine WL.topT ?_ ?_); omega) | ((with_reducible refine WL.topF ?_ ?_); omega) | ((with_reducible refine WL.top64 ?_ ?_); omega) | refine WC.seq ?_ | refine WC.block ?_ | refine WC.region ?_ | refine WL.nil ?_ | refine WC.skip ?_ | refine WC.exit ?_ | refine WC.ret ?_ | refine WQ.then rfl ?_ | refine WQ.thenExit ?_ | refine WQ.thenRet ?_ | refine WQ.blk ?_ | refine WQ.blkRet ?_ | refine WQ.blkHere rfl ?_ | refine WQ.blkOther rfl ?_ | refine WL.pure rfl rfl rfl rfl ?_ | refine WL.on rfl rfl ?_ | refine WL.off rfl rfl rfl ?_ | refine WC.condTrue rfl ?_ | refine WC.condFalse rfl ?_)
        refine WQ.again (i + 1, a + 128 ^ i * (c.toNat % 128)) ⟨rfl, rfl, rfl, congrArg (fun z => some (Value.int .u64 z)) E, trivial⟩ ⟨rfl, by show i + 1 ≤ 9; omega, hik, ?_, ?_⟩ (by show l.length - (i + 1) < l.length - i; omega)
        · show a + 128 ^ i * (c.toNat % 128) < 128 ^ (i + 1)
          have h2 : c.toNat % 128 < 128 := Nat.mod_lt _ (by decide)
          rw [Nat.pow_succ]
          generalize c.toNat % 128 = q at h2
          have := Nat.mul_le_mul_left (128 ^ i) (show q + 1 ≤ 128 by omega)
          rw [Nat.mul_add] at this
          omega
        · show rdU l = (rdUF (10 - (i + 1)) (decide (0 < i + 1)) (l.drop (i + 1))).bind fun v r => .ok (a + 128 ^ i * (c.toNat % 128) + 128 ^ (i + 1) * v) r
          rw [hR, show 10 - (i + 1) = 9 - i by omega, show decide (0 < i + 1) = true from decide_eq_true (by omega)]
          cases rdUF (9 - i) true (l.drop (i + 1)) with
          | bad e => rfl
          | ok v r =>
            simp only [Rd.bind]
            rw [show c.toNat % 128 = c.toNat - 128 by omega, Nat.pow_succ, Nat.mul_add, Nat.mul_assoc (128 ^ i) 128 v, Nat.add_assoc]
  · obtain rfl : i = l.length := by omega
    rw [List.drop_length, show 10 - l.length = (9 - l.length) + 1 by omega] at hR
    have hfin : ruV l = [.int .u64 0, .int .i64 0, .int .i64 2] := by unfold ruV; rw [hR]; rfl
    repeat (first | ((with_reducible refine WL.topT ?_ ?_); omega) | ((with_reducible refine WL.topF ?_ ?_); omega) | ((with_reducible refine WL.top64 ?_ ?_); omega) | refine WC.seq ?_ | refine WC.block ?_ | refine WC.region ?_ | refine WL.nil ?_ | refine WC.skip ?_ | refine WC.exit ?_ | refine WC.ret ?_ | refine WQ.then rfl ?_ | refine WQ.thenExit ?_ | refine WQ.thenRet ?_ | refine WQ.blk ?_ | refine WQ.blkRet ?_ | refine WQ.blkHere rfl ?_ | refine WQ.blkOther rfl ?_ | refine WL.pure rfl rfl rfl rfl ?_ | refine WL.on rfl rfl ?_ | refine WL.off rfl rfl rfl ?_ | refine WC.condTrue rfl ?_ | refine WC.condFalse rfl ?_)
    refine WQ.ret3 rfl rfl rfl rfl ⟨by rw [hfin], rfl⟩
end K
end Go.Proofs.Ytnboloilljlfiaa
