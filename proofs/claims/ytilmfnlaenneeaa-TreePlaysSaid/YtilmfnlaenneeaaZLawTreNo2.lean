/- Texts for LawTreNo, part 2 of 6. -/
import Derived.Test.YtilmfnlaenneeaaZLawTreNo1
import Derived.WalkLawsBesides
import Derived.Lib.ConvBytes
import Derived.Great.BuildSlice
import Derived.OrdersHeld
import Derived.RegionTactic
import Derived.Deep.RegionHeld3
import Derived.Lib.AppendStr
import Derived.Laws.CopyRow
/- Walks over the slots that are asked for: pure operations, reckoned out of the list of slots. -/
namespace Go.Proofs.Ytilmfnlaenneeaa
open Go.RowKit
namespace K

inductive TyD where
  | int (k : IntKind) | str | bool | ptr (e : Nat) | slice (e s : Nat) | struct (n : Nat) (fs : List (Nat × Nat × Nat)) | arr (n e s : Nat)
def TyD.ok (P : Program) (t : Nat) : TyD → Prop
  | .int k => P.underlying t = some (.int k)
  | .str => P.underlying t = some .string
  | .bool => P.underlying t = some .bool
  | .ptr e => P.underlying t = some (.pointer e)
  | .slice e s => P.underlying t = some (.slice e) ∧ (P.info? e).map (·.size) = some s
  | .arr n e s => P.underlying t = some (.array n e) ∧ (P.info? e).map (·.size) = some s ∧ (P.info? t).map (·.size) = some (n * s)
  | .struct n fs => (∃ us, P.underlying t = some (.struct us)) ∧ (P.info? t).map (·.size) = some n ∧
      (match P.underlying t with | some (.struct us) => (us.toList.map fun f => (f.type, f.offset, ((P.info? f.type).map (·.size)).getD 0)) == fs | _ => false) = true
def TyOk (P : Program) : List (Nat × TyD) → Prop
  | [] => True
  | (t, d) :: r => d.ok P t ∧ TyOk P r
def tyOf : List (Nat × TyD) → Nat → Option TyD
  | [], _ => none
  | (t, d) :: r, k => bif Nat.beq t k then some d else tyOf r k
theorem TyOk.of {P : Program} : ∀ {T : List (Nat × TyD)} {t : Nat} {d : TyD}, TyOk P T → tyOf T t = some d → d.ok P t
  | [], _, _, _, h => by cases h
  | (j, u) :: r, t, d, h, hk => by
    unfold tyOf at hk
    cases hb : Nat.beq j t with
    | true =>
      rw [hb] at hk
      obtain rfl : j = t := Nat.eq_of_beq_eq_true hb
      obtain rfl : u = d := Option.some.inj hk
      exact h.1
    | false => rw [hb] at hk; exact TyOk.of h.2 hk

/-- Of how many cells is a type that does not lie in one? -/
def cellsN : Option TyD → Option Nat
  | some (.struct m _) => some m
  | some (.arr n _ s) => some (n * s)
  | _ => none
theorem cellsN_ok {P : Program} {T : List (Nat × TyD)} (hT : TyOk P T) {t m : Nat} (h : cellsN (tyOf T t) = some m) :
    ∃ d, P.underlying t = some d ∧ (match d with | .struct _ | .array _ _ => true | _ => false) = true ∧ (P.info? t).map (·.size) = some m := by
  unfold cellsN at h
  split at h
  · rename_i m' fs he
    obtain rfl := Option.some.inj h
    obtain ⟨⟨us, hu⟩, hsz, -⟩ := TyOk.of hT he
    exact ⟨_, hu, rfl, hsz⟩
  · rename_i n e s he
    obtain rfl := Option.some.inj h
    obtain ⟨hu, -, hsz⟩ := TyOk.of hT he
    exact ⟨_, hu, rfl, hsz⟩
  · cases h

def quoI (k : IntKind) (a b : Int) : Option Value :=
  match b with
  | .ofNat (_ + 1) => some (.int k (k.wrap (a.tdiv b)))
  | _ => none
def remI (k : IntKind) (a b : Int) : Option Value :=
  match b with
  | .ofNat (_ + 1) => some (.int k (a.tmod b))
  | _ => none
def shlI (k : IntKind) (a : Int) : Int → Option Value
  | .ofNat m => some (.int k (k.wrap (a * ((2 ^ min m k.bits : Nat) : Int))))
  | _ => none
def shrI (k : IntKind) (a : Int) : Int → Option Value
  | .ofNat m => some (.int k (a / ((2 ^ min m k.bits : Nat) : Int)))
  | _ => none
/-- Two integers. -/
def binI (k : IntKind) (a b : Int) : BinOp → Option Value
  | .add => some (.int k (k.wrap (a + b)))
  | .sub => some (.int k (k.wrap (a - b)))
  | .mul => some (.int k (k.wrap (a * b)))
  | .eql => some (.bool (decide (a = b)))
  | .neq => some (.bool (decide (a ≠ b)))
  | .lss => some (.bool (decide (a < b)))
  | .leq => some (.bool (decide (a ≤ b)))
  | .gtr => some (.bool (decide (b < a)))
  | .geq => some (.bool (decide (b ≤ a)))
  | .and => some (.int k (bits .and k a b))
  | .or => some (.int k (bits .or k a b))
  | .xor => some (.int k (bits .xor k a b))
  | .quo => quoI k a b
  | .rem => remI k a b
  | _ => none
def shI (k : IntKind) (a b : Int) : BinOp → Option Value
  | .shl => shlI k a b
  | .shr => shrI k a b
  | _ => none
/-- Two texts. -/
def binS (a b : ByteArray) : BinOp → Option Value
  | .eql => some (.bool (a.toList == b.toList))
  | .neq => some (.bool (!(a.toList == b.toList)))
  | .lss => some (.bool (Op.bytesLess a.toList b.toList))
  | .leq => some (.bool (Op.bytesLess a.toList b.toList || a.toList == b.toList))
  | .gtr => some (.bool !(Op.bytesLess a.toList b.toList || a.toList == b.toList))
  | .geq => some (.bool !(Op.bytesLess a.toList b.toList))
  | _ => none
def isSh : BinOp → Bool
  | .shl | .shr => true
  | _ => false
def evlAll (l : Env) : List Operand → Option (List Value)
  | [] => some []
  | x :: r => match evl l x, evlAll l r with
    | some v, some vs => some (v :: vs)
    | _, _ => none
def pvPick (l : Env) (a b : Operand) : Option Value → Option Value
  | some (.bool true) => evl l a
  | some (.bool false) => evl l b
  | _ => none
def pvBool (a b : Bool) : Option TyD → BinOp → Option Value
  | some .bool, .eql => some (.bool (a == b))
  | some .bool, .neq => some (.bool (!(a == b)))
  | _, _ => none
def pvBin (op : BinOp) (ty : Option TyD) : Option Value → Option Value → Option Value
  | some (.int k a), some (.int k' b) => bif isSh op then shI k a b op else if k = k' then binI k a b op else none
  | some (.string a), some (.string b) => binS a b op
  | some (.bool a), some (.bool b) => pvBool a b ty op
  | _, _ => none
def pvUn : UnOp → Option Value → Option Value
  | .neg, some (.int k a) => some (.int k (k.wrap (0 - a)))
  | .not, some (.bool b) => some (.bool (!b))
  | .xor, some (.int k a) => some (.int k (bits .xor k (if k.signed then -1 else k.max) a))
  | _, _ => none
def pvConv : Option TyD → Option TyD → Option Value → Option Value
  | some (.int _), some (.int k), some (.int _ a) => some (.int k (k.wrap a))
  | some .str, some .str, some (.string s) => some (.string s)
  | _, _, _ => none
def pvExt (i : Nat) : Option Value → Option Value
  | some (.tuple vs) => vs[i]?
  | _ => none
def pvNil : Option Value → Option Value
  | some (.pointer (some p)) => some (.pointer (some p))
  | _ => none
def pvOff (b o : Nat) : Option (Nat × Nat × Nat) → Option Value
  | some (_, off, _ + 1) => some (.pointer (some ⟨b, o + off, none⟩))
  | _ => none
def pvField (i : Nat) : Option TyD → Option Value → Option Value
  | some (.struct _ fs), some (.pointer (some ⟨b, o, none⟩)) => pvOff b o fs[i]?
  | _, _ => none
def pvLen : Option TyD → Option Value → Option Value
  | some (.slice _ _), some (.slice _ n _) => some (.int .i64 n)
  | some .str, some (.string s) => some (.int .i64 s.size)
  | _, _ => none
def pvMin (less : Bool) : Option Value → Option Value → Option Value
  | some (.int k a), some (.int _ b) => some (.int k (bif less then (if b < a then b else a) else (if b > a then b else a)))
  | _, _ => none
def pvCall (T : List (Nat × TyD)) (l : Env) (c : Call) : Option Value :=
  match c.callee, c.args.toList, c.argTypes.toList with
  | .builtin .len, [x], [t] => pvLen (tyOf T t) (evl l x)
  | .builtin .min, [x, y], _ => pvMin true (evl l x) (evl l y)
  | .builtin .max, [x, y], _ => pvMin false (evl l x) (evl l y)
  | _, _, _ => none
/-- What a pure operation yields. -/
def pv (T : List (Nat × TyD)) (l : Env) : Op → Option Value
  | .move x => evl l x
  | .assign x => evl l x
  | .pick c a b => pvPick l a b (evl l c)
  | .binOp op t x y _ => pvBin op (tyOf T t) (evl l x) (evl l y)
  | .unOp op _ x => pvUn op (evl l x)
  | .convert s d x => pvConv (tyOf T s) (tyOf T d) (evl l x)
  | .extract t i => pvExt i (evl l t)
  | .nilCheck x => pvNil (evl l x)
  | .fieldAddr t x i => pvField i (tyOf T t) (evl l x)
  | .call c => pvCall T l c
  | _ => none

theorem binI_run {P : Program} {k : IntKind} {a b : Int} {op : BinOp} {v : Value} (h : binI k a b op = some v) (t : TypeId) (w : World) : (binOp op t (.int k a) (.int k b)).run P w = .ok v w := by
  cases op
  case quo =>
    simp only [binI] at h
    unfold quoI at h
    split at h
    · rename_i m
      obtain rfl := Option.some.inj h
      simp only [binOp_quo, Op.intDiv]
      rw [if_neg (by show ¬ ((m + 1 : Nat) : Int) = 0; omega)]
      rfl
    · cases h
  case rem =>
    simp only [binI] at h
    unfold remI at h
    split at h
    · rename_i m
      obtain rfl := Option.some.inj h
      simp only [binOp_rem, Op.intDiv]
      rw [if_neg (by show ¬ ((m + 1 : Nat) : Int) = 0; omega)]
      rfl
    · cases h
  case eql => simp only [binI, Option.some.injEq] at h; subst h; rw [binOp_eql]; exact congrArg (fun b => Result.ok (Value.bool b) w) (by by_cases e : a = b <;> simp [e])
  case neq => simp only [binI, Option.some.injEq] at h; subst h; rw [binOp_neq]; exact congrArg (fun b => Result.ok (Value.bool b) w) (by by_cases e : a = b <;> simp [e])
  all_goals simp only [binI, Option.some.injEq, reduceCtorEq] at h
  all_goals (subst h; simp [go_sem])
theorem shI_run {P : Program} {k k' : IntKind} {a b : Int} {op : BinOp} {v : Value} (h : shI k a b op = some v) (t : TypeId) (w : World) : (binOp op t (.int k a) (.int k' b)).run P w = .ok v w := by
  cases op
  case shl =>
    simp only [shI] at h
    unfold shlI at h
    split at h
    · rename_i m
      obtain rfl := Option.some.inj h
      have h0 : (0 : Int) ≤ Int.ofNat m := Int.natCast_nonneg m
      simp only [binOp_shl, shift_shl_any _ _ _ _ h0]
      simp
    · cases h
  case shr =>
    simp only [shI] at h
    unfold shrI at h
    split at h
    · rename_i m
      obtain rfl := Option.some.inj h
      have h0 : (0 : Int) ≤ Int.ofNat m := Int.natCast_nonneg m
      simp only [binOp_shr, shift_shr_any _ _ _ _ h0]
      simp
    · cases h
  all_goals cases h
theorem binS_run {P : Program} {a b : ByteArray} {op : BinOp} {v : Value} (h : binS a b op = some v) (t : TypeId) (w : World) : (binOp op t (.string a) (.string b)).run P w = .ok v w := by
  cases op <;> simp only [binS, Option.some.injEq, reduceCtorEq] at h
  all_goals (subst h; simp [go_sem])

theorem field_run {P : Program} {t n b o i off s ft : Nat} {fs : List (Nat × Nat × Nat)} (h : (TyD.struct n fs).ok P t) (hi : fs[i]? = some (ft, off, s + 1)) (w : World) :
    (Instr.fieldAt t (.pointer (some ⟨b, o, none⟩)) i).run P w = .ok (.pointer (some ⟨b, o + off, none⟩)) w := by
  obtain ⟨⟨us, hu⟩, -, hf⟩ := h
  rw [hu] at hf
  simp only [beq_iff_eq] at hf
  rw [← hf, List.getElem?_map] at hi
  cases hx : us.toList[i]? with
  | none => rw [hx] at hi; cases hi
  | some f =>
    rw [hx] at hi
    simp only [Option.map_some, Option.some.injEq, Prod.mk.injEq] at hi
    obtain ⟨-, rfl, hs⟩ := hi
    have hx' : us[i]? = some f := by simpa using hx
    have hsz : (sizeOf f.type).run P w = .ok (s + 1) w := by
      cases hq : P.info? f.type with
      | none => rw [hq] at hs; simp at hs
      | some q => rw [hq] at hs; simp at hs; simp [sizeOf, typeInfo, hq, hs]
    simp [Instr.fieldAt, run_underlying hu, hx', Instr.sureAddr, fieldPlace, hsz, Addr.add_mid]

theorem pv_run {P : Program} {T : List (Nat × TyD)} (hT : TyOk P T) {n : NN} {a : Act} {l : Env} (ha : Fr n a l) {o : Oper} {v : Value} (h : pv T l o.op = some v) (w : World) :
    (execOp a.eval o).run P w = .ok (.value v) w := by
  unfold execOp
  revert h
  cases o.op with
  | move x => intro h; simp [ha.eval h]
  | assign x => intro h; simp [ha.eval h]
  | pick c x y =>
    intro h
    simp only [pv] at h
    generalize hc : evl l c = cv at h
    unfold pvPick at h
    split at h
    · simp [ha.eval hc, ha.eval h, asBool]
    · simp [ha.eval hc, ha.eval h, asBool]
    · cases h
  | binOp op t x y t2 =>
    intro h
    simp only [pv] at h
    generalize hx : evl l x = xv at h
    generalize hy : evl l y = yv at h
    unfold pvBin at h
    split at h
    · rename_i k p k' q
      cases hs : isSh op with
      | true =>
        rw [hs] at h
        simp only [cond_true] at h
        have := shI_run (P := P) (k' := k') h t w
        simp [ha.eval hx, ha.eval hy, eqGuard_at_int, this]
      | false =>
        rw [hs] at h
        simp only [cond_false] at h
        split at h
        · rename_i e; subst e
          have := binI_run (P := P) h t w
          simp [ha.eval hx, ha.eval hy, eqGuard_at_int, this]
        · cases h
    · have := binS_run (P := P) h t w
      simp [ha.eval hx, ha.eval hy, eqGuard_at_string, this]
    · rename_i p q
      generalize ht : tyOf T t = tv at h
      unfold pvBool at h
      split at h
      · obtain rfl := Option.some.inj h
        simp [ha.eval hx, ha.eval hy, eqGuard_at_bool, run_eql_bool w t p q (hT.of ht)]
      · obtain rfl := Option.some.inj h
        simp [ha.eval hx, ha.eval hy, eqGuard_at_bool, run_neq_bool w t p q (hT.of ht)]
      · cases h
    · cases h
  | unOp op t x =>
    intro h
    simp only [pv] at h
    generalize hx : evl l x = xv at h
    unfold pvUn at h
    split at h <;> first | (cases h; done) | (obtain rfl := Option.some.inj h; have e := ha.eval hx; simp only [e]; simp [go_sem])
  | convert s d x =>
    intro h
    simp only [pv] at h
    generalize h1 : tyOf T s = sv at h
    generalize h2 : tyOf T d = dv at h
    generalize h3 : evl l x = xv at h
    unfold pvConv at h
    split at h
    · rename_i k1 k2 k3 m
      obtain rfl := Option.some.inj h
      have e1 : P.underlying s = some (.int k1) := hT.of h1
      have e2 : P.underlying d = some (.int k2) := hT.of h2
      simp [ha.eval h3, convert, run_underlying e1, run_underlying e2, Conv.intToInt]
    · obtain rfl := Option.some.inj h
      have e1 : P.underlying s = some .string := hT.of h1
      have e2 : P.underlying d = some .string := hT.of h2
      simp [ha.eval h3, convert, run_underlying e1, run_underlying e2]
    · cases h
  | extract t i =>
    intro h
    simp only [pv] at h
    generalize hx : evl l t = xv at h
    unfold pvExt at h
    split at h
    · simp [ha.eval hx, Instr.extract, h]
    · cases h
  | nilCheck x =>
    intro h
    simp only [pv] at h
    generalize hx : evl l x = xv at h
    unfold pvNil at h
    split at h
    · obtain rfl := Option.some.inj h
      simp [ha.eval hx]
    · cases h
  | fieldAddr t x i =>
    intro h
    simp only [pv] at h
    generalize ht : tyOf T t = tv at h
    generalize hx : evl l x = xv at h
    unfold pvField at h
    split at h
    · rename_i m fs b off0
      generalize hi : fs[i]? = fv at h
      unfold pvOff at h
      split at h
      · obtain rfl := Option.some.inj h
        have := field_run (b := b) (o := off0) (hT.of ht) hi w
        simp [ha.eval hx, this]
      · cases h
    · cases h
  | call c =>
    intro h
    simp only [pv] at h
    obtain ⟨callee, ⟨args⟩, ⟨argTypes⟩⟩ := c
    unfold pvCall at h
    simp only at h
    split at h
    · rename_i x t
      generalize ht : tyOf T t = tv at h
      generalize hx : evl l x = xv at h
      unfold pvLen at h
      split at h
      · rename_i e s b m c
        obtain rfl := Option.some.inj h
        have e1 : P.underlying t = some (.slice e) := (hT.of ht).1
        simp [resolve, invoke, builtin, ha.eval hx, Builtin.len_, run_underlying e1, goInt]
      · obtain rfl := Option.some.inj h
        have e1 : P.underlying t = some .string := hT.of ht
        simp [resolve, invoke, builtin, ha.eval hx, Builtin.len_, run_underlying e1, goInt]
      · cases h
    · rename_i x y
      generalize hx : evl l x = xv at h
      generalize hy : evl l y = yv at h
      unfold pvMin at h
      split at h
      · obtain rfl := Option.some.inj h
        simp [resolve, invoke, builtin, ha.eval hx, ha.eval hy, run_min_int2]
      · cases h
    · rename_i x y
      generalize hx : evl l x = xv at h
      generalize hy : evl l y = yv at h
      unfold pvMin at h
      split at h
      · obtain rfl := Option.some.inj h
        simp [resolve, invoke, builtin, ha.eval hx, ha.eval hy, run_max_int2]
      · cases h
    · cases h
  | _ => intro h; cases h
end K
end Go.Proofs.Ytilmfnlaenneeaa

/- The types of this seat's program, as far as walks ask for them: printed by gen_ty.py. -/
namespace Go.Proofs.Ytilmfnlaenneeaa
namespace K

def ty : List (Nat × TyD) := [(2, .int .i64), (3, .int .i64), (4, .bool), (5, .int .u8), (6, .int .u8), (7, .struct 4 [(2, 0, 1), (3, 1, 1), (4, 2, 1), (6, 3, 1)]), (8, .struct 4 [(2, 0, 1), (3, 1, 1), (4, 2, 1), (6, 3, 1)]), (9, .str), (10, .str), (11, .str), (12, .int .u64), (13, .struct 2 [(9, 0, 1), (12, 1, 1)]), (14, .struct 2 [(9, 0, 1), (12, 1, 1)]), (15, .ptr 77), (16, .ptr 80), (17, .ptr 89), (18, .struct 1 [(17, 0, 1)]), (19, .struct 1 [(17, 0, 1)]), (21, .int .i32), (22, .slice 30 4), (25, .ptr 55), (29, .struct 4 [(3, 0, 1), (3, 1, 1), (9, 2, 1), (9, 3, 1)]), (30, .struct 4 [(3, 0, 1), (3, 1, 1), (9, 2, 1), (9, 3, 1)]), (31, .slice 9 1), (38, .int .u64), (39, .slice 5 1), (43, .ptr 46), (44, .slice 3 1), (45, .struct 2 [(31, 0, 1), (44, 1, 1)]), (46, .struct 2 [(31, 0, 1), (44, 1, 1)]), (53, .ptr 60), (54, .struct 3 [(53, 0, 1), (3, 1, 1), (3, 2, 1)]), (55, .struct 3 [(53, 0, 1), (3, 1, 1), (3, 2, 1)]), (56, .arr 8 9 1), (57, .arr 8 3 1), (58, .arr 8 53 1), (59, .struct 28 [(4, 0, 1), (3, 1, 1), (56, 2, 8), (57, 10, 8), (58, 18, 8), (53, 26, 1), (53, 27, 1)]), (60, .struct 28 [(4, 0, 1), (3, 1, 1), (56, 2, 8), (57, 10, 8), (58, 18, 8), (53, 26, 1), (53, 27, 1)]), (64, .slice 67 2), (66, .struct 2 [(9, 0, 1), (3, 1, 1)]), (67, .struct 2 [(9, 0, 1), (3, 1, 1)]), (71, .slice 53 1), (76, .struct 4 [(17, 0, 1), (17, 1, 1), (17, 2, 1), (9, 3, 1)]), (77, .struct 4 [(17, 0, 1), (17, 1, 1), (17, 2, 1), (9, 3, 1)]), (79, .struct 0 [(78, 0, 0)]), (80, .struct 0 [(78, 0, 0)]), (81, .int .u32), (82, .int .u8), (83, .int .u8), (85, .ptr 5), (86, .int .i32), (87, .int .i32), (88, .struct 11 [(12, 0, 1), (12, 1, 1), (81, 2, 1), (82, 3, 1), (5, 4, 1), (5, 5, 1), (83, 6, 1), (84, 7, 1), (85, 8, 1), (86, 9, 1), (87, 10, 1)]), (89, .struct 11 [(12, 0, 1), (12, 1, 1), (81, 2, 1), (82, 3, 1), (5, 4, 1), (5, 5, 1), (83, 6, 1), (84, 7, 1), (85, 8, 1), (86, 9, 1), (87, 10, 1)])]
theorem tyOk2 : (.int .i64 : TyD).ok Try.prog 2 := Try.underlying2
theorem tyOk3 : (.int .i64 : TyD).ok Try.prog 3 := Try.underlying3
theorem tyOk4 : (.bool : TyD).ok Try.prog 4 := Try.underlying4
theorem tyOk5 : (.int .u8 : TyD).ok Try.prog 5 := Try.underlying5
theorem tyOk6 : (.int .u8 : TyD).ok Try.prog 6 := Try.underlying6
theorem tyOk7 : (.struct 4 [(2, 0, 1), (3, 1, 1), (4, 2, 1), (6, 3, 1)] : TyD).ok Try.prog 7 := ⟨⟨_, Try.underlying7⟩, by kernel_rfl, by kernel_rfl⟩
theorem tyOk8 : (.struct 4 [(2, 0, 1), (3, 1, 1), (4, 2, 1), (6, 3, 1)] : TyD).ok Try.prog 8 := ⟨⟨_, Try.underlying8⟩, by kernel_rfl, by kernel_rfl⟩
theorem tyOk9 : (.str : TyD).ok Try.prog 9 := Try.underlying9
theorem tyOk10 : (.str : TyD).ok Try.prog 10 := Try.underlying10
theorem tyOk11 : (.str : TyD).ok Try.prog 11 := Try.underlying11
theorem tyOk12 : (.int .u64 : TyD).ok Try.prog 12 := Try.underlying12
theorem tyOk13 : (.struct 2 [(9, 0, 1), (12, 1, 1)] : TyD).ok Try.prog 13 := ⟨⟨_, Try.underlying13⟩, by kernel_rfl, by kernel_rfl⟩
theorem tyOk14 : (.struct 2 [(9, 0, 1), (12, 1, 1)] : TyD).ok Try.prog 14 := ⟨⟨_, Try.underlying14⟩, by kernel_rfl, by kernel_rfl⟩
theorem tyOk15 : (.ptr 77 : TyD).ok Try.prog 15 := Try.underlying15
theorem tyOk16 : (.ptr 80 : TyD).ok Try.prog 16 := Try.underlying16
theorem tyOk17 : (.ptr 89 : TyD).ok Try.prog 17 := Try.underlying17
theorem tyOk18 : (.struct 1 [(17, 0, 1)] : TyD).ok Try.prog 18 := ⟨⟨_, Try.underlying18⟩, by kernel_rfl, by kernel_rfl⟩
theorem tyOk19 : (.struct 1 [(17, 0, 1)] : TyD).ok Try.prog 19 := ⟨⟨_, Try.underlying19⟩, by kernel_rfl, by kernel_rfl⟩
theorem tyOk21 : (.int .i32 : TyD).ok Try.prog 21 := Try.underlying21
theorem tyOk22 : (.slice 30 4 : TyD).ok Try.prog 22 := ⟨Try.underlying22, by kernel_rfl⟩
theorem tyOk25 : (.ptr 55 : TyD).ok Try.prog 25 := Try.underlying25
theorem tyOk29 : (.struct 4 [(3, 0, 1), (3, 1, 1), (9, 2, 1), (9, 3, 1)] : TyD).ok Try.prog 29 := ⟨⟨_, Try.underlying29⟩, by kernel_rfl, by kernel_rfl⟩
theorem tyOk30 : (.struct 4 [(3, 0, 1), (3, 1, 1), (9, 2, 1), (9, 3, 1)] : TyD).ok Try.prog 30 := ⟨⟨_, Try.underlying30⟩, by kernel_rfl, by kernel_rfl⟩
theorem tyOk31 : (.slice 9 1 : TyD).ok Try.prog 31 := ⟨Try.underlying31, by kernel_rfl⟩
theorem tyOk38 : (.int .u64 : TyD).ok Try.prog 38 := Try.underlying38
theorem tyOk39 : (.slice 5 1 : TyD).ok Try.prog 39 := ⟨Try.underlying39, by kernel_rfl⟩
theorem tyOk43 : (.ptr 46 : TyD).ok Try.prog 43 := Try.underlying43
theorem tyOk44 : (.slice 3 1 : TyD).ok Try.prog 44 := ⟨Try.underlying44, by kernel_rfl⟩
theorem tyOk45 : (.struct 2 [(31, 0, 1), (44, 1, 1)] : TyD).ok Try.prog 45 := ⟨⟨_, Try.underlying45⟩, by kernel_rfl, by kernel_rfl⟩
theorem tyOk46 : (.struct 2 [(31, 0, 1), (44, 1, 1)] : TyD).ok Try.prog 46 := ⟨⟨_, Try.underlying46⟩, by kernel_rfl, by kernel_rfl⟩
theorem tyOk53 : (.ptr 60 : TyD).ok Try.prog 53 := Try.underlying53
theorem tyOk54 : (.struct 3 [(53, 0, 1), (3, 1, 1), (3, 2, 1)] : TyD).ok Try.prog 54 := ⟨⟨_, Try.underlying54⟩, by kernel_rfl, by kernel_rfl⟩
theorem tyOk55 : (.struct 3 [(53, 0, 1), (3, 1, 1), (3, 2, 1)] : TyD).ok Try.prog 55 := ⟨⟨_, Try.underlying55⟩, by kernel_rfl, by kernel_rfl⟩
theorem tyOk56 : (.arr 8 9 1 : TyD).ok Try.prog 56 := ⟨Try.underlying56, by kernel_rfl, by kernel_rfl⟩
theorem tyOk57 : (.arr 8 3 1 : TyD).ok Try.prog 57 := ⟨Try.underlying57, by kernel_rfl, by kernel_rfl⟩
theorem tyOk58 : (.arr 8 53 1 : TyD).ok Try.prog 58 := ⟨Try.underlying58, by kernel_rfl, by kernel_rfl⟩
theorem tyOk59 : (.struct 28 [(4, 0, 1), (3, 1, 1), (56, 2, 8), (57, 10, 8), (58, 18, 8), (53, 26, 1), (53, 27, 1)] : TyD).ok Try.prog 59 := ⟨⟨_, Try.underlying59⟩, by kernel_rfl, by kernel_rfl⟩
theorem tyOk60 : (.struct 28 [(4, 0, 1), (3, 1, 1), (56, 2, 8), (57, 10, 8), (58, 18, 8), (53, 26, 1), (53, 27, 1)] : TyD).ok Try.prog 60 := ⟨⟨_, Try.underlying60⟩, by kernel_rfl, by kernel_rfl⟩
theorem tyOk64 : (.slice 67 2 : TyD).ok Try.prog 64 := ⟨Try.underlying64, by kernel_rfl⟩
theorem tyOk66 : (.struct 2 [(9, 0, 1), (3, 1, 1)] : TyD).ok Try.prog 66 := ⟨⟨_, Try.underlying66⟩, by kernel_rfl, by kernel_rfl⟩
theorem tyOk67 : (.struct 2 [(9, 0, 1), (3, 1, 1)] : TyD).ok Try.prog 67 := ⟨⟨_, Try.underlying67⟩, by kernel_rfl, by kernel_rfl⟩
theorem tyOk71 : (.slice 53 1 : TyD).ok Try.prog 71 := ⟨Try.underlying71, by kernel_rfl⟩
theorem tyOk76 : (.struct 4 [(17, 0, 1), (17, 1, 1), (17, 2, 1), (9, 3, 1)] : TyD).ok Try.prog 76 := ⟨⟨_, Try.underlying76⟩, by kernel_rfl, by kernel_rfl⟩
theorem tyOk77 : (.struct 4 [(17, 0, 1), (17, 1, 1), (17, 2, 1), (9, 3, 1)] : TyD).ok Try.prog 77 := ⟨⟨_, Try.underlying77⟩, by kernel_rfl, by kernel_rfl⟩
theorem tyOk79 : (.struct 0 [(78, 0, 0)] : TyD).ok Try.prog 79 := ⟨⟨_, Try.underlying79⟩, by kernel_rfl, by kernel_rfl⟩
theorem tyOk80 : (.struct 0 [(78, 0, 0)] : TyD).ok Try.prog 80 := ⟨⟨_, Try.underlying80⟩, by kernel_rfl, by kernel_rfl⟩
theorem tyOk81 : (.int .u32 : TyD).ok Try.prog 81 := Try.underlying81
theorem tyOk82 : (.int .u8 : TyD).ok Try.prog 82 := Try.underlying82
theorem tyOk83 : (.int .u8 : TyD).ok Try.prog 83 := Try.underlying83
theorem tyOk85 : (.ptr 5 : TyD).ok Try.prog 85 := Try.underlying85
theorem tyOk86 : (.int .i32 : TyD).ok Try.prog 86 := Try.underlying86
theorem tyOk87 : (.int .i32 : TyD).ok Try.prog 87 := Try.underlying87
theorem tyOk88 : (.struct 11 [(12, 0, 1), (12, 1, 1), (81, 2, 1), (82, 3, 1), (5, 4, 1), (5, 5, 1), (83, 6, 1), (84, 7, 1), (85, 8, 1), (86, 9, 1), (87, 10, 1)] : TyD).ok Try.prog 88 := ⟨⟨_, Try.underlying88⟩, by kernel_rfl, by kernel_rfl⟩
theorem tyOk89 : (.struct 11 [(12, 0, 1), (12, 1, 1), (81, 2, 1), (82, 3, 1), (5, 4, 1), (5, 5, 1), (83, 6, 1), (84, 7, 1), (85, 8, 1), (86, 9, 1), (87, 10, 1)] : TyD).ok Try.prog 89 := ⟨⟨_, Try.underlying89⟩, by kernel_rfl, by kernel_rfl⟩
theorem tyOk : TyOk Try.prog ty := ⟨tyOk2, tyOk3, tyOk4, tyOk5, tyOk6, tyOk7, tyOk8, tyOk9, tyOk10, tyOk11, tyOk12, tyOk13, tyOk14, tyOk15, tyOk16, tyOk17, tyOk18, tyOk19, tyOk21, tyOk22, tyOk25, tyOk29, tyOk30, tyOk31, tyOk38, tyOk39, tyOk43, tyOk44, tyOk45, tyOk46, tyOk53, tyOk54, tyOk55, tyOk56, tyOk57, tyOk58, tyOk59, tyOk60, tyOk64, tyOk66, tyOk67, tyOk71, tyOk76, tyOk77, tyOk79, tyOk80, tyOk81, tyOk82, tyOk83, tyOk85, tyOk86, tyOk87, tyOk88, tyOk89, trivial⟩
end K
end Go.Proofs.Ytilmfnlaenneeaa

/- Memory of walks: own rows of bytes that grow; new blocks; texts' bytes. -/
namespace Go.Proofs.Ytilmfnlaenneeaa
open Go.RowKit
namespace K

/-- The slice v is the call's own, and reads as the bytes l. -/
def Bu (w : World) (v : Value) (l : List Int) : Prop := Buf .u8 5 w 0 v l
/-- What becomes of memory when the own slice v becomes v'. -/
def Grow (w : World) (v : Value) (w' : World) (v' : Value) : Prop :=
  Keep (fun b => b < w.heap.size ∧ v.ownBlock ≠ some b) w w' ∧ ∀ g, v'.ownBlock = some g → v.ownBlock = some g ∨ w.heap.size ≤ g

theorem Grow.refl (w : World) (v : Value) : Grow w v w v := ⟨Keep.refl _ _, fun _ h => .inl h⟩
theorem Grow.trans {w w1 w2 : World} {v v1 v2 : Value} (h : Grow w v w1 v1) (k : Grow w1 v1 w2 v2) : Grow w v w2 v2 :=
  ⟨h.1.trans (k.1.mono fun b hb => ⟨Nat.lt_of_lt_of_le hb.1 h.1.size, fun e => (h.2 b e).elim hb.2 (fun h2 => absurd hb.1 (by omega))⟩),
   fun g hg => (k.2 g hg).elim (h.2 g) (fun h2 => .inr (Nat.le_trans h.1.size h2))⟩
theorem Grow.alloc {w w1 : World} {v v1 : Value} (h : Grow w v w1 v1) (o : Obj) : Grow w v (w1.alloc o) v1 :=
  ⟨h.1.trans ((Keep.refl _ w1).alloc (fun _ hk => Nat.lt_of_lt_of_le hk.1 h.1.size) o), h.2⟩
theorem Grow.below {w w1 w2 : World} {v v1 : Value} (h : Grow w v w1 v1) (k : Below w1.heap.size w1 w2) : Grow w v w2 v1 :=
  ⟨h.1.trans ((Keep.of_below k).mono fun _ hb => Nat.lt_of_lt_of_le hb.1 h.1.size), h.2⟩
theorem Grow.drewN {w w1 : World} {v v1 : Value} (h : Grow w v w1 v1) (n : Nat) : Grow w v (w1.drewN n) v1 := ⟨h.1.drewN n, h.2⟩
/-- What lies below where the own slices begin stays. -/
theorem Grow.old {w w' : World} {v v' : Value} (h : Grow w v w' v') {B : Nat} (hB : B ≤ w.heap.size) (hv : ∀ g, v.ownBlock = some g → B ≤ g) : Below B w w' :=
  (h.1.mono fun b (hb : b < B) => ⟨Nat.lt_of_lt_of_le hb hB, fun e => absurd (hv b e) (by omega)⟩).below
theorem Grow.own {w w' : World} {v v' : Value} (h : Grow w v w' v') {B : Nat} (hB : B ≤ w.heap.size) (hv : ∀ g, v.ownBlock = some g → B ≤ g) : ∀ g, v'.ownBlock = some g → B ≤ g :=
  fun g hg => (h.2 g hg).elim (hv g) (fun h2 => Nat.le_trans hB h2)

theorem Bu.nil (w : World) : Bu w (.slice none 0 0) [] := Buf.nil _ _ _ _
theorem Bu.lt {w : World} {v : Value} {l : List Int} (h : Bu w v l) : ∀ g, v.ownBlock = some g → g < w.heap.size := fun g hg => (Buf.own h g hg).2
theorem Bu.keep {K : Nat → Prop} {w w' : World} {v : Value} {l : List Int} (h : Bu w v l) (hk : Keep K w w') (hK : ∀ g, v.ownBlock = some g → K g) : Bu w' v l :=
  Buf.keep h hk fun g _ _ hg => hK g hg
theorem Bu.alloc {w : World} {v : Value} {l : List Int} (h : Bu w v l) (o : Obj) : Bu (w.alloc o) v l := Buf.alloc h o
theorem Bu.below {w w' : World} {v : Value} {l : List Int} (h : Bu w v l) (hk : Below w.heap.size w w') : Bu w' v l := Buf.below h hk (Nat.le_refl _)
theorem Bu.drewN {w : World} {v : Value} {l : List Int} (h : Bu w v l) (n : Nat) : Bu (w.drewN n) v l := h.below (((Keep.of_below (Below.refl _ w)).drewN n).below)
theorem Bu.sl {w : World} {v : Value} {l : List Int} (h : Bu w v l) : Sl .u8 w v l := Buf.sl h
/-- A row of bytes that has just been laid. -/
theorem Bu.new (w : World) (l : List Int) (hm : l.length ≤ maxLen) : Bu (w.alloc (.cells (l.map (Value.int .u8)).toArray 5)) (.slice (some ⟨w.heap.size, 0, none⟩) l.length l.length) l := by
  have := Buf.mk (k := .u8) (e := 5) (w := w) (base := 0) l [] (Nat.zero_le _) (by simpa using hm)
  simpa [Bu] using this

theorem Sl.slV {w : World} {v : Value} {l : List Int} (h : Sl .u8 w v l) : SlV w (fun _ => True) 1 v l.length (l.map (Value.int .u8)) := by
  obtain ⟨sp, cap, rfl, h1, h2, h3, h4⟩ := h
  refine ⟨by simp, Ones.int _ _, sp, cap, rfl, h1, h2, h4, fun h0 => ?_⟩
  obtain ⟨b, o, e, hb, hr⟩ := h3 h0
  refine ⟨b, o, e, hb, trivial, fun j hj => ?_⟩
  rw [List.length_map] at hj
  rw [hr j hj]
  simp [nth, hj]

theorem elemU8 : ElemV Try.prog 39 5 1 1 := ElemV.mk' (z := .int .u8 0) Try.underlying39 (by kernel_rfl) rfl (by omega)

theorem bytesWorld_below (w : World) (e : TypeId) (s : ByteArray) : Below w.heap.size w (Lib.bytesWorld w e s) :=
  ⟨rfl, rfl, rfl, by rw [Lib.bytesWorld_size]; omega, fun k hk => Lib.bytesWorld_at_old w e s k hk⟩

theorem Bu.form {w : World} {v : Value} {l : List Int} (h : Bu w v l) : ∃ sp c, v = .slice sp l.length c ∧ l.length ≤ c ∧ c ≤ 9223372036854775807 := by
  obtain ⟨sp, c, h1, h2, h3, -⟩ := Bu.sl h
  exact ⟨sp, c, h1, h2, h3⟩
theorem Bu.fresh {w w' : World} {v : Value} {l : List Int} (h : Bu w v l) (hk : Keep (fun b => b < w.heap.size) w w') : Bu w' v l := h.keep hk fun g hg => h.lt g hg

/-- A byte of an own row: where it lies; it may be written. -/
theorem Bu.at {w : World} {v : Value} {l : List Int} (h : Bu w v l) {j : Nat} (hj : j < l.length) : ∃ g c, v = .slice (some ⟨g, 0, none⟩) l.length c ∧ v.ownBlock = some g ∧ w.cell? ⟨g, j, none⟩ = some (.int .u8 (nth l j)) ∧ w.frozen? ⟨g, j, none⟩ = false ∧
    ∀ x, Bu (w.setCell ⟨g, j, none⟩ (.int .u8 x)) v (l.set j x) ∧ Grow w v (w.setCell ⟨g, j, none⟩ (.int .u8 x)) v := by
  have ho : OwnV 5 1 w (fun g => v.ownBlock = some g) v l.length (l.map (Value.int .u8)) := ⟨h, Ones.int _ _, fun g hg => hg⟩
  rcases Buf.block h with ⟨-, rfl⟩ | ⟨g, c, rest, rfl, -⟩
  · simp at hj
  · have hat := ho.at j (by simpa using hj)
    have hnth : (l.map (Value.int .u8)).getD j undef = .int .u8 (nth l j) := by simp [nth, hj]
    rw [hnth] at hat
    refine ⟨g, c, rfl, rfl, hat, ho.free j, fun x => ⟨?_, ?_, fun g2 hg2 => .inl hg2⟩⟩
    · have := (ho.stored j (u := .int .u8 x) rfl).1
      rw [← List.map_set] at this
      show World.ownsRow _ _ _ _ _ _ _
      rw [List.length_set]
      exact this
    · exact (Keep.refl _ w).setCell (fun hk => hk.2 rfl) _

/-- A new block. -/
structure Fresh (w : World) (g : Nat) (w' : World) (T : TypeId) (cs : List Value) : Prop where
  eq : g = w.heap.size
  blk : VBlk T w' g cs
  below : Below w.heap.size w w'
  size : w'.heap.size = w.heap.size + 1
theorem Fresh.mk' (w : World) (T : TypeId) (cs : List Value) : Fresh w w.heap.size (w.alloc (.cells cs.toArray T)) T cs :=
  ⟨rfl, VBlk.mk w cs T, (Below.refl _ w).alloc (Nat.le_refl _) _, by show (w.heap.push _).size = _; simp⟩

theorem VBlk.rangeAt {T : TypeId} {w : World} {b : Nat} {cs : List Value} (h : VBlk T w b cs) : w.rangeAt b 0 cs := by
  intro j v hj
  have hlt : j < cs.length := by
    rcases Nat.lt_or_ge j cs.length with h | h
    · exact h
    · rw [List.getElem?_eq_none h] at hj; cases hj
  have := h.cell j hlt
  rw [Nat.zero_add]
  rw [this]
  simp [List.getD_eq_getElem?_getD, hj]
end K
end Go.Proofs.Ytilmfnlaenneeaa

/- Walks over the slots that are asked for: the moves. -/
namespace Go.Proofs.Ytilmfnlaenneeaa
open Go.RowKit
namespace K
variable {n : NN} {Q : Exit → Act → World → Prop} {l : Env} {w w' : World} {ops : Array Oper} {o : Oper} {rest : List Oper} {d : Nat}

theorem WL.le {m : Env} (hs : ∀ k v, look m k = some v → look l k = some v) (h : WL n ops Q rest m w) : WL n ops Q rest l w := ⟨fun a ha => h.go a ⟨ha.size, ha.defers, fun k v hk => ha.slot k v (hs k v hk)⟩⟩
/-- A slot's value in other words. -/
theorem WL.as (k : Nat) (v' : Value) {v : Value} (hk : look l k = some v) (e : v = v') (h : WL n ops Q rest ((k, v') :: l) w) : WL n ops Q rest l w :=
  h.le fun j u hj => by
    unfold look at hj
    cases hb : Nat.beq k j with
    | true =>
      rw [hb] at hj
      obtain rfl : k = j := Nat.eq_of_beq_eq_true hb
      obtain rfl : v' = u := Option.some.inj hj
      subst e
      exact hk
    | false => rw [hb] at hj; exact hj
theorem look_free {d d2 : Nat} {u v' : Value} (hf : look l d = none) : ∀ k v, look ((d2, v') :: l) k = some v → look ((d2, v') :: (d, u) :: l) k = some v := by
  intro k v hk
  unfold look at hk ⊢
  cases hb : Nat.beq d2 k with
  | true => rw [hb] at hk; exact hk
  | false =>
    rw [hb] at hk
    unfold look
    cases hb2 : Nat.beq d k with
    | true => obtain rfl : d = k := Nat.eq_of_beq_eq_true hb2; rw [cond_false] at hk; rw [hf] at hk; cases hk
    | false => exact hk
theorem WL.nil (h : WQ n Q .normal l w) : WL n ops Q [] l w := ⟨fun a ha => lw_nil (h.go a ha)⟩
theorem WL.step {v : Value} (hg : o.guard = none) (hd : o.dst = some d) (hn : Nat.blt d n.n = true) (hr : ∀ a, Fr n a l → (execOp a.eval o).run Try.prog w = .ok (.value v) w')
    (h : WL n ops Q rest ((d, v) :: l) w') : WL n ops Q (o :: rest) l w :=
  ⟨fun a ha => lw_value hg (hr a ha) (by rw [hd]; exact h.go _ (ha.put hn v))⟩
theorem WL.stepU (hg : o.guard = none) (hd : o.dst = none) (hr : ∀ a, Fr n a l → (execOp a.eval o).run Try.prog w = .ok .skip w') (h : WL n ops Q rest l w') : WL n ops Q (o :: rest) l w :=
  ⟨fun a ha => lw_skip hg (hr a ha) (by rw [hd]; exact h.go _ (ha.none _))⟩
theorem WL.pure {v : Value} (hg : o.guard = none) (hd : o.dst = some d) (hn : Nat.blt d n.n = true) (hv : pv ty l o.op = some v) (h : WL n ops Q rest ((d, v) :: l) w) : WL n ops Q (o :: rest) l w :=
  WL.step hg hd hn (fun _ ha => pv_run tyOk ha hv w) h
theorem WL.pureAs {v : Value} (v' : Value) (hg : o.guard = none) (hd : o.dst = some d) (hn : Nat.blt d n.n = true) (hv : pv ty l o.op = some v) (e : v = v') (h : WL n ops Q rest ((d, v') :: l) w) : WL n ops Q (o :: rest) l w :=
  WL.step hg hd hn (fun _ ha => pv_run tyOk ha (hv.trans (congrArg some e)) w) h
/-- A sum that stays an int. -/
theorem WL.i64 {x : Int} (hg : o.guard = none) (hd : o.dst = some d) (hn : Nat.blt d n.n = true) (hv : pv ty l o.op = some (.int .i64 (IntKind.wrap .i64 x))) (hx : -9223372036854775808 ≤ x ∧ x ≤ 9223372036854775807)
    (h : WL n ops Q rest ((d, .int .i64 x) :: l) w) : WL n ops Q (o :: rest) l w := WL.pureAs _ hg hd hn hv (congrArg (Value.int .i64) (IntWalk.i64_in _ hx)) h
theorem WL.u64 {x : Int} (hg : o.guard = none) (hd : o.dst = some d) (hn : Nat.blt d n.n = true) (hv : pv ty l o.op = some (.int .u64 (IntKind.wrap .u64 x))) (hx : 0 ≤ x ∧ x ≤ 18446744073709551615)
    (h : WL n ops Q rest ((d, .int .u64 x) :: l) w) : WL n ops Q (o :: rest) l w := WL.pureAs _ hg hd hn hv (congrArg (Value.int .u64) (by rw [IntKind.wrap_u64]; omega)) h
theorem WL.u8 {x : Int} (hg : o.guard = none) (hd : o.dst = some d) (hn : Nat.blt d n.n = true) (hv : pv ty l o.op = some (.int .u8 (IntKind.wrap .u8 x))) (hx : 0 ≤ x ∧ x ≤ 255)
    (h : WL n ops Q rest ((d, .int .u8 x) :: l) w) : WL n ops Q (o :: rest) l w := WL.pureAs _ hg hd hn hv (congrArg (Value.int .u8) (by rw [IntKind.wrap_u8]; omega)) h

/-- A test that is decided. -/
theorem WL.decT {p : Prop} [Decidable p] (hg : o.guard = none) (hd : o.dst = some d) (hn : Nat.blt d n.n = true) (hv : pv ty l o.op = some (.bool (decide p))) (hp : p) (h : WL n ops Q rest ((d, .bool true) :: l) w) : WL n ops Q (o :: rest) l w :=
  WL.pureAs _ hg hd hn hv (congrArg Value.bool (decide_eq_true hp)) h
theorem WL.decF {p : Prop} [Decidable p] (hg : o.guard = none) (hd : o.dst = some d) (hn : Nat.blt d n.n = true) (hv : pv ty l o.op = some (.bool (decide p))) (hp : ¬ p) (h : WL n ops Q rest ((d, .bool false) :: l) w) : WL n ops Q (o :: rest) l w :=
  WL.pureAs _ hg hd hn hv (congrArg Value.bool (decide_eq_false hp)) h
theorem WL.top {v v' : Value} (e : v = v') (h : WL n ops Q rest ((d, v') :: l) w) : WL n ops Q rest ((d, v) :: l) w := by subst e; exact h
theorem WL.topT {p : Prop} [Decidable p] (hp : p) (h : WL n ops Q rest ((d, .bool true) :: l) w) : WL n ops Q rest ((d, .bool (decide p)) :: l) w := WL.top (congrArg Value.bool (decide_eq_true hp)) h
theorem WL.topF {p : Prop} [Decidable p] (hp : ¬ p) (h : WL n ops Q rest ((d, .bool false) :: l) w) : WL n ops Q rest ((d, .bool (decide p)) :: l) w := WL.top (congrArg Value.bool (decide_eq_false hp)) h
theorem WL.top64 {x : Int} (hx : -9223372036854775808 ≤ x ∧ x ≤ 9223372036854775807) (h : WL n ops Q rest ((d, .int .i64 x) :: l) w) : WL n ops Q rest ((d, .int .i64 (IntKind.wrap .i64 x)) :: l) w := WL.top (congrArg (Value.int .i64) (IntWalk.i64_in _ hx)) h
def isB : Value → Option Bool
  | .bool b => some b
  | _ => none
def asked (b : Bool) : Option Bool → Bool
  | some c => c == b
  | none => false
/-- Is an operation asked for, as far as the slots tell? -/
def wants (ops : Array Oper) (l : Env) (o : Oper) : Option Bool :=
  match o.guard with
  | none => some true
  | some (j, b) => match (ops[j]?).bind (·.dst) with
    | some t => match look l t with
      | some v => some (asked b (isB v))
      | none => none
    | none => none
theorem wants_run {a : Act} {b : Bool} (ha : Fr n a l) (h : wants ops l o = some b) : Region.wanted o (yielded ops a.tmps) = b := by
  unfold wants at h
  unfold Region.wanted yielded
  cases hg : o.guard with
  | none => rw [hg] at h; obtain rfl := Option.some.inj h; rfl
  | some x =>
    obtain ⟨j, wt⟩ := x
    rw [hg] at h
    simp only at h ⊢
    cases hj : (ops[j]?).bind (·.dst) with
    | none => rw [hj] at h; cases h
    | some t =>
      rw [hj] at h
      simp only at h
      split at h
      · rename_i v hl
        obtain rfl := Option.some.inj h
        simp only [Option.bind_some, ha.slot t _ hl]
        cases v <;> rfl
      · cases h
/-- A guarded operation that is asked for. -/
theorem WL.on (hw : wants ops l o = some true) (_hg : o.guard.isSome = true) (h : WL n ops Q ({ o with guard := none } :: rest) l w) : WL n ops Q (o :: rest) l w :=
  ⟨fun a ha => lw_on (wants_run ha hw) (h.go a ha)⟩
theorem WL.off (hw : wants ops l o = some false) (hd : o.dst = some d) (hn : Nat.blt d n.n = true) (h : WL n ops Q rest ((d, undef) :: l) w) : WL n ops Q (o :: rest) l w :=
  ⟨fun a ha => lw_off (wants_run ha hw) (by rw [hd]; exact h.go _ (ha.put hn undef))⟩

/-- Does a variable of a type lie in one cell? -/
def scal : Option TyD → Bool
  | some (.struct _ _) | some (.arr _ _ _) | none => false
  | _ => true
theorem scal_run {t : Nat} (h : scal (tyOf ty t) = true) (p : Addr) {v : Value} (hc : w.cell? p = some v) : (loadVar t p).run Try.prog w = .ok v w := by
  cases ht : tyOf ty t with
  | none => rw [ht] at h; cases h
  | some x =>
    rw [ht] at h
    have hagg : (isAgg t).run Try.prog w = .ok false w := by
      unfold isAgg
      rw [Sem.run_bind]
      cases x with
      | int k => have := TyOk.of tyOk ht; rw [run_underlying this w]; rfl
      | str => have := TyOk.of tyOk ht; rw [run_underlying this w]; rfl
      | bool => have := TyOk.of tyOk ht; rw [run_underlying this w]; rfl
      | ptr e => have := TyOk.of tyOk ht; rw [run_underlying this w]; rfl
      | slice e s => have := TyOk.of tyOk ht; rw [run_underlying this.1 w]; rfl
      | struct m fs => cases h
      | arr m e s => cases h
    simp [loadVar, Sem.run_bind, hagg, hc]
theorem WL.load {t : Nat} {x : Operand} {p : Addr} {v : Value} (hg : o.guard = none) (hd : o.dst = some d) (hn : Nat.blt d n.n = true) (ho : o.op = .load t x) (hx : evl l x = some (.pointer (some p))) (ht : scal (tyOf ty t) = true)
    (hc : w.cell? p = some v) (h : WL n ops Q rest ((d, v) :: l) w) : WL n ops Q (o :: rest) l w :=
  WL.step hg hd hn (fun a ha => by unfold execOp; rw [ho]; simp [ha.eval hx, Instr.loadAt, Instr.sureAddr, scal_run ht p hc]) h
/-- Many cells at once. -/
theorem WL.loadMid {t : Nat} {x : Operand} {b off m : Nat} {cs : List Value} (hg : o.guard = none) (hd : o.dst = some d) (hn : Nat.blt d n.n = true) (ho : o.op = .load t x)
    (hx : evl l x = some (.pointer (some ⟨b, off, none⟩))) (ht : cellsN (tyOf ty t) = some m) (hc : w.rangeAt b off cs) (hm : cs.length = m) (h : WL n ops Q rest ((d, .agg cs.toArray) :: l) w) : WL n ops Q (o :: rest) l w :=
  WL.step hg hd hn (fun a ha => by
    obtain ⟨d, hu, hd, hsz⟩ := cellsN_ok tyOk ht
    unfold execOp
    rw [ho]
    have := run_loadVar_mid (P := Try.prog) w b off t cs _ hc hu hd (by rw [hsz, hm])
    simp [ha.eval hx, Instr.loadAt, Instr.sureAddr, this]) h
theorem WL.store {t : Nat} {x y : Operand} {p : Addr} {v old : Value} (hg : o.guard = none) (hd : o.dst = none) (ho : o.op = .store t x y) (hx : evl l x = some (.pointer (some p))) (hy : evl l y = some v)
    (hv : v.oneCell' = true) (hsz : (Try.prog.info? t).map (·.size) = some 1) (hc : w.cell? p = some old) (hf : w.frozen? p = false) (h : WL n ops Q rest l (w.setCell p v)) : WL n ops Q (o :: rest) l w :=
  WL.stepU hg hd (fun a ha => by
    have hs : (sizeOf t).run Try.prog w = .ok 1 w := by
      cases hq : Try.prog.info? t with
      | none => rw [hq] at hsz; cases hsz
      | some q => rw [hq] at hsz; simp at hsz; simp [sizeOf, typeInfo, hq, hsz]
    have hvc : v.cells = #[v] := by cases v <;> first | rfl | cases hv
    unfold execOp
    rw [ho]
    simp only [ha.eval hx, ha.eval hy, Instr.storeAt, Instr.sureAddr, storeVar, Sem.run_bind, Sem.run_pure, Result.andThen_ok, hs, hvc]
    simp [storeCells, run_store Try.prog w p v _ hv, hc, hf, Addr.add_zero']) h
/-- A whole block anew. -/
theorem WL.storeRow {t m T : Nat} {x y : Operand} {g : Nat} {cs old : List Value} (hg : o.guard = none) (hd : o.dst = none) (ho : o.op = .store t x y) (hx : evl l x = some (.pointer (some ⟨g, 0, none⟩)))
    (hy : evl l y = some (.agg cs.toArray)) (ht : cellsN (tyOf ty t) = some m) (hb : VBlk T w g old) (hm : cs.length = m) (hold : old.length = m) (h1 : Ones cs) (h : WL n ops Q rest l (w.setRow g cs.toArray)) : WL n ops Q (o :: rest) l w :=
  ⟨fun a ha => lw_via hg (by rw [ho]; intro c hc; cases hc) <| wpList_store_rowTo hg t x y ho hd g cs.toArray (ha.eval hx) (ha.eval hy) T old.toArray hb (by obtain ⟨d, -, -, hsz⟩ := cellsN_ok tyOk ht; rw [hsz]; simp [hm]) (by simp [hm, hold])
    (by simp only [List.all_toArray, List.all_eq_true]; exact h1) (h.go a ha)⟩
theorem WL.box {t : Nat} {x : Operand} {v : Value} (hg : o.guard = none) (hd : o.dst = some d) (hn : Nat.blt d n.n = true) (ho : o.op = .box t x) (hx : evl l x = some v)
    (h : ∀ g w', Fresh w g w' t v.cells.toList → WL n ops Q rest ((d, .pointer (some ⟨g, 0, none⟩)) :: l) w') : WL n ops Q (o :: rest) l w :=
  WL.step hg hd hn (fun a ha => by unfold execOp; rw [ho]; simp [ha.eval hx, Instr.box, newVar, newRow]) (h _ _ (Fresh.mk' w t v.cells.toList))
theorem WL.alloc {t : Nat} {z : Value} (hg : o.guard = none) (hd : o.dst = some d) (hn : Nat.blt d n.n = true) (ho : o.op = .alloc t) (hz : ∀ w, (zeroValue t).run Try.prog w = .ok z w)
    (h : ∀ g w', Fresh w g w' t z.cells.toList → WL n ops Q rest ((d, .pointer (some ⟨g, 0, none⟩)) :: l) w') : WL n ops Q (o :: rest) l w :=
  WL.step hg hd hn (fun a ha => by unfold execOp; rw [ho]; simp [Instr.alloc, newVar, newRow, hz]) (h _ _ (Fresh.mk' w t z.cells.toList))
theorem evlAll_map {a : Act} (ha : Fr n a l) : ∀ {xs : List Operand} {vs : List Value}, evlAll l xs = some vs → xs.map a.eval = vs
  | [], vs, h => by cases h; rfl
  | x :: xs, vs, h => by
    unfold evlAll at h
    split at h
    · rename_i v r h1 h2
      obtain rfl := Option.some.inj h
      rw [List.map_cons, ha.eval h1, evlAll_map ha h2]
    · cases h
/-- A call by its contract. -/
theorem WL.call {f : FuncId} {fn : Func} {args : List Operand} {ts : Array TypeId} {vs : List Value} {R : Ending → World → Prop} (hg : o.guard = none) (hd : o.dst = some d) (hn : Nat.blt d n.n = true)
    (ho : o.op = .call { callee := .value (.func f), args := args.toArray, argTypes := ts }) (hv : evlAll l args = some vs) (hf : Try.prog.funcs[f]? = some fn) (hb : fn.body.isNone = false) (hname : (fn.name == "runtime.NumGoroutine") = false)
    (hc : Calls Try.prog f vs.toArray w R) (h : ∀ e w', R e w' → ∃ v, e = .returned v ∧ WL n ops Q rest ((d, v) :: l) w') : WL n ops Q (o :: rest) l w :=
  ⟨fun a ha => by
    have hrun : (execOp a.eval o).run Try.prog w = .ok (.enter f vs.toArray) w := by
      unfold execOp
      rw [ho]
      have := evlAll_map ha hv
      have e1 : (args.toArray.map a.eval) = vs.toArray := by rw [List.map_toArray, this]
      have e2 : a.eval (.func f) = .func (.func f) #[] #[] := rfl
      have hb' : ¬ fn.body = none := fun e => by rw [e] at hb; cases hb
      have hn' : ¬ fn.name = "runtime.NumGoroutine" := by simpa using hname
      simp [resolve, e1, e2, Deferred.ofValue, invoke, callFunc, hf, hb', hn']
    refine lw_enter hg hrun (hc.mono fun e w'' hh => ?_)
    obtain ⟨v, rfl, hwl⟩ := h e w'' hh
    exact ⟨v, rfl, by rw [hd]; exact hwl.go _ (ha.put hn v)⟩⟩
/-- Integers out of slots. -/
def evI (k : IntKind) (l : Env) : List (Nat × Operand) → Nat → Option (List Int)
  | [], _ => some []
  | (j, x) :: r, i => match Nat.beq j i, evl l x, evI k l r (i + 1) with
    | true, some (.int k' z), some zs => if k' = k then some (z :: zs) else none
    | _, _, _ => none
theorem evI_map {a : Act} (ha : Fr n a l) {k : IntKind} : ∀ {xs : List (Nat × Operand)} {i : Nat} {zs : List Int}, evI k l xs i = some zs → (xs.map fun x => (x.1, a.eval x.2)) = (((zs.map (Value.int k)).zipIdx i).map fun x => (x.2, x.1)) ∧ xs.length = zs.length
  | [], _, zs, h => by cases h; exact ⟨rfl, rfl⟩
  | (j, x) :: xs, i, zs, h => by
    unfold evI at h
    split at h
    · rename_i k' z r hb hx hr
      split at h
      · rename_i e
        subst e
        obtain rfl := Option.some.inj h
        obtain ⟨h1, h2⟩ := evI_map ha hr
        obtain rfl : j = i := Nat.eq_of_beq_eq_true hb
        refine ⟨?_, by simp [h2]⟩
        rw [List.map_cons, h1, ha.eval hx]
        rfl
      · cases h
    · cases h
/-- A slice literal of bytes. -/
theorem WL.lit {len : Nat} {parts : List (Nat × Operand)} {zs : List Int} (hg : o.guard = none) (hd : o.dst = some d) (hn : Nat.blt d n.n = true) (ho : o.op = .buildSlice 39 len parts.toArray) (hz : evI .u8 l parts 0 = some zs)
    (hl : Nat.beq len zs.length = true) (hs : (Nat.blt 0 len && Nat.blt len 1000) = true)
    (h : ∀ v w', Bu w' v zs → Below w.heap.size w w' → (∀ g, v.ownBlock = some g → w.heap.size ≤ g) → WL n ops Q rest ((d, v) :: l) w') : WL n ops Q (o :: rest) l w := by
  have hl' : len = zs.length := Nat.eq_of_beq_eq_true hl
  rw [Bool.and_eq_true, Nat.blt_eq, Nat.blt_eq] at hs
  obtain ⟨hs1, hs2⟩ := hs
  have hq : (Try.prog.info? 5).map (fun i => (i.zero, i.size)) = some (some (.int .u8 0), 1) := by kernel_rfl
  obtain ⟨ie, hie, he⟩ := Option.map_eq_some_iff.1 hq
  obtain ⟨hz0, hsz⟩ := Prod.mk.inj he
  refine WL.step hg hd hn (w' := w.alloc (.cells (zs.map (Value.int .u8)).toArray 5)) (v := .slice (some ⟨w.heap.size, 0, none⟩) len len) (fun a ha => ?_) (h _ _ ?_ ?_ ?_)
  · unfold execOp
    rw [ho]
    obtain ⟨h1, h2⟩ := evI_map ha hz
    have hf : Instr.fill (fun i => some (i * ie.size, ie.size)) ((Array.range (len * ie.size)).map ((Value.int .u8 0).cells[· % (Value.int .u8 0).cells.size]!)) (parts.toArray.map fun x => (x.1, a.eval x.2)).toList = some (zs.map (Value.int .u8)).toArray := by
      rw [Array.toList_map, h1, hsz]
      exact Great.fill_flat _ _ (fun v hv => by obtain ⟨m, _, rfl⟩ := List.mem_map.1 hv; rfl) (by simp [hl'])
    have := run_buildSlice (P := Try.prog) w 39 5 len (parts.toArray.map fun x => (x.1, a.eval x.2)) _ ie _ Try.underlying39 hie hz0 (by rw [hsz]; omega) (by rw [hsz]; omega) hf
    simp only [Sem.run_bind, this, Result.andThen_ok]
    rfl
  · rw [hl']; exact Bu.new w zs (by unfold maxLen; omega)
  · exact (Below.refl _ w).alloc (Nat.le_refl _) _
  · intro g hg2; cases hg2; exact Nat.le_refl _
/-- append of what reads as bytes onto an own row. -/
theorem WL.app {s x : Operand} {v xv : Value} {l1 l2 : List Int} (hg : o.guard = none) (hd : o.dst = some d) (hn : Nat.blt d n.n = true)
    (ho : o.op = .call { callee := .builtin .append, args := #[s, x], argTypes := #[39, 39] }) (hs : evl l s = some v) (hown : Bu w v l1) (hx : evl l x = some xv) (hsl : Sl .u8 w xv l2) (hb : l1.length + l2.length ≤ 140737488355328)
    (h : ∀ v' w', Bu w' v' (l1 ++ l2) → Grow w v w' v' → WL n ops Q rest ((d, v') :: l) w') : WL n ops Q (o :: rest) l w :=
  ⟨fun a ha => by
    have ho1 : OwnV 5 1 w (fun g => v.ownBlock = some g) v l1.length (l1.map (Value.int .u8)) := ⟨hown, Ones.int _ _, fun g hg => hg⟩
    refine lw_via hg (by rw [ho]; intro c hc; cases hc) ?_
    refine wpList_appV hg s x 39 ho elemU8 (ha.eval hs) ho1 (ha.eval hx) (Sl.slV hsl) rfl (by unfold maxLen; omega) (by omega) ?_
    intro sp c w' h2 h3 h4
    rw [hd]
    refine (h _ w' ?_ ⟨grown_keep h3, fun g hg => (h4 g hg).imp id (fun e => by omega)⟩).go _ (ha.put hn _)
    have h5 := h2.1
    rw [← List.map_append] at h5
    show World.ownsRow _ _ _ _ _ _ _
    rw [List.length_append]
    exact h5⟩
/-- append(b, x, y ..): the bytes are laid, then appended. -/
theorem WL.push {o2 : Oper} {d2 : Nat} {len : Nat} {parts : List (Nat × Operand)} {zs : List Int} {s : Operand} {v : Value} {l1 : List Int} (hg : o.guard = none) (hd : o.dst = some d) (hn : Nat.blt d n.n = true) (ho : o.op = .buildSlice 39 len parts.toArray)
    (hz : evI .u8 l parts 0 = some zs) (hl : Nat.beq len zs.length = true) (hs : (Nat.blt 0 len && Nat.blt len 1000) = true) (hg2 : o2.guard = none) (hd2 : o2.dst = some d2) (hn2 : Nat.blt d2 n.n = true)
    (ho2 : o2.op = .call { callee := .builtin .append, args := #[s, .tmp d], argTypes := #[39, 39] }) (hsv : ∀ u, evl ((d, u) :: l) s = some v) (hfr : look l d = none) (hown : Bu w v l1) (hb : l1.length + zs.length ≤ 140737488355328)
    (h : ∀ v' w', Bu w' v' (l1 ++ zs) → Grow w v w' v' → WL n ops Q rest ((d2, v') :: l) w') : WL n ops Q (o :: o2 :: rest) l w := by
  refine WL.lit hg hd hn ho hz hl hs fun u w1 hu hb1 _ => ?_
  refine WL.app hg2 hd2 hn2 ho2 (hsv u) (hown.below hb1) (by unfold evl look; simp) hu.sl hb fun v' w2 h2 g2 => ?_
  exact (h v' w2 h2 (((Grow.refl w v).below hb1).trans g2)).le (look_free hfr)
end K
end Go.Proofs.Ytilmfnlaenneeaa

/- Walks over the slots that are asked for: ends of code, texts, indexes, results. -/
namespace Go.Proofs.Ytilmfnlaenneeaa
open Go.RowKit
namespace K
variable {n : NN} {Q : Exit → Act → World → Prop} {l : Env} {w w' : World} {ops : Array Oper} {o : Oper} {rest : List Oper} {d : Nat}

theorem WQ.then {K : Act → World → Prop} {c : Code} (hK : K = cw n.md Try.prog c Q) (h : WC n c Q l w) : WQ n (Exit.then K Q) .normal l w := ⟨fun a ha => by subst hK; exact h.go a ha⟩
theorem WQ.thenExit {K : Act → World → Prop} {id : Nat} (h : WQ n Q (.exit id) l w) : WQ n (Exit.then K Q) (.exit id) l w := ⟨fun a ha => h.go a ha⟩
theorem WQ.thenRet {K : Act → World → Prop} (h : WQ n Q .ret l w) : WQ n (Exit.then K Q) .ret l w := ⟨fun a ha => h.go a ha⟩
theorem WQ.blk {id : Nat} (h : WQ n Q .normal l w) : WQ n (Exit.inBlock id Q) .normal l w := ⟨fun a ha => h.go a ha⟩
theorem WQ.blkRet {id : Nat} (h : WQ n Q .ret l w) : WQ n (Exit.inBlock id Q) .ret l w := ⟨fun a ha => h.go a ha⟩
theorem WQ.blkHere {id id' : Nat} (hi : Nat.beq id' id = true) (h : WQ n Q .normal l w) : WQ n (Exit.inBlock id Q) (.exit id') l w :=
  ⟨fun a ha => by show if id' = id then Q .normal a w else Q (.exit id') a w; rw [if_pos (Nat.eq_of_beq_eq_true hi)]; exact h.go a ha⟩
theorem WQ.blkOther {id id' : Nat} (hi : Nat.beq id' id = false) (h : WQ n Q (.exit id') l w) : WQ n (Exit.inBlock id Q) (.exit id') l w :=
  ⟨fun a ha => by show if id' = id then Q .normal a w else Q (.exit id') a w; rw [if_neg (Nat.ne_of_beq_eq_false hi)]; exact h.go a ha⟩
/-- The round's end. -/
theorem WQ.again {ι : Type} {L : ι → Env} {W : ι → World → Prop} {μ : ι → Nat} {i : ι} (j : ι) (hs : Sub l (L j)) (hw : W j w) (hm : μ j < μ i) : WQ n (Exit.then (Again n L W μ i) Q) .normal l w :=
  ⟨fun _ ha => ⟨j, ha.sub hs, hw, hm⟩⟩
/-- Ways meet. -/
theorem WC.cut {ι : Type} {x y : Code} (L : ι → Env) (W : ι → World → Prop) (h1 : WC n x (Exit.then (Meet n L W) Q) l w) (h2 : ∀ i w', W i w' → WC n y Q (L i) w') : WC n (.seq x y) Q l w :=
  ⟨fun a ha => cw_seq (cw_mono (fun e a w q => by
    cases e with
    | normal => obtain ⟨i, hf, hw⟩ := q; exact (h2 i w hw).go a hf
    | exit id => exact q
    | goto l => exact q
    | ret => exact q
    | panic ch => exact q
    | outgrown => exact q) (h1.go a ha))⟩
/-- Ways meet behind a piece. -/
theorem WC.mid {ι : Type} {x y : Code} {K : Act → World → Prop} (L : ι → Env) (W : ι → World → Prop) (hK : K = cw n.md Try.prog y Q) (h1 : WC n x (Exit.then (Meet n L W) Q) l w) (h2 : ∀ i w', W i w' → WC n y Q (L i) w') : WC n x (Exit.then K Q) l w :=
  ⟨fun a ha => cw_mono (fun e a w q => by
    subst hK
    cases e with
    | normal => obtain ⟨i, hf, hw⟩ := q; exact (h2 i w hw).go a hf
    | exit id => exact q
    | goto l => exact q
    | ret => exact q
    | panic ch => exact q
    | outgrown => exact q) (h1.go a ha)⟩
theorem WL.mid {ι : Type} {y : Code} {K : Act → World → Prop} (L : ι → Env) (W : ι → World → Prop) (hK : K = cw n.md Try.prog y Q) (h1 : WL n ops (Exit.then (Meet n L W) Q) rest l w) (h2 : ∀ i w', W i w' → WC n y Q (L i) w') : WL n ops (Exit.then K Q) rest l w :=
  ⟨fun a ha => lw_mono (fun e a w q => by
    subst hK
    cases e with
    | normal => obtain ⟨i, hf, hw⟩ := q; exact (h2 i w hw).go a hf
    | exit id => exact q
    | goto l => exact q
    | ret => exact q
    | panic ch => exact q
    | outgrown => exact q) (h1.go a ha)⟩
theorem WQ.meet {ι : Type} {L : ι → Env} {W : ι → World → Prop} (i : ι) (hs : Sub l (L i)) (hw : W i w) : WQ n (Exit.then (Meet n L W) Q) .normal l w := ⟨fun _ ha => ⟨i, ha.sub hs, hw⟩⟩
section
variable {fn : Func} {R : Ending → World → Prop}
theorem Fr.getD {a : Act} (ha : Fr n a l) {t : Nat} {v : Value} (h : look l t = some v) : a.tmps.getD t undef = v := by have := ha.slot t v h; rw [Array.getD_eq_getD_getElem?, this]; rfl
theorem WQ.ret1 {kn : Nat} {md : Option (Option Nat)} {t : Nat} {v : Value} (hr : fn.results = #[.tmp t]) (hl : look l t = some v) (h : R (.returned v) w) : WQ ⟨kn, [], md⟩ (bodyPost Try.prog fn R) .ret l w :=
  ⟨fun a ha => ⟨ha.defers, v, by have := ha.getD hl; simp only [Array.getD_eq_getD_getElem?] at this; simp [results, hr, this], h⟩⟩
theorem WQ.end1 {kn : Nat} {md : Option (Option Nat)} {t : Nat} {v : Value} (hr : fn.results = #[.tmp t]) (hl : look l t = some v) (h : R (.returned v) w) : WQ ⟨kn, [], md⟩ (bodyPost Try.prog fn R) .normal l w := ⟨fun a ha => (WQ.ret1 hr hl h).go a ha⟩
theorem WQ.ret2 {kn : Nat} {md : Option (Option Nat)} {t t2 : Nat} {v v2 : Value} (hr : fn.results = #[.tmp t, .tmp t2]) (hl : look l t = some v) (hl2 : look l t2 = some v2) (h : R (.returned (.tuple #[v, v2])) w) : WQ ⟨kn, [], md⟩ (bodyPost Try.prog fn R) .ret l w :=
  ⟨fun a ha => ⟨ha.defers, _, by rw [results_tmp2 hr, ha.getD hl, ha.getD hl2], h⟩⟩
theorem WQ.end2 {kn : Nat} {md : Option (Option Nat)} {t t2 : Nat} {v v2 : Value} (hr : fn.results = #[.tmp t, .tmp t2]) (hl : look l t = some v) (hl2 : look l t2 = some v2) (h : R (.returned (.tuple #[v, v2])) w) : WQ ⟨kn, [], md⟩ (bodyPost Try.prog fn R) .normal l w := ⟨fun a ha => (WQ.ret2 hr hl hl2 h).go a ha⟩
end

theorem idx_run {a : Act} {t e s : Nat} {x i : Operand} {b off len cap : Nat} {k : IntKind} {z : Int} {j : Nat} (ho : o.op = .indexAddr t x i) (ht : tyOf ty t = some (.slice e s))
    (hx : a.eval x = .slice (some ⟨b, off, none⟩) len cap) (hi : a.eval i = .int k z) (hz : z = (j : Int)) (hj : j < len) : (execOp a.eval o).run Try.prog w = .ok (.value (.pointer (some ⟨b, off + j * s, none⟩))) w := by
  obtain ⟨hu, hsz⟩ := TyOk.of tyOk ht
  have he : Try.prog.elem t = e := by simp [Program.elem, hu]
  have hs : (sizeOf e).run Try.prog w = .ok s w := by
    cases hq : Try.prog.info? e with
    | none => rw [hq] at hsz; cases hsz
    | some q => rw [hq] at hsz; simp at hsz; simp [sizeOf, typeInfo, hq, hsz]
  unfold execOp
  rw [ho]
  simp only [hx, hi, Sem.run_bind, run_indexAt_slice w t _ len cap k z (by rw [he]; exact hu)]
  rw [if_pos (by omega), he, hs, hz]
  simp [Addr.add_mid]
/-- An element's place in a slice. -/
theorem WL.idx {t e s : Nat} {x i : Operand} {b off len cap : Nat} {k : IntKind} {z : Int} (j q : Nat) (hg : o.guard = none) (hd : o.dst = some d) (hn : Nat.blt d n.n = true) (ho : o.op = .indexAddr t x i) (ht : tyOf ty t = some (.slice e s))
    (hx : evl l x = some (.slice (some ⟨b, off, none⟩) len cap)) (hi : evl l i = some (.int k z)) (hz : z = (j : Int)) (hj : j < len) (hq : off + j * s = q) (h : WL n ops Q rest ((d, .pointer (some ⟨b, q, none⟩)) :: l) w) : WL n ops Q (o :: rest) l w :=
  WL.step hg hd hn (fun _ ha => by rw [← hq]; exact idx_run ho ht (ha.eval hx) (ha.eval hi) hz hj) h
/-- A byte's, or any integer's, place and what lies there. -/
theorem WL.idxI {t e : Nat} {x i : Operand} {v : Value} {k kk : IntKind} {z : Int} {zs : List Int} (j : Nat) (hg : o.guard = none) (hd : o.dst = some d) (hn : Nat.blt d n.n = true) (ho : o.op = .indexAddr t x i) (ht : tyOf ty t = some (.slice e 1))
    (hx : evl l x = some v) (hsl : Sl kk w v zs) (hi : evl l i = some (.int k z)) (hz : z = (j : Int)) (hj : j < zs.length) (h : ∀ p, w.cell? p = some (.int kk (nth zs j)) → WL n ops Q rest ((d, .pointer (some p)) :: l) w) : WL n ops Q (o :: rest) l w := by
  obtain ⟨sp, cap, rfl, -, -, h3, -⟩ := hsl
  obtain ⟨b, off, rfl, -, hr⟩ := h3 (by omega)
  exact WL.idx j (off + j) hg hd hn ho ht hx hi hz hj (by rw [Nat.mul_one]) (h _ (hr.at j hj))
theorem byte_run {a : Act} {t : Nat} {x i : Operand} {s : ByteArray} {k : IntKind} {z : Int} {j : Nat} (ho : o.op = .index t x i) (ht : tyOf ty t = some .str)
    (hx : a.eval x = .string s) (hi : a.eval i = .int k z) (hz : z = (j : Int)) (hj : j < s.size) : (execOp a.eval o).run Try.prog w = .ok (.value (.int .u8 (s.toList.getD j 0).toNat)) w := by
  unfold execOp
  rw [ho]
  simp only [hx, hi, Sem.run_bind, run_index_string w t s k z (TyOk.of tyOk ht)]
  subst hz
  rw [dif_pos (by omega)]
  have : (s.toList.getD j 0) = s[j] := by
    rw [ByteArray.toList_eq]
    have : j < s.data.toList.length := by rw [Array.length_toList]; exact hj
    rw [List.getD_eq_getElem?_getD, List.getElem?_eq_getElem this]
    rfl
  rw [this]
  rfl
/-- A byte of a text. -/
theorem WL.byte {t : Nat} {x i : Operand} {s : ByteArray} {k : IntKind} {z : Int} (j : Nat) (hg : o.guard = none) (hd : o.dst = some d) (hn : Nat.blt d n.n = true) (ho : o.op = .index t x i) (ht : tyOf ty t = some .str)
    (hx : evl l x = some (.string s)) (hi : evl l i = some (.int k z)) (hz : z = (j : Int)) (hj : j < s.size) (h : WL n ops Q rest ((d, .int .u8 (s.toList.getD j 0).toNat) :: l) w) : WL n ops Q (o :: rest) l w :=
  WL.step hg hd hn (fun _ ha => byte_run ho ht (ha.eval hx) (ha.eval hi) hz hj) h
/-- A text's bytes in memory. -/
def bytesI (s : ByteArray) : List Int := s.toList.map fun c => (c.toNat : Int)
theorem bytesI_len (s : ByteArray) : (bytesI s).length = s.size := by unfold bytesI; rw [List.length_map, ByteArray.toList_eq]; rfl
theorem nth_bytesI (s : ByteArray) {j : Nat} (hj : j < s.size) : nth (bytesI s) j = (s.toList.getD j 0).toNat := by
  have h : j < s.toList.length := by rw [ByteArray.toList_eq, Array.length_toList]; exact hj
  unfold bytesI nth
  simp [h]
theorem WL.bytesOf {t t2 e : Nat} {x : Operand} {s : ByteArray} (hg : o.guard = none) (hd : o.dst = some d) (hn : Nat.blt d n.n = true) (ho : o.op = .convert t t2 x) (ht : tyOf ty t = some .str) (ht2 : tyOf ty t2 = some (.slice e 1)) (he : tyOf ty e = some (.int .u8))
    (hx : evl l x = some (.string s)) (hsz : s.size ≤ 140737488355328) (h : ∀ g c w', Sl .u8 w' (.slice (some ⟨g, 0, none⟩) s.size c) (bytesI s) → Below w.heap.size w w' → w.heap.size = g → WL n ops Q rest ((d, .slice (some ⟨g, 0, none⟩) s.size c) :: l) w') : WL n ops Q (o :: rest) l w := by
  have hl := bytesI_len s
  have hb := bytesWorld_below w e s
  refine WL.step hg hd hn (fun a ha => ?_) (h w.heap.size (grownCap w s.size 0 e) (Lib.bytesWorld w e s) ?_ hb rfl)
  · unfold execOp
    rw [ho]
    have := Lib.run_convert_string_bytes (P := Try.prog) w t t2 e s (TyOk.of tyOk ht) (TyOk.of tyOk ht2).1 (TyOk.of tyOk he)
    simp [ha.eval hx, this]
  · have hm := grownCap_le_maxLen w s.size 0 e (by unfold maxLen; omega)
    unfold maxLen at hm
    have hr : Row .u8 (Lib.bytesWorld w e s) w.heap.size 0 (bytesI s) := by
      intro j hj
      rw [hl] at hj
      rw [Nat.zero_add, Lib.bytesWorld_cell w e s j hj, nth_bytesI s hj, ByteArray.toList_eq]
    have := Sl.mk (cap := grownCap w s.size 0 e) (by rw [hl]; exact grownCap_ge _ _ _ _) (by omega) (by rw [Lib.bytesWorld_size]; omega) hr
    rw [hl] at this
    exact this
theorem WL.strOf {t t2 e : Nat} {x : Operand} {v : Value} {zs : List Int} (hg : o.guard = none) (hd : o.dst = some d) (hn : Nat.blt d n.n = true) (ho : o.op = .convert t t2 x) (ht : tyOf ty t = some (.slice e 1)) (ht2 : tyOf ty t2 = some .str) (he : tyOf ty e = some (.int .u8))
    (hx : evl l x = some v) (hs : Sl .u8 w v zs) (h : WL n ops Q rest ((d, .string (strOfNums zs)) :: l) w) : WL n ops Q (o :: rest) l w :=
  WL.step hg hd hn (fun a ha => by
    unfold execOp
    rw [ho]
    have hu := (TyOk.of tyOk ht).1
    have hi := TyOk.of tyOk he
    have hd := TyOk.of tyOk ht2
    obtain ⟨sp, cap, rfl, -, -, h3, -⟩ := hs
    have hrun : (convert t t2 (.slice sp zs.length cap)).run Try.prog w = .ok (.string (strOfNums zs)) w := by
      cases hz : zs with
      | nil =>
        cases sp with
        | none => rw [run_convert_bytes_nil w t e hu hi _ _ t2 hd]; rfl
        | some p =>
          have hl0 : (loadCells p 0).run Try.prog w = .ok (([] : List Int).map (Value.int .u8)).toArray w := by rfl
          rw [run_convert_bytes_string w t t2 e _ _ _ hu hi hd, List.length_nil, run_bytesToString w _ 0 cap [] hl0]
          rfl
      | cons z r =>
        obtain ⟨b, off, rfl, -, hr⟩ := h3 (by rw [hz]; simp)
        rw [← hz]
        exact run_convert_bytes_arg w t e hu hi b off zs.length cap zs rfl (fun i hi => hr i hi) t2 hd
    simp [ha.eval hx, hrun]) h
theorem WL.substr {t : Nat} {x lo hi : Operand} {s : ByteArray} {k k' : IntKind} {y z : Int} (hg : o.guard = none) (hd : o.dst = some d) (hn : Nat.blt d n.n = true) (ho : o.op = .slice t x (some lo) (some hi) none) (ht : tyOf ty t = some .str)
    (hx : evl l x = some (.string s)) (hlo : evl l lo = some (.int k y)) (hhi : evl l hi = some (.int k' z)) (h0 : 0 ≤ y) (h1 : y ≤ z) (h2 : z ≤ s.size) (h : WL n ops Q rest ((d, .string (s.extract y.toNat z.toNat)) :: l) w) : WL n ops Q (o :: rest) l w :=
  WL.step hg hd hn (fun a ha => by
    unfold execOp
    rw [ho]
    have hu := TyOk.of tyOk ht
    simp [ha.eval hx, ha.eval hlo, ha.eval hhi, run_sliceAt_string w t _ _ _ _ hu, run_slice_string w t s k k' y z hu h0 h1 h2]) h
theorem WL.substrTo {t : Nat} {x hi : Operand} {s : ByteArray} {k' : IntKind} {z : Int} (hg : o.guard = none) (hd : o.dst = some d) (hn : Nat.blt d n.n = true) (ho : o.op = .slice t x none (some hi) none) (ht : tyOf ty t = some .str)
    (hx : evl l x = some (.string s)) (hhi : evl l hi = some (.int k' z)) (h0 : 0 ≤ z) (h2 : z ≤ s.size) (h : WL n ops Q rest ((d, .string (s.extract 0 z.toNat)) :: l) w) : WL n ops Q (o :: rest) l w :=
  WL.step hg hd hn (fun a ha => by
    unfold execOp
    rw [ho]
    have hu := TyOk.of tyOk ht
    have := run_slice_string_to_if (P := Try.prog) w t s k' z hu
    rw [if_pos ⟨h0, h2⟩] at this
    simp [ha.eval hx, ha.eval hhi, run_sliceAt_string w t _ _ _ _ hu, this]) h
/-- Two texts, one behind the other. -/
theorem WL.concat {t t2 : Nat} {x y : Operand} {a b : ByteArray} (hg : o.guard = none) (hd : o.dst = some d) (hn : Nat.blt d n.n = true) (ho : o.op = .binOp .add t x y t2) (hx : evl l x = some (.string a)) (hy : evl l y = some (.string b))
    (hb : a.size + b.size ≤ 140737488355328) (h : WL n ops Q rest ((d, .string (a ++ b)) :: l) w) : WL n ops Q (o :: rest) l w :=
  WL.step hg hd hn (fun c hc => by
    unfold execOp
    rw [ho]
    have := run_string_add_if (P := Try.prog) w a b
    rw [if_neg (by omega)] at this
    simp [hc.eval hx, hc.eval hy, eqGuard_add, binOp_string_add, this]) h
def evlParts (l : Env) : List (Nat × Operand) → Option (List (Nat × Value))
  | [] => some []
  | (i, x) :: r => match evl l x, evlParts l r with
    | some v, some vs => some ((i, v) :: vs)
    | _, _ => none
theorem evlParts_map {a : Act} (ha : Fr n a l) : ∀ {xs : List (Nat × Operand)} {vs : List (Nat × Value)}, evlParts l xs = some vs → (xs.map fun x => (x.1, a.eval x.2)) = vs
  | [], vs, h => by cases h; rfl
  | (i, x) :: xs, vs, h => by
    unfold evlParts at h
    split at h
    · rename_i v r h1 h2
      obtain rfl := Option.some.inj h
      rw [List.map_cons, ha.eval h1, evlParts_map ha h2]
    · cases h
/-- A struct or an array of parts. -/
theorem WL.build {t : Nat} {parts : List (Nat × Operand)} {ps : List (Nat × Value)} (cells : List Value) (hg : o.guard = none) (hd : o.dst = some d) (hn : Nat.blt d n.n = true) (ho : o.op = .build t parts.toArray) (hp : evlParts l parts = some ps)
    (hf : Try.prog.built t ps = some cells.toArray) (h : WL n ops Q rest ((d, .agg cells.toArray) :: l) w) : WL n ops Q (o :: rest) l w :=
  ⟨fun a ha => lw_via hg (by rw [ho]; intro c hc; cases hc) <| wpList_buildTo hg t parts.toArray ho (some d) hd cells.toArray (by
    rw [show (parts.toArray.map fun x => (x.1, a.eval x.2)).toList = ps by rw [Array.toList_map]; exact evlParts_map ha hp]
    exact hf) (h.go _ (ha.put hn _))⟩
/-- What a slice literal's cells are. -/
def litCells (P : Program) (e len : Nat) (ps : List (Nat × Value)) : Option (Array Value) :=
  match P.info? e with
  | some ie => match ie.zero with
    | some z => if 0 < len * ie.size ∧ len * ie.size ≤ 1000 then Instr.fill (fun i => some (i * ie.size, ie.size)) ((Array.range (len * ie.size)).map (z.cells[· % z.cells.size]!)) ps else none
    | none => none
  | none => none
theorem WL.litV {t e s len : Nat} {parts : List (Nat × Operand)} {ps : List (Nat × Value)} (cells : List Value) (hg : o.guard = none) (hd : o.dst = some d) (hn : Nat.blt d n.n = true) (ho : o.op = .buildSlice t len parts.toArray) (ht : tyOf ty t = some (.slice e s))
    (hp : evlParts l parts = some ps) (hf : litCells Try.prog e len ps = some cells.toArray) (h : ∀ g w', Fresh w g w' e cells → WL n ops Q rest ((d, .slice (some ⟨g, 0, none⟩) len len) :: l) w') : WL n ops Q (o :: rest) l w :=
  WL.step hg hd hn (fun a ha => by
    unfold litCells at hf
    cases hie : Try.prog.info? e with
    | none => rw [hie] at hf; cases hf
    | some ie =>
      rw [hie] at hf
      simp only at hf
      cases hz : ie.zero with
      | none => rw [hz] at hf; cases hf
      | some z =>
        rw [hz] at hf
        simp only at hf
        split at hf
        · rename_i hlen
          unfold execOp
          rw [ho]
          have hpm := evlParts_map ha hp
          have := run_buildSlice (P := Try.prog) w t e len (parts.toArray.map fun x => (x.1, a.eval x.2)) cells.toArray ie z (TyOk.of tyOk ht).1 hie hz (by omega) (by omega) (by rw [Array.toList_map]; simp only; rw [hpm]; exact hf)
          simp only [Sem.run_bind, this, Result.andThen_ok]
          rfl
        · cases hf) (h _ _ (Fresh.mk' w e cells))
end K
end Go.Proofs.Ytilmfnlaenneeaa

/- Regions that draw their order, in which what is read is read ahead of the operation number n: reads are taken first, though n overwrites them. -/
namespace Go.Proofs.Ytilmfnlaenneeaa
open Go.RowKit

section
variable {P : Program} {ops : Array Oper} {Q : Exit → Act → World → Prop} {md : Region.Mode} {S : World → Prop} {n : Nat}

/-- Whatever order is picked, and till n has come up S holds. -/
def wpTill (P : Program) (md : Region.Mode) (ops : Array Oper) (Q : Exit → Act → World → Prop) (S : World → Prop) (n : Nat) : Nat → Array Bool → Act → World → Prop
  | 0, listed, a, w => Region.ready md ops listed = [] ∧ Q .normal a w
  | fuel + 1, listed, a, w =>
    (Region.ready md ops listed = [] → Q .normal a w) ∧
    ∀ i ∈ Region.ready md ops listed, wpOp P ops Q i (fun a' w' => ((listed.setIfInBounds i true).getD n false = true ∨ S w') ∧ wpTill P md ops Q S n fuel (listed.setIfInBounds i true) a' w') a w

theorem wpAny_of_till : ∀ (fuel : Nat) (listed : Array Bool) (a : Act) (w : World), wpTill P md ops Q S n fuel listed a w → wpAny P md ops Q fuel listed a w
  | 0, _, _, _, h => h
  | fuel + 1, _, _, _, h => ⟨h.1, fun i hi => wpOp_mono (fun a' w' h' => wpAny_of_till fuel _ a' w' h'.2) (h.2 i hi)⟩

/-- The numbers of us wait for i, directly or through others of us; n is among them. -/
def waitB (md : Region.Mode) (ops : Array Oper) (listed : Array Bool) (i n : Nat) (us : List Nat) : Bool :=
  us.contains n && us.all fun q => !listed.getD q true && ((ops[q]?).map (·.after.any fun e => Region.binds md e && (e.on == i || us.contains e.on))).getD false

theorem waitB_n {listed : Array Bool} {i : Nat} {us : List Nat} (h : waitB md ops listed i n us = true) : listed.getD n true = false := by
  unfold waitB at h
  simp only [Bool.and_eq_true, List.all_eq_true] at h
  have := h.2 n (by simpa using h.1)
  simpa using this.1
theorem waitB_not {listed : Array Bool} {i j : Nat} {us : List Nat} (h : waitB md ops listed i n us = true) (hi : listed.getD i true = false) (hj : j ∈ Region.ready md ops listed) : j ∉ us := by
  intro hju
  unfold waitB at h
  simp only [Bool.and_eq_true, List.all_eq_true] at h
  obtain ⟨-, h2⟩ := h
  obtain ⟨-, oj, hoj, hall⟩ := mem_ready.1 hj
  have h3 := (h2 j hju).2
  rw [hoj] at h3
  simp only [Option.map_some, Option.getD_some] at h3
  obtain ⟨e, he, hb⟩ := Array.any_eq_true'.1 h3
  simp only [Bool.and_eq_true, Bool.or_eq_true, beq_iff_eq] at hb
  have h4 := hall e he hb.1
  have h5 : listed.getD e.on true = false := by
    rcases hb.2 with e1 | e1
    · rw [e1]; exact hi
    · have := (h2 e.on (by simpa using e1)).1
      simpa using this
  rcases Nat.lt_or_ge e.on listed.size with h' | h'
  · simp [h'] at h4 h5; rw [h5] at h4; cases h4
  · simp [Array.getElem?_eq_none h'] at h4
theorem waitB_set {listed : Array Bool} {i j : Nat} {us : List Nat} (h : waitB md ops listed i n us = true) (hj : j ∉ us) : waitB md ops (listed.setIfInBounds j true) i n us = true := by
  unfold waitB at *
  simp only [Bool.and_eq_true, List.all_eq_true] at *
  refine ⟨h.1, fun q hq => ⟨?_, (h.2 q hq).2⟩⟩
  rw [getD_set_ne true (by intro e; subst e; exact hj hq)]
  exact (h.2 q hq).1
theorem getD_both' {listed : Array Bool} {j : Nat} (h : listed.getD j true = false) : listed.getD j false = false := by
  rcases Nat.lt_or_ge j listed.size with h' | h'
  · simp [h'] at h ⊢; exact h
  · simp [Array.getElem?_eq_none h'] at h

theorem wpTill_first {i : Nat} {oi : Oper} {v : Value} {us : List Nat} (hi : ops[i]? = some oi) (hsel : ∀ (j : Nat) (o : Oper) cs b, ops[j]? = some o → o.op ≠ .select cs b)
    (hQ : ∀ c a w, Q (.panic c) (a.put oi.dst v) w → Q (.panic c) a w) :
    ∀ (fuel : Nat) (listed : Array Bool) (a : Act) (w : World),
      (∀ j oj, ops[j]? = some oj → j ≠ i → listed.getD j true = false → (∀ e ∈ oj.after, Region.binds md e = true → e.on ≠ i) → oi.apart ops oj = true) →
      waitB md ops listed i n us = true → i ∉ us →
      i ∈ Region.ready md ops listed → YieldsIf P ops S oi v a → S w →
      wpTill P md ops Q S n fuel (listed.setIfInBounds i true) (a.put oi.dst v) w → wpTill P md ops Q S n (fuel + 1) listed a w := by
  intro fuel
  induction fuel with
  | zero =>
    intro listed a w _ _ _ hr hy hS H
    refine ⟨fun h => (by rw [h] at hr; cases hr), fun j hj => ?_⟩
    by_cases hji : j = i
    · subst hji; exact hy.wpOp hi hS ⟨.inr hS, H⟩
    · have := ready_mono hj hji
      rw [H.1] at this
      cases this
  | succ fuel ih =>
    intro listed a w hfree hw hiu hr hy hS H
    refine ⟨fun h => (by rw [h] at hr; cases hr), fun j hj => ?_⟩
    by_cases hji : j = i
    · subst hji; exact hy.wpOp hi hS ⟨.inr hS, H⟩
    · have h1 := H.2 j (ready_mono hj hji)
      have hiun := (mem_ready.1 hr).1
      have hju : j ∉ us := waitB_not hw hiun hj
      have hnu : n ∈ us := by unfold waitB at hw; simp only [Bool.and_eq_true] at hw; simpa using hw.1
      have hjn : j ≠ n := fun e => hju (e ▸ hnu)
      have hin : i ≠ n := fun e => hiu (e ▸ hnu)
      obtain ⟨hjun, oj, hoj, hall⟩ := mem_ready.1 hj
      have hnot : ∀ e ∈ oj.after, Region.binds md e = true → e.on ≠ i := fun e he hb heq => by
        have h1 := hall e he hb
        rw [heq, getD_both' hiun] at h1
        cases h1
      have h2 := wpOp_putIf hoj (hfree j oj hoj hji hjun hnot) (fun cs b => hsel i oi cs b hi) (fun cs b => hsel j oj cs b hoj) hQ hy h1
      have hfree' : ∀ k ok, ops[k]? = some ok → k ≠ i → (listed.setIfInBounds j true).getD k true = false →
          (∀ e ∈ ok.after, Region.binds md e = true → e.on ≠ i) → oi.apart ops ok = true := fun k ok hk hki hun hno => by
        refine hfree k ok hk hki ?_ hno
        by_cases hjk : j = k
        · subst hjk; exact hjun
        · rw [getD_set_ne true hjk] at hun; exact hun
      have hnf : ∀ x, (((listed.setIfInBounds i true).setIfInBounds j true).getD n false = true ∨ x) → x := fun x h => by
        rcases h with h | h
        · rw [getD_set_ne false hjn, getD_set_ne false hin, getD_both' (waitB_n hw)] at h; cases h
        · exact h
      refine wpOp_mono (fun a' w' h3 => ⟨.inr (hnf _ h3.2.1), ih (listed.setIfInBounds j true) a' w' hfree' (waitB_set hw hju) hiu (ready_mono hr (Ne.symm hji)) h3.1 (hnf _ h3.2.1) ?_⟩) h2
      rw [Array.setIfInBounds_comm _ _ hji]
      exact h3.2.2

theorem wpTill_free {i : Nat} {oi : Oper} {v : Value} (hi : ops[i]? = some oi) (hsel : ∀ (j : Nat) (o : Oper) cs b, ops[j]? = some o → o.op ≠ .select cs b)
    (hQ : ∀ c a w, Q (.panic c) (a.put oi.dst v) w → Q (.panic c) a w) (hin : i ≠ n) :
    ∀ (fuel : Nat) (listed : Array Bool) (a : Act) (w : World),
      (∀ j oj, ops[j]? = some oj → j ≠ i → listed.getD j true = false → (∀ e ∈ oj.after, Region.binds md e = true → e.on ≠ i) → oi.apart ops oj = true) →
      i ∈ Region.ready md ops listed → YieldsIf P ops (fun _ => True) oi v a → (listed.getD n false = true ∨ S w) →
      wpTill P md ops Q S n fuel (listed.setIfInBounds i true) (a.put oi.dst v) w → wpTill P md ops Q S n (fuel + 1) listed a w := by
  intro fuel
  induction fuel with
  | zero =>
    intro listed a w _ hr hy hS H
    refine ⟨fun h => (by rw [h] at hr; cases hr), fun j hj => ?_⟩
    by_cases hji : j = i
    · subst hji; exact hy.wpOp hi trivial ⟨by rw [getD_set_ne false hin]; exact hS, H⟩
    · have := ready_mono hj hji
      rw [H.1] at this
      cases this
  | succ fuel ih =>
    intro listed a w hfree hr hy hS H
    refine ⟨fun h => (by rw [h] at hr; cases hr), fun j hj => ?_⟩
    by_cases hji : j = i
    · subst hji; exact hy.wpOp hi trivial ⟨by rw [getD_set_ne false hin]; exact hS, H⟩
    · have h1 := H.2 j (ready_mono hj hji)
      have hiun := (mem_ready.1 hr).1
      obtain ⟨hjun, oj, hoj, hall⟩ := mem_ready.1 hj
      have hnot : ∀ e ∈ oj.after, Region.binds md e = true → e.on ≠ i := fun e he hb heq => by
        have h1 := hall e he hb
        rw [heq, getD_both' hiun] at h1
        cases h1
      have h2 := wpOp_putIf hoj (hfree j oj hoj hji hjun hnot) (fun cs b => hsel i oi cs b hi) (fun cs b => hsel j oj cs b hoj) hQ hy h1
      have hfree' : ∀ k ok, ops[k]? = some ok → k ≠ i → (listed.setIfInBounds j true).getD k true = false →
          (∀ e ∈ ok.after, Region.binds md e = true → e.on ≠ i) → oi.apart ops ok = true := fun k ok hk hki hun hno => by
        refine hfree k ok hk hki ?_ hno
        by_cases hjk : j = k
        · subst hjk; exact hjun
        · rw [getD_set_ne true hjk] at hun; exact hun
      have hT : ∀ x, (((listed.setIfInBounds i true).setIfInBounds j true).getD n false = true ∨ x) → ((listed.setIfInBounds j true).getD n false = true ∨ x) := fun x h => by
        rw [Array.setIfInBounds_comm _ _ (Ne.symm hji), getD_set_ne false hin] at h; exact h
      refine wpOp_mono (fun a' w' h3 => ⟨hT _ h3.2.1, ih (listed.setIfInBounds j true) a' w' hfree' (ready_mono hr (Ne.symm hji)) h3.1 (hT _ h3.2.1) ?_⟩) h2
      rw [Array.setIfInBounds_comm _ _ hji]
      exact h3.2.2

/-- A read, taken first. -/
theorem till_read {i : Nat} {oi : Oper} {v : Value} {fuel : Nat} {listed : Array Bool} {a : Act} {w : World} (us : List Nat) (hi : ops[i]? = some oi)
    (hs : Region.noSelect ops = true) (hf : Region.free md ops listed i = true) (hr : (Region.ready md ops listed).contains i = true) (hu : waitB md ops listed i n us = true) (hiu : us.contains i = false)
    (hQ : ∀ c a w, Q (.panic c) (a.put oi.dst v) w → Q (.panic c) a w) (hw : Region.wanted oi (yielded ops a.tmps) = true) (hy : ∀ w, S w → (execOp a.eval oi).run P w = .ok (.value v) w) (hS : S w)
    (h : wpTill P md ops Q S n fuel (listed.setIfInBounds i true) (a.put oi.dst v) w) : wpTill P md ops Q S n (fuel + 1) listed a w :=
  wpTill_first hi (Region.noSelect_spec hs) hQ fuel listed a w (Region.free_spec hi hf) hu (by simpa using hiu) (by simpa using hr) (.inl ⟨hw, hy⟩) hS h
/-- What needs no memory, taken first. -/
theorem till_free {i : Nat} {oi : Oper} {v : Value} {fuel : Nat} {listed : Array Bool} {a : Act} {w : World} (hi : ops[i]? = some oi)
    (hs : Region.noSelect ops = true) (hf : Region.free md ops listed i = true) (hr : (Region.ready md ops listed).contains i = true) (hin : (i == n) = false)
    (hQ : ∀ c a w, Q (.panic c) (a.put oi.dst v) w → Q (.panic c) a w) (hS : listed.getD n false = true ∨ S w) (hw : Region.wanted oi (yielded ops a.tmps) = true) (hy : ∀ w, (execOp a.eval oi).run P w = .ok (.value v) w)
    (h : wpTill P md ops Q S n fuel (listed.setIfInBounds i true) (a.put oi.dst v) w) : wpTill P md ops Q S n (fuel + 1) listed a w :=
  wpTill_free hi (Region.noSelect_spec hs) hQ (by simpa using hin) fuel listed a w (Region.free_spec hi hf) (by simpa using hr) (.inl ⟨hw, fun w _ => hy w⟩) hS h
/-- The only one that may come up. -/
theorem till_one {i : Nat} {oi : Oper} {fuel : Nat} {listed : Array Bool} {a : Act} {w : World} (hr : Region.ready md ops listed = [i]) (hi : ops[i]? = some oi)
    (h : ∀ K' : Act → World → Prop, (∀ a w, ((listed.setIfInBounds i true).getD n false = true ∨ S w) → wpTill P md ops Q S n fuel (listed.setIfInBounds i true) a w → K' a w) → if Region.wanted oi (yielded ops a.tmps) = true then Oper.wp P oi a w K' Q else K' (a.put oi.dst undef) w) :
    wpTill P md ops Q S n (fuel + 1) listed a w :=
  ⟨(fun h0 => by rw [h0] at hr; cases hr), fun j hj => by
    rw [hr] at hj
    obtain rfl : j = i := by simpa using hj
    have := h (fun a' w' => ((listed.setIfInBounds j true).getD n false = true ∨ S w') ∧ wpTill P md ops Q S n fuel (listed.setIfInBounds j true) a' w') (fun a w h1 h2 => ⟨h1, h2⟩)
    unfold wpOp
    simp only [hi]
    by_cases hw : Region.wanted oi (yielded ops a.tmps) = true
    · rw [if_pos hw] at this ⊢; exact .inl this
    · rw [if_neg hw] at this ⊢; exact this⟩
theorem till_done {listed : Array Bool} {a : Act} {w : World} (hr : Region.ready md ops listed = []) (h : Q .normal a w) : ∀ fuel, wpTill P md ops Q S n fuel listed a w
  | 0 => ⟨hr, h⟩
  | _ + 1 => ⟨fun _ => h, by rw [hr]; simp⟩
/-- The beginning. -/
theorem wp_region_till {id : Nat} {a : Act} {w : World} (n : Nat) (S : World → Prop) (hm : P.follows .mixedOrders = true)
    (h : wpTill P .any ops Q S n ops.size (Array.replicate ops.size false) a w.drew) : (Code.region id ops true).wp P Q a w :=
  wp_region_any hm (wpAny_of_till _ _ _ _ h)

end
end Go.Proofs.Ytilmfnlaenneeaa

/- Walks over the slots that are asked for: regions that draw their order. -/
namespace Go.Proofs.Ytilmfnlaenneeaa
open Go.RowKit
namespace K
variable {kn : Nat} {ds : List Deferred} {n : NN} {Q : Exit → Act → World → Prop} {l : Env} {w w' : World} {ops : Array Oper} {o : Oper} {rest : List Oper} {d : Nat} {S : World → Prop} {m fuel : Nat} {listed : Array Bool}

/-- What goes on behind a step of such a region. -/
def DK (ops : Array Oper) (Q : Exit → Act → World → Prop) (S : World → Prop) (m fuel : Nat) (listed : Array Bool) (a : Act) (w : World) : Prop :=
  (listed.getD m false = true ∨ S w) ∧ wpTill Try.prog .any ops Q S m fuel listed a w
structure WD (n : NN) (ops : Array Oper) (Q : Exit → Act → World → Prop) (S : World → Prop) (m fuel : Nat) (listed : Array Bool) (l : Env) (w : World) : Prop where
  go : ∀ a, Fr n a l → wpTill Try.prog .any ops Q S m fuel listed a w

/-- Nothing but a draw. -/
structure Drew (w w' : World) : Prop where
  below : ∀ B, Below B w w'
  heap : w'.heap = w.heap
theorem Drew.mk' (w : World) : Drew w w.drew := ⟨fun B => ((Keep.of_below (Below.refl B w)).drewN 1).below, rfl⟩

theorem WC.drawn {id : Nat} {ops : List Oper} (m : Nat) (S : World → Prop) (h : ∀ w', Drew w w' → WD ⟨kn, ds, none⟩ ops.toArray Q S m ops.length (Array.replicate ops.length false) l w') : WC ⟨kn, ds, none⟩ (.region id ops.toArray true) Q l w :=
  ⟨fun a ha => wp_region_till m S (by kernel_rfl) ((h _ (Drew.mk' w)).go a ha)⟩
theorem wpOp_of_list {K : Act → World → Prop} {i : Nat} {oi : Oper} {a : Act} (hi : ops[i]? = some oi) (h : wpList Try.prog ops (Exit.then K Q) [oi] a w) : wpOp Try.prog ops Q i K a w := by
  unfold wpOp
  simp only [hi]
  unfold wpList at h
  by_cases hw : Region.wanted oi (yielded ops a.tmps) = true
  · rw [if_pos hw] at h ⊢
    rcases h with h | ⟨h1, a2, w2, h2⟩
    · left
      unfold Oper.wp at h ⊢
      revert h
      generalize (execOp a.eval oi).run Try.prog w = r
      intro h
      cases r with
      | ok x w2 =>
        cases x <;> first | exact h | skip
        all_goals first
          | exact h
          | (refine Calls.mono h fun e w3 h3 => ?_
             cases e with
             | returned v => exact h3
             | panicked ch => exact h3
             | outgrown => obtain ⟨a4, w4, h4⟩ := h3; exact ⟨a4, w4, h4⟩)
      | halt x w2 => cases x <;> first | exact h | skip
    · exact .inr ⟨h1, a2, w2, h2⟩
  · rw [if_neg hw] at h ⊢
    exact h
theorem WD.one {oi : Oper} (i : Nat) (hr : Region.ready .any ops listed = [i]) (hi : ops[i]? = some oi) (h : WL ⟨kn, ds, none⟩ ops (Exit.then (DK ops Q S m fuel (listed.setIfInBounds i true)) Q) [oi] l w) : WD ⟨kn, ds, none⟩ ops Q S m (fuel + 1) listed l w :=
  ⟨fun a ha => ⟨(fun h0 => by rw [h0] at hr; cases hr), fun j hj => by
    rw [hr] at hj
    obtain rfl : j = i := by simpa using hj
    exact wpOp_of_list hi (h.go a ha)⟩⟩
/-- Two may come up. -/
theorem WD.two {oi oj : Oper} (i j : Nat) (hr : Region.ready .any ops listed = [i, j]) (hi : ops[i]? = some oi) (hj : ops[j]? = some oj) (h1 : WL ⟨kn, ds, none⟩ ops (Exit.then (DK ops Q S m fuel (listed.setIfInBounds i true)) Q) [oi] l w)
    (h2 : WL ⟨kn, ds, none⟩ ops (Exit.then (DK ops Q S m fuel (listed.setIfInBounds j true)) Q) [oj] l w) : WD ⟨kn, ds, none⟩ ops Q S m (fuel + 1) listed l w :=
  ⟨fun a ha => ⟨(fun h0 => by rw [h0] at hr; cases hr), fun k hk => by
    rw [hr] at hk
    rcases List.mem_cons.1 hk with e | e
    · subst e; exact wpOp_of_list hi (h1.go a ha)
    · obtain rfl : k = j := by simpa using e
      exact wpOp_of_list hj (h2.go a ha)⟩⟩
theorem WQ.dk (hS : listed.getD m false = true ∨ S w) (h : WD n ops Q S m fuel listed l w) : WQ n (Exit.then (DK ops Q S m fuel listed) Q) .normal l w := ⟨fun a ha => ⟨hS, h.go a ha⟩⟩
theorem WD.done (hr : Region.ready .any ops listed = []) (h : WQ n Q .normal l w) : WD n ops Q S m fuel listed l w := ⟨fun a ha => till_done hr (h.go a ha) fuel⟩
/-- May the operation i be taken first (it waits for nothing; what else may come up is apart from it)? m: the last one. -/
def mayB (ops : Array Oper) (listed : Array Bool) (i m : Nat) : Bool := Region.noSelect ops && Region.free .any ops listed i && (Region.ready .any ops listed).contains i && !(i == m)
def mayR (ops : Array Oper) (listed : Array Bool) (i m : Nat) (us : List Nat) : Bool := Region.noSelect ops && Region.free .any ops listed i && (Region.ready .any ops listed).contains i && waitB .any ops listed i m us && !(us.contains i)
/-- Panics pass. -/
def Passes (Q : Exit → Act → World → Prop) : Prop := ∀ c (a : Act) d v w, Q (.panic c) (a.put (some d) v) w → Q (.panic c) a w
theorem WD.first {oi : Oper} {v : Value} (i : Nat) (hi : ops[i]? = some oi) (hs : mayB ops listed i m = true) (hd : oi.dst = some d) (hn : Nat.blt d n.n = true) (hQ : Passes Q)
    (hy : ∀ a, Fr n a l → YieldsIf Try.prog ops (fun _ => True) oi v a) (hS : listed.getD m false = true ∨ S w) (h : WD n ops Q S m fuel (listed.setIfInBounds i true) ((d, v) :: l) w) : WD n ops Q S m (fuel + 1) listed l w :=
  ⟨fun a ha => by
    unfold mayB at hs
    simp only [Bool.and_eq_true, Bool.not_eq_true'] at hs
    exact wpTill_free hi (Region.noSelect_spec hs.1.1.1) (by rw [hd]; exact fun c a w => hQ c a d v w) (by simpa using hs.2) fuel listed a w (Region.free_spec hi hs.1.1.2) (by simpa using hs.1.2) (hy a ha) hS (by rw [hd]; exact h.go _ (ha.put hn v))⟩
/-- A pure operation, taken first. -/
theorem WD.free {oi : Oper} {v : Value} (i : Nat) (hi : ops[i]? = some oi) (hs : mayB ops listed i m = true) (hd : oi.dst = some d) (hn : Nat.blt d n.n = true)
    (hQ : Passes Q) (hw : wants ops l oi = some true) (hv : pv ty l oi.op = some v) (hS : listed.getD m false = true ∨ S w) (h : WD n ops Q S m fuel (listed.setIfInBounds i true) ((d, v) :: l) w) : WD n ops Q S m (fuel + 1) listed l w :=
  WD.first i hi hs hd hn hQ (fun _ ha => .inl ⟨wants_run ha hw, fun w _ => pv_run tyOk ha hv w⟩) hS h
/-- The same, its value in other words. -/
theorem WD.freeAs {oi : Oper} {v : Value} (i : Nat) (v' : Value) (hi : ops[i]? = some oi) (hs : mayB ops listed i m = true) (hd : oi.dst = some d) (hn : Nat.blt d n.n = true)
    (hQ : Passes Q) (hw : wants ops l oi = some true) (hv : pv ty l oi.op = some v) (e : v = v') (hS : listed.getD m false = true ∨ S w) (h : WD n ops Q S m fuel (listed.setIfInBounds i true) ((d, v') :: l) w) : WD n ops Q S m (fuel + 1) listed l w :=
  WD.first i hi hs hd hn hQ (fun _ ha => .inl ⟨wants_run ha hw, fun w _ => pv_run tyOk ha (hv.trans (congrArg some e)) w⟩) hS h
theorem WD.top {v v' : Value} (e : v = v') (h : WD n ops Q S m fuel listed ((d, v') :: l) w) : WD n ops Q S m fuel listed ((d, v) :: l) w := by subst e; exact h
theorem WD.topT {p : Prop} [Decidable p] (hp : p) (h : WD n ops Q S m fuel listed ((d, .bool true) :: l) w) : WD n ops Q S m fuel listed ((d, .bool (decide p)) :: l) w := WD.top (congrArg Value.bool (decide_eq_true hp)) h
theorem WD.topF {p : Prop} [Decidable p] (hp : ¬ p) (h : WD n ops Q S m fuel listed ((d, .bool false) :: l) w) : WD n ops Q S m fuel listed ((d, .bool (decide p)) :: l) w := WD.top (congrArg Value.bool (decide_eq_false hp)) h
theorem WD.top64 {x : Int} (hx : -9223372036854775808 ≤ x ∧ x ≤ 9223372036854775807) (h : WD n ops Q S m fuel listed ((d, .int .i64 x) :: l) w) : WD n ops Q S m fuel listed ((d, .int .i64 (IntKind.wrap .i64 x)) :: l) w := WD.top (congrArg (Value.int .i64) (IntWalk.i64_in _ hx)) h
/-- An operation that is not asked for. -/
theorem WD.skip {oi : Oper} (i : Nat) (hi : ops[i]? = some oi) (hs : mayB ops listed i m = true) (hd : oi.dst = some d) (hn : Nat.blt d n.n = true)
    (hQ : Passes Q) (hw : wants ops l oi = some false) (hS : listed.getD m false = true ∨ S w) (h : WD n ops Q S m fuel (listed.setIfInBounds i true) ((d, undef) :: l) w) : WD n ops Q S m (fuel + 1) listed l w :=
  WD.first i hi hs hd hn hQ (fun _ ha => .inr ⟨wants_run ha hw, rfl⟩) hS h
/-- What is read, taken first: its value is the same whatever comes ahead of it. -/
theorem WD.read {oi : Oper} {v : Value} (i : Nat) (us : List Nat) (hi : ops[i]? = some oi) (hs : mayR ops listed i m us = true) (hd : oi.dst = some d) (hn : Nat.blt d n.n = true)
    (hQ : Passes Q) (hw : wants ops l oi = some true) (hv : ∀ a, Fr n a l → ∀ w, S w → (execOp a.eval oi).run Try.prog w = .ok (.value v) w) (hS : S w) (h : WD n ops Q S m fuel (listed.setIfInBounds i true) ((d, v) :: l) w) : WD n ops Q S m (fuel + 1) listed l w :=
  ⟨fun a ha => by
    unfold mayR at hs
    simp only [Bool.and_eq_true, Bool.not_eq_true'] at hs
    exact wpTill_first hi (Region.noSelect_spec hs.1.1.1.1) (by rw [hd]; exact fun c a w => hQ c a d v w) fuel listed a w (Region.free_spec hi hs.1.1.1.2) hs.1.2 (by simpa using hs.2) (by simpa using hs.1.1.2) (.inl ⟨wants_run ha hw, hv a ha⟩) hS (by rw [hd]; exact h.go _ (ha.put hn v))⟩
theorem WD.load {oi : Oper} {t : Nat} {x : Operand} {p : Addr} {v : Value} (i : Nat) (us : List Nat) (hi : ops[i]? = some oi) (hs : mayR ops listed i m us = true) (hd : oi.dst = some d) (hn : Nat.blt d n.n = true)
    (hQ : Passes Q) (hw : wants ops l oi = some true) (ho : oi.op = .load t x) (hx : evl l x = some (.pointer (some p))) (ht : scal (tyOf ty t) = true) (hc : ∀ w, S w → w.cell? p = some v) (hS : S w)
    (h : WD n ops Q S m fuel (listed.setIfInBounds i true) ((d, v) :: l) w) : WD n ops Q S m (fuel + 1) listed l w :=
  WD.read i us hi hs hd hn hQ hw (fun a ha w hw => by unfold execOp; rw [ho]; simp [ha.eval hx, Instr.loadAt, Instr.sureAddr, scal_run ht p (hc w hw)]) hS h
theorem WD.loadMid {oi : Oper} {t b off mm : Nat} {x : Operand} {cs : List Value} (i : Nat) (us : List Nat) (hi : ops[i]? = some oi) (hs : mayR ops listed i m us = true) (hd : oi.dst = some d) (hn : Nat.blt d n.n = true)
    (hQ : Passes Q) (hw : wants ops l oi = some true) (ho : oi.op = .load t x) (hx : evl l x = some (.pointer (some ⟨b, off, none⟩))) (ht : cellsN (tyOf ty t) = some mm) (hc : ∀ w, S w → w.rangeAt b off cs) (hm : cs.length = mm) (hS : S w)
    (h : WD n ops Q S m fuel (listed.setIfInBounds i true) ((d, .agg cs.toArray) :: l) w) : WD n ops Q S m (fuel + 1) listed l w :=
  WD.read i us hi hs hd hn hQ hw (fun a ha w hw => by
    obtain ⟨_, hu, hdd, hsz⟩ := cellsN_ok tyOk ht
    unfold execOp
    rw [ho]
    have := run_loadVar_mid (P := Try.prog) w b off t cs _ (hc w hw) hu hdd (by rw [hsz, hm])
    simp [ha.eval hx, Instr.loadAt, Instr.sureAddr, this]) hS h
/-- An element's place, taken first. -/
theorem WD.idx {oi : Oper} {t e s : Nat} {x i' : Operand} {b off len cap : Nat} {k : IntKind} {z : Int} (i j q : Nat) (hi : ops[i]? = some oi) (hs : mayB ops listed i m = true) (hd : oi.dst = some d) (hn : Nat.blt d n.n = true)
    (hQ : Passes Q) (hw : wants ops l oi = some true) (ho : oi.op = .indexAddr t x i') (ht : tyOf ty t = some (.slice e s))
    (hx : evl l x = some (.slice (some ⟨b, off, none⟩) len cap)) (hi' : evl l i' = some (.int k z)) (hz : z = (j : Int)) (hj : j < len) (hq : off + j * s = q) (hS : listed.getD m false = true ∨ S w)
    (h : WD n ops Q S m fuel (listed.setIfInBounds i true) ((d, .pointer (some ⟨b, q, none⟩)) :: l) w) : WD n ops Q S m (fuel + 1) listed l w :=
  WD.first i hi hs hd hn hQ (fun _ ha => .inl ⟨wants_run ha hw, fun w _ => by rw [← hq]; exact idx_run ho ht (ha.eval hx) (ha.eval hi') hz hj⟩) hS h
/-- A byte of a text, taken first. -/
theorem WD.byte {oi : Oper} {t : Nat} {x i' : Operand} {s : ByteArray} {k : IntKind} {z : Int} (i j : Nat) (hi : ops[i]? = some oi) (hs : mayB ops listed i m = true) (hd : oi.dst = some d) (hn : Nat.blt d n.n = true)
    (hQ : Passes Q) (hw : wants ops l oi = some true) (ho : oi.op = .index t x i') (ht : tyOf ty t = some .str)
    (hx : evl l x = some (.string s)) (hi' : evl l i' = some (.int k z)) (hz : z = (j : Int)) (hj : j < s.size) (hS : listed.getD m false = true ∨ S w)
    (h : WD n ops Q S m fuel (listed.setIfInBounds i true) ((d, .int .u8 (s.toList.getD j 0).toNat) :: l) w) : WD n ops Q S m (fuel + 1) listed l w :=
  WD.first i hi hs hd hn hQ (fun _ ha => .inl ⟨wants_run ha hw, fun _ _ => byte_run ho ht (ha.eval hx) (ha.eval hi') hz hj⟩) hS h
end K
end Go.Proofs.Ytilmfnlaenneeaa

/- Walks over the slots that are asked for: closures; append of anything; parts of slices; a result that is a block. -/
namespace Go.Proofs.Ytilmfnlaenneeaa
open Go.RowKit
namespace K
variable {n : NN} {Q : Exit → Act → World → Prop} {l : Env} {w w' : World} {ops : Array Oper} {o : Oper} {rest : List Oper} {d : Nat}

/-- A function with what it holds of its surroundings. -/
theorem WL.fn {f : FuncId} {caps : List Operand} {cs : List Value} (hg : o.guard = none) (hd : o.dst = some d) (hn : Nat.blt d n.n = true) (ho : o.op = .makeFunc (.func f) #[] caps.toArray) (hv : evlAll l caps = some cs)
    (h : WL n ops Q rest ((d, .func (.func f) #[] cs.toArray) :: l) w) : WL n ops Q (o :: rest) l w :=
  WL.step hg hd hn (fun a ha => by
    unfold execOp
    rw [ho]
    have := evlAll_map ha hv
    have e1 : (caps.toArray.map a.eval) = cs.toArray := by rw [List.map_toArray, this]
    simp [Instr.makeFunc, e1]) h
/-- Such a function is called. -/
theorem WL.callF {f : FuncId} {fn : Func} {x : Operand} {args : List Operand} {ts : Array TypeId} {vs cs : List Value} {R : Ending → World → Prop} (hg : o.guard = none) (hd : o.dst = some d) (hn : Nat.blt d n.n = true)
    (ho : o.op = .call { callee := .value x, args := args.toArray, argTypes := ts }) (hx : evl l x = some (.func (.func f) #[] cs.toArray)) (hv : evlAll l args = some vs) (hf : Try.prog.funcs[f]? = some fn) (hb : fn.body.isNone = false) (hname : (fn.name == "runtime.NumGoroutine") = false)
    (hc : Calls Try.prog f (vs ++ cs).toArray w R) (h : ∀ e w', R e w' → ∃ v, e = .returned v ∧ WL n ops Q rest ((d, v) :: l) w') : WL n ops Q (o :: rest) l w :=
  ⟨fun a ha => by
    have hrun : (execOp a.eval o).run Try.prog w = .ok (.enter f (vs ++ cs).toArray) w := by
      unfold execOp
      rw [ho]
      have := evlAll_map ha hv
      have e1 : (args.toArray.map a.eval) = vs.toArray := by rw [List.map_toArray, this]
      have e2 : a.eval x = .func (.func f) #[] cs.toArray := ha.eval hx
      have hb' : ¬ fn.body = none := fun e => by rw [e] at hb; cases hb
      have hn' : ¬ fn.name = "runtime.NumGoroutine" := by simpa using hname
      simp [resolve, e1, e2, Deferred.ofValue, invoke, callFunc, hf, hb', hn']
    refine lw_enter hg hrun (hc.mono fun e w'' hh => ?_)
    obtain ⟨v, rfl, hwl⟩ := h e w'' hh
    exact ⟨v, rfl, by rw [hd]; exact hwl.go _ (ha.put hn v)⟩⟩
/-- append of anything onto an own slice. -/
theorem WL.appV {s x : Operand} {t e : TypeId} {m bytes : Nat} {v xv : Value} {k k2 : Nat} {l1 l2 : List Value} {O O2 : Nat → Prop} (hg : o.guard = none) (hd : o.dst = some d) (hn : Nat.blt d n.n = true)
    (ho : o.op = .call { callee := .builtin .append, args := #[s, x], argTypes := #[t, t] }) (E : ElemV Try.prog t e m bytes) (hs : evl l s = some v) (hown : OwnV e m w O v k l1) (hx : evl l x = some xv) (hsl : SlV w O2 m xv k2 l2) (hb : (k + k2) * bytes ≤ 140737488355328) (hb1 : k + k2 ≤ 140737488355328)
    (h : ∀ v' w', OwnV e m w' (fun g => O g ∨ g = w.heap.size) v' (k + k2) (l1 ++ l2) → Grow w v w' v' → WL n ops Q rest ((d, v') :: l) w') : WL n ops Q (o :: rest) l w :=
  ⟨fun a ha => by
    refine lw_via hg (by rw [ho]; intro c hc; cases hc) ?_
    refine wpList_appV hg s x t ho E (ha.eval hs) hown (ha.eval hx) hsl rfl (by unfold maxLen; omega) hb ?_
    intro sp c w' h2 h3 h4
    rw [hd]
    exact (h _ w' h2 ⟨grown_keep h3, fun g hg => (h4 g hg).imp id (fun e => by omega)⟩).go _ (ha.put hn _)⟩

theorem sl_from {w0 : World} {sp : Option Addr} {cap : Nat} {k : IntKind} {zs : List Int} (h : Sl k w0 (.slice sp zs.length cap) zs) {j : Nat} (hj : j ≤ zs.length) : Sl k w0 (sliced sp j zs.length cap 1) (zs.drop j) := by
  obtain ⟨sp', cap', he, hc, hm, hr, h0⟩ := h
  obtain ⟨rfl, -, rfl⟩ : sp = sp' ∧ zs.length = zs.length ∧ cap = cap' := by injection he with a b c; exact ⟨a, b, c⟩
  unfold sliced
  refine ⟨if cap = j then sp else sp.map (·.add (j * 1)), cap - j, by rw [List.length_drop], by rw [List.length_drop]; omega, by omega, fun hl => ?_, fun hn => ?_⟩
  · rw [List.length_drop] at hl
    obtain ⟨b, o, rfl, hb, hrow⟩ := hr (by omega)
    rw [if_neg (by omega)]
    refine ⟨b, o + j, by simp [Addr.add_mid], hb, fun i hi => ?_⟩
    rw [List.length_drop] at hi
    have := hrow (j + i) (by omega)
    rw [show o + j + i = o + (j + i) by omega, this]
    simp [nth, List.getD_eq_getElem?_getD, List.getElem?_drop]
  · by_cases e : cap = j
    · omega
    · rw [if_neg e] at hn
      cases sp with
      | none => have := h0 rfl; omega
      | some p => cases hn
/-- A slice from a place on. -/
theorem WL.from {t e : Nat} {x lo : Operand} {v : Value} {k kk : IntKind} {z : Int} {zs : List Int} {w0 : World} (hg : o.guard = none) (hd : o.dst = some d) (hn : Nat.blt d n.n = true) (ho : o.op = .slice t x (some lo) none none) (ht : tyOf ty t = some (.slice e 1))
    (hx : evl l x = some v) (hlo : evl l lo = some (.int kk z)) (h0 : 0 ≤ z) (h1 : z ≤ zs.length) (hs : Sl k w0 v zs) (h : ∀ v', Sl k w0 v' (zs.drop z.toNat) → WL n ops Q rest ((d, v') :: l) w) : WL n ops Q (o :: rest) l w := by
  have hs0 := hs
  obtain ⟨sp, cap, rfl, hc, hm, hr, hn0⟩ := hs
  refine WL.step hg hd hn (v := sliced sp z.toNat zs.length cap 1) (fun a ha => ?_) (h _ (sl_from hs0 (by omega)))
  obtain ⟨hu, hsz⟩ := TyOk.of tyOk ht
  have he : Try.prog.elem t = e := by simp [Program.elem, hu]
  have hu' : Try.prog.underlying t = some (.slice (Try.prog.elem t)) := by rw [he]; exact hu
  have hs : (sizeOf e).run Try.prog w = .ok 1 w := by
    cases hq : Try.prog.info? e with
    | none => rw [hq] at hsz; cases hsz
    | some q => rw [hq] at hsz; simp at hsz; simp [sizeOf, typeInfo, hq, hsz]
  unfold execOp
  rw [ho]
  simp [ha.eval hx, ha.eval hlo, run_sliceAt_slice w t _ _ _ _ hu', run_slice_l w t sp zs.length cap hu' kk z h0 (by omega), he, hs]
theorem sl_to {w0 : World} {sp : Option Addr} {cap : Nat} {k : IntKind} {zs : List Int} (h : Sl k w0 (.slice sp zs.length cap) zs) {j : Nat} (hj : j ≤ zs.length) : Sl k w0 (sliced sp 0 j cap 1) (zs.take j) := by
  obtain ⟨sp', cap', he, hc, hm, hr, h0⟩ := h
  obtain ⟨rfl, -, rfl⟩ : sp = sp' ∧ zs.length = zs.length ∧ cap = cap' := by injection he with a b c; exact ⟨a, b, c⟩
  unfold sliced
  have hl : (zs.take j).length = j := by rw [List.length_take]; omega
  refine ⟨if cap = 0 then sp else sp.map (·.add (0 * 1)), cap - 0, by rw [hl]; rfl, by rw [hl]; omega, by omega, fun h1 => ?_, fun hn => ?_⟩
  · rw [hl] at h1
    obtain ⟨b, o, rfl, hb, hrow⟩ := hr (by omega)
    rw [if_neg (by omega)]
    refine ⟨b, o, by simp [Addr.add_mid], hb, fun i hi => ?_⟩
    rw [hl] at hi
    rw [hrow i (by omega)]
    simp [nth, List.getD_eq_getElem?_getD, hi]
  · by_cases e : cap = 0
    · omega
    · rw [if_neg e] at hn
      cases sp with
      | none => have := h0 rfl; omega
      | some p => cases hn
/-- A slice up to a place. -/
theorem WL.upto {t e : Nat} {x hi : Operand} {v : Value} {k kk : IntKind} {z : Int} {zs : List Int} {w0 : World} (hg : o.guard = none) (hd : o.dst = some d) (hn : Nat.blt d n.n = true) (ho : o.op = .slice t x none (some hi) none) (ht : tyOf ty t = some (.slice e 1))
    (hx : evl l x = some v) (hhi : evl l hi = some (.int kk z)) (h0 : 0 ≤ z) (h1 : z ≤ zs.length) (hs : Sl k w0 v zs) (h : ∀ v', Sl k w0 v' (zs.take z.toNat) → WL n ops Q rest ((d, v') :: l) w) : WL n ops Q (o :: rest) l w := by
  have hs0 := hs
  obtain ⟨sp, cap, rfl, hc, hm, hr, hn0⟩ := hs
  refine WL.step hg hd hn (v := sliced sp 0 z.toNat cap 1) (fun a ha => ?_) (h _ (sl_to hs0 (by omega)))
  obtain ⟨hu, hsz⟩ := TyOk.of tyOk ht
  have he : Try.prog.elem t = e := by simp [Program.elem, hu]
  have hu' : Try.prog.underlying t = some (.slice (Try.prog.elem t)) := by rw [he]; exact hu
  have hs : (sizeOf e).run Try.prog w = .ok 1 w := by
    cases hq : Try.prog.info? e with
    | none => rw [hq] at hsz; cases hsz
    | some q => rw [hq] at hsz; simp at hsz; simp [sizeOf, typeInfo, hq, hsz]
  unfold execOp
  rw [ho]
  simp [ha.eval hx, ha.eval hhi, run_sliceAt_slice w t _ _ _ _ hu', run_slice_h w t sp zs.length cap hu' kk z h0 (by omega), he, hs]
section
variable {fn : Func} {R : Ending → World → Prop}
theorem WQ.ret0 {kn : Nat} {md : Option (Option Nat)} (hr : fn.results = #[]) (h : R (.returned (.tuple #[])) w) : WQ ⟨kn, [], md⟩ (bodyPost Try.prog fn R) .ret l w := ⟨fun _ ha => ⟨ha.defers, _, results_none hr _ _ _, h⟩⟩
theorem WQ.end0 {kn : Nat} {md : Option (Option Nat)} (hr : fn.results = #[]) (h : R (.returned (.tuple #[])) w) : WQ ⟨kn, [], md⟩ (bodyPost Try.prog fn R) .normal l w := ⟨fun _ ha => ⟨ha.defers, _, results_none hr _ _ _, h⟩⟩
/-- The result is a whole block. -/
theorem WQ.retC {kn : Nat} {md : Option (Option Nat)} {p g T m : Nat} {ty' : TypeId} {cs : List Value} (hr : fn.results = #[.cell p ty']) (hl : look l p = some (.pointer (some ⟨g, 0, none⟩))) (ht : cellsN (tyOf ty ty') = some m) (hm : cs.length = m) (hb : VBlk T w g cs)
    (h : R (.returned (.agg cs.toArray)) w) : WQ ⟨kn, [], md⟩ (bodyPost Try.prog fn R) .ret l w :=
  ⟨fun a ha => ⟨ha.defers, _, by
    obtain ⟨_, hu, hdd, hsz⟩ := cellsN_ok tyOk ht
    have hp := ha.getD hl
    simp only [Array.getD_eq_getD_getElem?] at hp
    have := run_loadVar_mid (P := Try.prog) w g 0 ty' cs _ (VBlk.rangeAt hb) hu hdd (by rw [hsz, hm])
    simp [results, hr, hp, asAddr, this], h⟩⟩
end
end K
end Go.Proofs.Ytilmfnlaenneeaa

/- Walks over the slots that are asked for: append of a text; an own row in a box. -/
namespace Go.Proofs.Ytilmfnlaenneeaa
open Go.RowKit
namespace K
variable {n : NN} {Q : Exit → Act → World → Prop} {l : Env} {w w' : World} {ops : Array Oper} {o : Oper} {rest : List Oper} {d : Nat}

theorem strCells_bytes (s : ByteArray) : Lib.strCells s = (bytesI s).map (Value.int .u8) := by
  unfold Lib.strCells bytesI
  rw [ByteArray.toList_eq, List.map_map]
  rfl
/-- append of a text's bytes onto an own row. -/
theorem appS_run {v : Value} {l1 : List Int} {s : ByteArray} (ty' : Nat) (hown : Bu w v l1) (hb : l1.length + s.size ≤ 140737488355328) :
    ∃ v' w', (Builtin.append_ #[39, 9] ty' #[v, .string s]).run Try.prog w = .ok v' w' ∧ Bu w' v' (l1 ++ bytesI s) ∧ Grow w v w' v' := by
  have hq : (Try.prog.info? 5).map (fun i => (i.zero, i.size, i.bytes)) = some (some (.int .u8 0), 1, 1) := by kernel_rfl
  obtain ⟨ie, hie, he⟩ := Option.map_eq_some_iff.1 hq
  obtain ⟨hz0, he2⟩ := Prod.mk.inj he
  obtain ⟨hsz, hby⟩ := Prod.mk.inj he2
  have hown' : w.ownsRow 0 5 1 v l1.length (l1.map (Value.int .u8)) := hown
  obtain ⟨v', w', hr, h2, h3, -⟩ := Lib.run_append_own_string (P := Try.prog) w 0 39 9 ty' 5 ie Try.underlying39 Try.underlying9 hie hz0 hsz hby v l1.length _ hown' s (by unfold maxLen; omega) hb (Nat.zero_le _)
  refine ⟨v', w', hr, ?_, grown_keep h3, ?_⟩
  · rw [strCells_bytes, ← List.map_append] at h2
    show World.ownsRow _ _ _ _ _ _ _
    rw [List.length_append, bytesI_len]
    exact h2
  · intro g hg
    rcases hown'.2 with ⟨rfl, h0⟩ | ⟨g0, cap, cur, rfl, hbg, hgc, hnc, hcm, hcs, htake⟩
    · have hown2 : w.ownsRow w.heap.size 5 1 (.slice none 0 0) l1.length (l1.map (Value.int .u8)) := ⟨hown'.1, .inl ⟨rfl, h0⟩⟩
      obtain ⟨v2, w2, hr2, h22, -, -⟩ := Lib.run_append_own_string (P := Try.prog) w w.heap.size 39 9 ty' 5 ie Try.underlying39 Try.underlying9 hie hz0 hsz hby _ l1.length _ hown2 s (by unfold maxLen; omega) hb (Nat.le_refl _)
      rw [hr] at hr2
      injection hr2 with e1 e2
      subst e1
      right
      rcases h22.2 with ⟨rfl, -⟩ | ⟨g1, _, _, rfl, h, -⟩
      · cases hg
      · cases hg; exact h
    · by_cases hroom : l1.length + s.size ≤ cap
      · have hcs' : cur.size = cap := by simpa using hcs
        have hr2 := Lib.run_append_room_string (P := Try.prog) w 39 9 ty' 5 ie Try.underlying39 Try.underlying9 hie hsz g0 l1.length cap cur hgc s hroom (by omega)
        rw [hr] at hr2
        injection hr2 with e1 e2
        subst e1
        cases hg
        exact .inl rfl
      · have hr2 := Lib.run_append_grow_string (P := Try.prog) w 39 9 ty' 5 ie (.int .u8 0) Try.underlying39 Try.underlying9 hie hz0 ⟨g0, 0, none⟩ l1.length cap (l1.map (Value.int .u8)) (by rw [hsz]; simp) (hown'.cells (g := g0) rfl) s (by omega) (by omega)
          (by rw [hby]; exact growslice_fits (by omega) (by omega))
        rw [hr] at hr2
        injection hr2 with e1 e2
        subst e1
        cases hg
        exact .inr (Nat.le_refl _)
theorem WL.appS {s x : Operand} {v : Value} {t : ByteArray} {l1 : List Int} (hg : o.guard = none) (hd : o.dst = some d) (hn : Nat.blt d n.n = true)
    (ho : o.op = .call { callee := .builtin .append, args := #[s, x], argTypes := #[39, 9] }) (hs : evl l s = some v) (hown : Bu w v l1) (hx : evl l x = some (.string t)) (hb : l1.length + t.size ≤ 140737488355328)
    (h : ∀ v' w', Bu w' v' (l1 ++ bytesI t) → Grow w v w' v' → WL n ops Q rest ((d, v') :: l) w') : WL n ops Q (o :: rest) l w := by
  obtain ⟨v', w', hr, h2, h3⟩ := appS_run o.type hown hb
  refine WL.step hg hd hn (fun a ha => ?_) (h v' w' h2 h3)
  unfold execOp
  simp only [ho, resolve, invoke, builtin, Sem.run_bind, Sem.run_pure, Result.andThen_ok, List.map_toArray, List.map_cons, List.map_nil, ha.eval hs, ha.eval hx, hr]

/-- What becomes of memory when the own slice v, that lies in the box bb, becomes v'. -/
def GrowB (bb : Nat) (w : World) (v : Value) (w' : World) (v' : Value) : Prop :=
  Keep (fun b => b < w.heap.size ∧ v.ownBlock ≠ some b ∧ b ≠ bb) w w' ∧ ∀ g, v'.ownBlock = some g → v.ownBlock = some g ∨ w.heap.size ≤ g
theorem GrowB.refl (bb : Nat) (w : World) (v : Value) : GrowB bb w v w v := ⟨Keep.refl _ _, fun _ h => .inl h⟩
theorem GrowB.trans {bb : Nat} {w w1 w2 : World} {v v1 v2 : Value} (h : GrowB bb w v w1 v1) (k : GrowB bb w1 v1 w2 v2) : GrowB bb w v w2 v2 :=
  ⟨h.1.trans (k.1.mono fun b hb => ⟨Nat.lt_of_lt_of_le hb.1 h.1.size, fun e => (h.2 b e).elim hb.2.1 (fun h2 => absurd hb.1 (by omega)), hb.2.2⟩),
   fun g hg => (k.2 g hg).elim (h.2 g) (fun h2 => .inr (Nat.le_trans h.1.size h2))⟩
theorem Grow.box {bb : Nat} {w w' : World} {v v' : Value} (h : Grow w v w' v') : GrowB bb w v w' v' := ⟨h.1.mono fun _ hb => ⟨hb.1, hb.2.1⟩, h.2⟩
theorem GrowB.below {bb : Nat} {w w1 w2 : World} {v v1 : Value} (h : GrowB bb w v w1 v1) (k : Below w1.heap.size w1 w2) : GrowB bb w v w2 v1 :=
  ⟨h.1.trans ((Keep.of_below k).mono fun _ hb => Nat.lt_of_lt_of_le hb.1 h.1.size), h.2⟩
/-- The own row of the box. -/
structure Bx (bb : Nat) (w : World) (v : Value) (l : List Int) : Prop where
  blk : VBlk 39 w bb [v]
  bu : Bu w v l
  ne : v.ownBlock ≠ some bb
theorem Bx.below {bb : Nat} {w w' : World} {v : Value} {l : List Int} (h : Bx bb w v l) (hk : Below w.heap.size w w') : Bx bb w' v l := ⟨h.blk.below hk h.blk.lt, h.bu.below hk, h.ne⟩
/-- The own slice that has grown is laid into its box. -/
theorem Bx.put {bb : Nat} {w w' : World} {v v' : Value} {l l' : List Int} (h : Bx bb w v l) (hb : Bu w' v' l') (hg : Grow w v w' v') :
    VBlk 39 w' bb [v] ∧ Bx bb (w'.setCell ⟨bb, 0, none⟩ v') v' l' ∧ GrowB bb w v (w'.setCell ⟨bb, 0, none⟩ v') v' := by
  have hblk : VBlk 39 w' bb [v] := h.blk.keep hg.1 ⟨h.blk.lt, h.ne⟩
  have hne : v'.ownBlock ≠ some bb := fun e => (hg.2 _ e).elim h.ne (fun h2 => absurd h.blk.lt (by omega))
  refine ⟨hblk, ⟨hblk.set 0 v', hb.keep (K := fun b => b ≠ bb) ((Keep.refl _ w').setCell (fun hk => hk rfl) _) (fun g hg2 e => hne (by rw [hg2, e])), hne⟩, ?_, hg.2⟩
  exact (hg.1.mono fun _ hb => ⟨hb.1, hb.2.1⟩ : Keep (fun b => b < w.heap.size ∧ v.ownBlock ≠ some b ∧ b ≠ bb) w w').setCell (fun hk => hk.2.2 rfl) _
theorem Bx.keep {bb g T : Nat} {w w' : World} {v v' : Value} {cs : List Value} (hg : GrowB bb w v w' v') (h : VBlk T w g cs) (h1 : v.ownBlock ≠ some g) (h2 : g ≠ bb) : VBlk T w' g cs ∧ v'.ownBlock ≠ some g :=
  ⟨h.keep hg.1 ⟨h.lt, h1, h2⟩, fun e => (hg.2 _ e).elim h1 (fun h3 => absurd h.lt (by omega))⟩
/-- A slice is one cell. -/
theorem Bu.cell1 {w : World} {v : Value} {l : List Int} (h : Bu w v l) : v.oneCell' = true := by obtain ⟨sp, c, rfl, -, -⟩ := h.form; rfl
section
variable {S : World → Prop} {m fuel : Nat} {listed : Array Bool}
/-- A byte's, or any integer's, place, taken first, and what lies there. -/
theorem WD.idxI {oi : Oper} {t e : Nat} {x i' : Operand} {v : Value} {k kk : IntKind} {z : Int} {zs : List Int} {w0 : World} (i j : Nat) (hi : ops[i]? = some oi) (hs : mayB ops listed i m = true) (hd : oi.dst = some d) (hn : Nat.blt d n.n = true)
    (hQ : Passes Q) (hw : wants ops l oi = some true) (ho : oi.op = .indexAddr t x i') (ht : tyOf ty t = some (.slice e 1)) (hx : evl l x = some v) (hsl : Sl kk w0 v zs) (hi' : evl l i' = some (.int k z)) (hz : z = (j : Int)) (hj : j < zs.length)
    (hS : listed.getD m false = true ∨ S w) (h : ∀ p, w0.cell? p = some (.int kk (nth zs j)) → WD n ops Q S m fuel (listed.setIfInBounds i true) ((d, .pointer (some p)) :: l) w) : WD n ops Q S m (fuel + 1) listed l w := by
  obtain ⟨sp, cap, rfl, -, -, h3, -⟩ := hsl
  obtain ⟨b, off, rfl, -, hr⟩ := h3 (by omega)
  exact WD.idx i j (off + j) hi hs hd hn hQ hw ho ht hx hi' hz hj (by rw [Nat.mul_one]) hS (h _ (hr.at j hj))
end
theorem heap_cell {w w' : World} (h : w'.heap = w.heap) (p : Addr) : w'.cell? p = w.cell? p := World.cell?_of_block (by rw [h])
end K
end Go.Proofs.Ytilmfnlaenneeaa

/- Rows of elements of several cells that say what lies in them, with the blocks that they lie in; own rows of these. -/
namespace Go.Proofs.Ytilmfnlaenneeaa
open Go.RowKit
namespace K
variable {n : NN} {Q : Exit → Act → World → Prop} {l : Env} {w w' : World} {ops : Array Oper} {o : Oper} {rest : List Oper} {d : Nat}

/-- The slice v reads as the elements l of m cells each, which P says of; its block is one of O. -/
def Els {α : Type} (m : Nat) (z : α) (P : α → List Value → Prop) (O : Nat → Prop) (w : World) (v : Value) (l : List α) : Prop :=
  ∃ sp cap, v = .slice sp l.length cap ∧ l.length ≤ cap ∧ cap ≤ 9223372036854775807 ∧ (sp = none → cap = 0) ∧
    (0 < l.length → ∃ b o, sp = some ⟨b, o, none⟩ ∧ b < w.heap.size ∧ O b ∧ ∀ j, j < l.length → ∃ cs, cs.length = m ∧ P (l.getD j z) cs ∧ w.rangeAt b (o + j * m) cs)
theorem Els.nil {α : Type} (m : Nat) (z : α) (P : α → List Value → Prop) (O : Nat → Prop) (w : World) : Els m z P O w (.slice none 0 0) [] :=
  ⟨none, 0, rfl, Nat.le_refl _, by omega, fun _ => rfl, fun h => absurd h (by simp)⟩
theorem Els.keep {α : Type} {m : Nat} {z : α} {P P' : α → List Value → Prop} {O O' : Nat → Prop} {w w' : World} {v : Value} {l : List α} (h : Els m z P O w v l) {K : Nat → Prop} (hk : Keep K w w') (hK : ∀ b, O b → b < w.heap.size → K b)
    (hO : ∀ b, O b → O' b) (hP : ∀ x cs, P x cs → P' x cs) : Els m z P' O' w' v l := by
  obtain ⟨sp, cap, h1, h2, h3, h5, h4⟩ := h
  refine ⟨sp, cap, h1, h2, h3, h5, fun h0 => ?_⟩
  obtain ⟨b, o, e, hlt, hOb, hr⟩ := h4 h0
  refine ⟨b, o, e, Nat.lt_of_lt_of_le hlt hk.size, hO b hOb, fun j hj => ?_⟩
  obtain ⟨cs, hc, hp, hat⟩ := hr j hj
  exact ⟨cs, hc, hP _ _ hp, fun i u hu => by rw [hk.cell (p := ⟨b, o + j * m + i, none⟩) (hK b hOb hlt)]; exact hat i u hu⟩
theorem Els.mono {α : Type} {m : Nat} {z : α} {P P' : α → List Value → Prop} {O O' : Nat → Prop} {w : World} {v : Value} {l : List α} (h : Els m z P O w v l) (hO : ∀ b, O b → O' b) (hP : ∀ x cs, P x cs → P' x cs) : Els m z P' O' w v l :=
  h.keep (Keep.refl (fun _ => True) w) (fun _ _ _ => trivial) hO hP

/-- An own row of such elements. -/
def OwnE {α : Type} (e : TypeId) (m : Nat) (z : α) (P : α → List Value → Prop) (O : Nat → Prop) (w : World) (v : Value) (l : List α) : Prop :=
  ∃ kcs : List (List Value), kcs.length = l.length ∧ (∀ j, j < l.length → (kcs.getD j []).length = m ∧ P (l.getD j z) (kcs.getD j [])) ∧ OwnV e m w O v l.length kcs.flatten
theorem OwnE.nil {α : Type} (e : TypeId) (m : Nat) (z : α) (P : α → List Value → Prop) (O : Nat → Prop) (w : World) : OwnE e m z P O w (.slice none 0 0) [] := ⟨[], rfl, fun j hj => absurd hj (by simp), OwnV.nil _ _ _ _⟩
theorem OwnE.keep {α : Type} {e : TypeId} {m : Nat} {z : α} {P P' : α → List Value → Prop} {O O' : Nat → Prop} {w w' : World} {v : Value} {l : List α} (h : OwnE e m z P O w v l) {K : Nat → Prop} (hk : Keep K w w') (hK : ∀ g, v.ownBlock = some g → K g)
    (hO : ∀ b, O b → O' b) (hP : ∀ x cs, P x cs → P' x cs) : OwnE e m z P' O' w' v l := by
  obtain ⟨kcs, h1, h2, h3⟩ := h
  exact ⟨kcs, h1, fun j hj => ⟨(h2 j hj).1, hP _ _ (h2 j hj).2⟩, (h3.keep hk hK).mono hO⟩
theorem OwnE.lt {α : Type} {e : TypeId} {m : Nat} {z : α} {P : α → List Value → Prop} {O : Nat → Prop} {w : World} {v : Value} {l : List α} (h : OwnE e m z P O w v l) {g : Nat} (hg : v.ownBlock = some g) : g < w.heap.size := by
  obtain ⟨kcs, -, -, h3⟩ := h; exact h3.lt hg
theorem OwnE.own {α : Type} {e : TypeId} {m : Nat} {z : α} {P : α → List Value → Prop} {O : Nat → Prop} {w : World} {v : Value} {l : List α} (h : OwnE e m z P O w v l) {g : Nat} (hg : v.ownBlock = some g) : O g := by
  obtain ⟨kcs, -, -, h3⟩ := h; exact h3.own hg
theorem OwnE.one {α : Type} {e : TypeId} {m : Nat} {z : α} {P : α → List Value → Prop} {O : Nat → Prop} {w : World} {v : Value} {l : List α} (h : OwnE e m z P O w v l) : v.oneCell' = true := by
  obtain ⟨kcs, -, -, h3⟩ := h; obtain ⟨sp, c, rfl, -⟩ := h3.slice; rfl
theorem flatten_get {m : Nat} : ∀ (k : List (List Value)), (∀ x ∈ k, x.length = m) → ∀ j i, j < k.length → i < m → k.flatten[j * m + i]? = (k.getD j [])[i]?
  | [], _, j, i, hj, _ => by simp at hj
  | x :: k, hx, j, i, hj, hi => by
    have h0 := hx x (by simp)
    cases j with
    | zero => simp only [List.flatten_cons, List.getD_cons_zero, Nat.zero_mul, Nat.zero_add]; rw [List.getElem?_append_left (by omega)]
    | succ j =>
      simp only [List.flatten_cons, List.getD_cons_succ]
      rw [List.getElem?_append_right (by rw [h0, Nat.succ_mul]; omega), h0, show (j + 1) * m + i - m = j * m + i by rw [Nat.succ_mul]; omega]
      exact flatten_get k (fun y hy => hx y (by simp [hy])) j i (by simpa using hj) hi
theorem all_of_getD {m : Nat} {k : List (List Value)} (h : ∀ j, j < k.length → (k.getD j []).length = m) : ∀ x ∈ k, x.length = m := by
  intro x hx
  obtain ⟨j, hj, rfl⟩ := List.getElem_of_mem hx
  have := h j hj
  simpa [hj] using this
/-- It reads so. -/
theorem OwnE.els {α : Type} {e : TypeId} {m : Nat} {z : α} {P : α → List Value → Prop} {O : Nat → Prop} {w : World} {v : Value} {l : List α} (h : OwnE e m z P O w v l) : Els m z P O w v l := by
  obtain ⟨kcs, h1, h2, h3⟩ := h
  obtain ⟨q1, q2, sp, cap, rfl, h4, h5, h6, h7⟩ := h3.slV
  refine ⟨sp, cap, rfl, h4, h5, h6, fun h0 => ?_⟩
  obtain ⟨b, o, e, hb, hO, hr⟩ := h7 h0
  have hall := all_of_getD (k := kcs) (m := m) fun j hj => (h2 j (by omega)).1
  refine ⟨b, o, e, hb, hO, fun j hj => ⟨kcs.getD j [], (h2 j hj).1, (h2 j hj).2, fun i u hu => ?_⟩⟩
  have him : i < m := by
    rcases Nat.lt_or_ge i m with h | h
    · exact h
    · rw [List.getElem?_eq_none (by rw [(h2 j hj).1]; exact h)] at hu; cases hu
  have hg := flatten_get kcs hall j i (by omega) him
  have hlt : j * m + i < kcs.flatten.length := by
    rcases Nat.lt_or_ge (j * m + i) kcs.flatten.length with h | h
    · exact h
    · rw [List.getElem?_eq_none h, hu] at hg; cases hg
  have := hr (j * m + i) hlt
  rw [Nat.add_assoc, this, List.getD_eq_getElem?_getD, hg, hu]
  rfl
/-- One more. -/
theorem OwnE.snoc {α : Type} {e : TypeId} {m : Nat} {z : α} {P : α → List Value → Prop} {O : Nat → Prop} {w' : World} {v' : Value} {l : List α} {kcs : List (List Value)} {x : α} {cs : List Value} (h1 : kcs.length = l.length) (h2 : ∀ j, j < l.length → (kcs.getD j []).length = m ∧ P (l.getD j z) (kcs.getD j []))
    (hc : cs.length = m) (hp : P x cs) (h : OwnV e m w' O v' (l.length + 1) (kcs.flatten ++ cs)) : OwnE e m z P O w' v' (l ++ [x]) := by
  refine ⟨kcs ++ [cs], by simp [h1], fun j hj => ?_, ?_⟩
  · rcases Nat.lt_or_ge j l.length with hl | hl
    · have := h2 j hl
      simp only [List.getD_eq_getElem?_getD] at this ⊢
      rw [List.getElem?_append_left (by omega), List.getElem?_append_left (by omega)]
      exact this
    · obtain rfl : j = l.length := by simp at hj; omega
      simp only [List.getD_eq_getElem?_getD]
      rw [List.getElem?_append_right (by omega), List.getElem?_append_right (by omega), h1]
      simp [hc, hp]
  · rw [List.length_append, List.length_singleton, List.flatten_append]
    simpa using h

/-- A literal of one element. -/
theorem WL.lit1 {t e s : Nat} {x : Operand} {u : Value} {cs : List Value} (hg : o.guard = none) (hd : o.dst = some d) (hn : Nat.blt d n.n = true) (ho : o.op = .buildSlice t 1 #[(0, x)]) (ht : tyOf ty t = some (.slice e s))
    (hx : evl l x = some u) (hu : u.cells = cs.toArray) (hcs : cs.length = s) (hs : 0 < s ∧ s ≤ 1000) (hz : (Try.prog.info? e).bind (fun i => i.zero.map fun _ => i.size) = some s) (h : ∀ g w', Fresh w g w' e cs → WL n ops Q rest ((d, .slice (some ⟨g, 0, none⟩) 1 1) :: l) w') : WL n ops Q (o :: rest) l w :=
  WL.step hg hd hn (fun a ha => by
    obtain ⟨ie, hie, hz⟩ := Option.bind_eq_some_iff.1 hz
    obtain ⟨z, hz, hsz⟩ := Option.map_eq_some_iff.1 hz
    unfold execOp
    rw [ho]
    have e2 := Great.fill_whole (s := s) hs.1 [u] ((Array.range (1 * s)).map (z.cells[· % z.cells.size]!)) (by intro v hv; simp at hv; rw [hv, hu]; simpa using hcs) (by simp)
    have := run_buildSlice (P := Try.prog) w t e 1 (#[(0, x)].map fun (p : Nat × Operand) => (p.1, a.eval p.2)) cs.toArray ie z (TyOk.of tyOk ht).1 hie hz (by rw [hsz]; omega) (by rw [hsz]; omega) (by
      rw [hsz]
      simp only [List.map_toArray, List.map_cons, List.map_nil, ha.eval hx]
      refine Eq.trans e2 ?_
      simp [hu])
    simp only [Sem.run_bind, this, Result.andThen_ok]
    rfl) (h _ _ (Fresh.mk' w e cs))
/-- A literal of nothing. -/
theorem WL.empty {t e s : Nat} (hg : o.guard = none) (hd : o.dst = some d) (hn : Nat.blt d n.n = true) (ho : o.op = .buildSlice t 0 #[]) (ht : tyOf ty t = some (.slice e s))
    (h : ∀ g w', Fresh w g w' e [] → WL n ops Q rest ((d, .slice (some ⟨g, 0, none⟩) 0 0) :: l) w') : WL n ops Q (o :: rest) l w :=
  WL.step hg hd hn (fun a _ => by
    obtain ⟨hu, hsz⟩ := TyOk.of tyOk ht
    have hs : (sizeOf e).run Try.prog w = .ok s w := by
      cases hq : Try.prog.info? e with
      | none => rw [hq] at hsz; cases hsz
      | some q => rw [hq] at hsz; simp at hsz; simp [sizeOf, typeInfo, hq, hsz]
    unfold execOp
    rw [ho]
    simp [Instr.buildSlice, run_underlying hu, hs, Instr.fill, newRow]
    rw [show (Array.range 0) = #[] from by decide]
    simp) (h _ _ (Fresh.mk' w e []))
theorem Bu.ofFresh {w w' : World} {g : Nat} (h : Fresh w g w' 5 []) : Bu w' (.slice (some ⟨g, 0, none⟩) 0 0) [] :=
  ⟨by simp, .inr ⟨g, 0, #[], rfl, Nat.zero_le _, h.blk, Nat.le_refl _, by unfold maxLen; omega, by simp, by simp⟩⟩
theorem SlV.fresh1 {w w' : World} {g T : Nat} {cs : List Value} (h : Fresh w g w' T cs) (h1 : Ones cs) : SlV w' (fun b => b = g) cs.length (.slice (some ⟨g, 0, none⟩) 1 1) 1 cs :=
  ⟨by simp, h1, _, 1, rfl, Nat.le_refl _, by omega, (fun h => by cases h), fun _ => ⟨g, 0, rfl, h.blk.lt, rfl, RowV.of_vblk h.blk⟩⟩
/-- append of one element, that lies in a literal of its own, onto an own row. -/
theorem WL.snoc {α : Type} {s x : Operand} {t e : TypeId} {m bytes : Nat} {z : α} {P : α → List Value → Prop} {O : Nat → Prop} {v : Value} {k : List α} {y : α} {cs : List Value} {g : Nat} (hg : o.guard = none) (hd : o.dst = some d) (hn : Nat.blt d n.n = true)
    (ho : o.op = .call { callee := .builtin .append, args := #[s, x], argTypes := #[t, t] }) (E : ElemV Try.prog t e m bytes) (hs : evl l s = some v) (hown : OwnE e m z P O w v k) (hx : evl l x = some (.slice (some ⟨g, 0, none⟩) 1 1))
    (hf : VBlk e w g cs) (h1 : Ones cs) (hc : cs.length = m) (hp : P y cs) (hb : (k.length + 1) * bytes ≤ 140737488355328) (hb1 : k.length + 1 ≤ 140737488355328)
    (h : ∀ v' w', OwnE e m z P (fun b => O b ∨ b = w.heap.size) w' v' (k ++ [y]) → Grow w v w' v' → WL n ops Q rest ((d, v') :: l) w') : WL n ops Q (o :: rest) l w := by
  obtain ⟨kcs, h2, h3, h4⟩ := hown
  have hsl : SlV w (fun b => b = g) m (.slice (some ⟨g, 0, none⟩) 1 1) 1 cs := ⟨by rw [hc, Nat.one_mul], h1, _, 1, rfl, Nat.le_refl _, by omega, (fun h => by cases h), fun _ => ⟨g, 0, rfl, hf.lt, rfl, RowV.of_vblk hf⟩⟩
  refine WL.appV hg hd hn ho E hs h4 hx hsl hb hb1 fun v' w' h5 h6 => h v' w' ?_ h6
  exact OwnE.snoc h2 h3 hc hp h5
end K
end Go.Proofs.Ytilmfnlaenneeaa

/- Walks over the slots that are asked for: parts of a block, stored. -/
namespace Go.Proofs.Ytilmfnlaenneeaa
open Go.RowKit
namespace K
variable {n : NN} {Q : Exit → Act → World → Prop} {l : Env} {w w' : World} {ops : Array Oper} {o : Oper} {rest : List Oper} {d : Nat}
/-- Some cells in the middle of a block. -/
theorem WL.storeMid {t mm T b off : Nat} {x y : Operand} {m cs : List Value} (hg : o.guard = none) (hd : o.dst = none) (ho : o.op = .store t x y) (hx : evl l x = some (.pointer (some ⟨b, off, none⟩))) (hy : evl l y = some (.agg m.toArray))
    (ht : cellsN (tyOf ty t) = some mm) (hb : VBlk T w b cs) (hm : m.length = mm) (hfit : off + mm ≤ cs.length) (h1 : Ones m) (h : WL n ops Q rest l (w.setRow b (cs.take off ++ m ++ cs.drop (off + mm)).toArray)) : WL n ops Q (o :: rest) l w :=
  WL.stepU hg hd (fun a ha => by
    obtain ⟨_, -, -, hsz⟩ := cellsN_ok tyOk ht
    have hs : (sizeOf t).run Try.prog w = .ok mm w := by
      cases hq : Try.prog.info? t with
      | none => rw [hq] at hsz; cases hsz
      | some q => rw [hq] at hsz; simp at hsz; simp [sizeOf, typeInfo, hq, hsz]
    have hrun := run_storeCells_at (P := Try.prog) b off T m 0 cs.toArray w hb (by simp only [List.size_toArray]; omega) h1
    simp only [Nat.add_zero] at hrun
    subst hm
    unfold execOp
    rw [ho]
    simp [ha.eval hx, ha.eval hy, Instr.storeAt, Instr.sureAddr, storeVar, hs, Value.cells, hrun]) h
theorem all_run {a : Act} {t e s m b off : Nat} {x : Operand} (ho : o.op = .slice t x none none none) (ht : tyOf ty t = some (.arr m e s)) (hx : a.eval x = .pointer (some ⟨b, off, none⟩)) : (execOp a.eval o).run Try.prog w = .ok (.value (.slice (some ⟨b, off, none⟩) m m)) w := by
  obtain ⟨hu, hse, -⟩ := TyOk.of tyOk ht
  have h1 : Try.prog.elem t = e := by simp [Program.elem, hu]
  have h2 : Try.prog.arrayLen t = m := by simp [Program.arrayLen, hu]
  have hs : (sizeOf e).run Try.prog w = .ok s w := by
    cases hq : Try.prog.info? e with
    | none => rw [hq] at hse; cases hse
    | some q => rw [hq] at hse; simp at hse; simp [sizeOf, typeInfo, hq, hse]
  have hr := run_sliceAt_array_all (P := Try.prog) w t ⟨b, off, none⟩ (by rw [h1, h2]; exact hu)
  unfold execOp
  rw [ho]
  have ha : slicedAt ⟨b, off, none⟩ 0 m m s = .slice (some ⟨b, off, none⟩) m m := by
    unfold slicedAt
    by_cases h0 : m = 0
    · rw [if_pos h0]; simp
    · rw [if_neg h0, Nat.zero_mul]; rfl
  simp [hx, hr, h1, h2, hs, ha]
/-- An array as a slice. -/
theorem WL.all {t e s m b off : Nat} {x : Operand} (hg : o.guard = none) (hd : o.dst = some d) (hn : Nat.blt d n.n = true) (ho : o.op = .slice t x none none none) (ht : tyOf ty t = some (.arr m e s)) (hx : evl l x = some (.pointer (some ⟨b, off, none⟩)))
    (h : WL n ops Q rest ((d, .slice (some ⟨b, off, none⟩) m m) :: l) w) : WL n ops Q (o :: rest) l w := WL.step hg hd hn (fun _ ha => all_run ho ht (ha.eval hx)) h
/-- An element of an array. -/
theorem WL.elem {t e m : Nat} {x i : Operand} {cs : List Value} {k : IntKind} {v : Value} (j : Nat) (hg : o.guard = none) (hd : o.dst = some d) (hn : Nat.blt d n.n = true) (ho : o.op = .index t x i) (ht : tyOf ty t = some (.arr m e 1)) (he : scal (tyOf ty e) = true)
    (hx : evl l x = some (.agg cs.toArray)) (hi : evl l i = some (.int k (j : Int))) (hj : j < m) (hv : cs[j]? = some v) (h : WL n ops Q rest ((d, v) :: l) w) : WL n ops Q (o :: rest) l w :=
  WL.step hg hd hn (fun a ha => by
    obtain ⟨hu, hse, -⟩ := TyOk.of tyOk ht
    obtain ⟨ie, hie, hsz⟩ := Option.map_eq_some_iff.1 hse
    have hd : ∃ d, Try.prog.underlying e = some d ∧ (match d with | .struct _ | .array _ _ => false | _ => true) = true := by
      cases hq : tyOf ty e with
      | none => rw [hq] at he; cases he
      | some z =>
        rw [hq] at he
        have hz := TyOk.of tyOk hq
        cases z with
        | int k => exact ⟨_, hz, rfl⟩
        | str => exact ⟨_, hz, rfl⟩
        | bool => exact ⟨_, hz, rfl⟩
        | ptr e => exact ⟨_, hz, rfl⟩
        | slice e s => exact ⟨_, hz.1, rfl⟩
        | struct m fs => cases he
        | arr m e s => cases he
    obtain ⟨dd, h1, h2⟩ := hd
    have := run_index_arr (P := Try.prog) w t e m dd ie hu hie hsz h1 (by cases dd <;> first | rfl | exact absurd h2 (by simp)) cs.toArray k j hj v (by simpa using hv)
    unfold execOp
    rw [ho]
    simp [ha.eval hx, ha.eval hi, this]) h
section
variable {S : World → Prop} {m fuel : Nat} {listed : Array Bool}
theorem WD.all {oi : Oper} {t e s mm b off : Nat} {x : Operand} (i : Nat) (hi : ops[i]? = some oi) (hs : mayB ops listed i m = true) (hd : oi.dst = some d) (hn : Nat.blt d n.n = true) (hQ : Passes Q) (hw : wants ops l oi = some true)
    (ho : oi.op = .slice t x none none none) (ht : tyOf ty t = some (.arr mm e s)) (hx : evl l x = some (.pointer (some ⟨b, off, none⟩))) (hS : listed.getD m false = true ∨ S w)
    (h : WD n ops Q S m fuel (listed.setIfInBounds i true) ((d, .slice (some ⟨b, off, none⟩) mm mm) :: l) w) : WD n ops Q S m (fuel + 1) listed l w :=
  WD.first i hi hs hd hn hQ (fun _ ha => .inl ⟨wants_run ha hw, fun _ _ => all_run ho ht (ha.eval hx)⟩) hS h
end
end K
end Go.Proofs.Ytilmfnlaenneeaa

/- Walks over the slots that are asked for: arrays by pointer: elements, parts; copy of anything of one cell. -/
namespace Go.Proofs.Ytilmfnlaenneeaa
open Go.RowKit
namespace K
variable {n : NN} {Q : Exit → Act → World → Prop} {l : Env} {w w' : World} {ops : Array Oper} {o : Oper} {rest : List Oper} {d : Nat}
theorem arr_facts {t e s m : Nat} (ht : tyOf ty t = some (.arr m e s)) : Try.prog.underlying t = some (.array (Try.prog.arrayLen t) (Try.prog.elem t)) ∧ Try.prog.arrayLen t = m ∧ ∀ w, (sizeOf (Try.prog.elem t)).run Try.prog w = .ok s w := by
  obtain ⟨hu, hse, -⟩ := TyOk.of tyOk ht
  have h1 : Try.prog.elem t = e := by simp [Program.elem, hu]
  have h2 : Try.prog.arrayLen t = m := by simp [Program.arrayLen, hu]
  refine ⟨by rw [h1, h2]; exact hu, h2, fun w => ?_⟩
  rw [h1]
  cases hq : Try.prog.info? e with
  | none => rw [hq] at hse; cases hse
  | some q => rw [hq] at hse; simp at hse; simp [sizeOf, typeInfo, hq, hse]
/-- A part of an array. -/
theorem WL.cutA {t e s m b off : Nat} {x lo hi : Operand} {k1 k2 : IntKind} {y z : Int} (i j q : Nat) (hg : o.guard = none) (hd : o.dst = some d) (hn : Nat.blt d n.n = true) (ho : o.op = .slice t x (some lo) (some hi) none) (ht : tyOf ty t = some (.arr m e s))
    (hx : evl l x = some (.pointer (some ⟨b, off, none⟩))) (hlo : evl l lo = some (.int k1 y)) (hhi : evl l hi = some (.int k2 z)) (hy : y = (i : Int)) (hz : z = (j : Int)) (h1 : i ≤ j) (h2 : j ≤ m) (h3 : i < m) (hq : off + i * s = q)
    (h : WL n ops Q rest ((d, .slice (some ⟨b, q, none⟩) (j - i) (m - i)) :: l) w) : WL n ops Q (o :: rest) l w :=
  WL.step hg hd hn (fun a ha => by
    obtain ⟨hu, hm, hs⟩ := arr_facts ht
    have hr := run_sliceAt_array_lh (P := Try.prog) w t ⟨b, off, none⟩ hu k1 k2 y z (by omega) (by omega) (by rw [hm]; omega)
    unfold execOp
    rw [ho]
    subst hy; subst hz; subst hq
    have hne : ¬ m = i := by omega
    simp [ha.eval hx, ha.eval hlo, ha.eval hhi, hr, hs, hm, slicedAt, hne, Addr.add_mid]) h
theorem idxA_run {a : Act} {t e s m b off : Nat} {x i : Operand} {k : IntKind} {z : Int} {j : Nat} (ho : o.op = .indexAddr t x i) (ht : tyOf ty t = some (.arr m e s)) (hx : a.eval x = .pointer (some ⟨b, off, none⟩)) (hi : a.eval i = .int k z) (hz : z = (j : Int)) (hj : j < m) :
    (execOp a.eval o).run Try.prog w = .ok (.value (.pointer (some ⟨b, off + j * s, none⟩))) w := by
  obtain ⟨hu, hm, hs⟩ := arr_facts ht
  unfold execOp
  rw [ho]
  simp only [hx, hi, Sem.run_bind, run_indexAt_array w t _ k z hu]
  rw [if_pos (by rw [hm]; omega), hs, hz]
  simp [Addr.add_mid]
/-- An element's place in an array. -/
theorem WL.idxA {t e s m b off : Nat} {x i : Operand} {k : IntKind} {z : Int} (j q : Nat) (hg : o.guard = none) (hd : o.dst = some d) (hn : Nat.blt d n.n = true) (ho : o.op = .indexAddr t x i) (ht : tyOf ty t = some (.arr m e s))
    (hx : evl l x = some (.pointer (some ⟨b, off, none⟩))) (hi : evl l i = some (.int k z)) (hz : z = (j : Int)) (hj : j < m) (hq : off + j * s = q) (h : WL n ops Q rest ((d, .pointer (some ⟨b, q, none⟩)) :: l) w) : WL n ops Q (o :: rest) l w :=
  WL.step hg hd hn (fun _ ha => by rw [← hq]; exact idxA_run ho ht (ha.eval hx) (ha.eval hi) hz hj) h
section
variable {S : World → Prop} {m fuel : Nat} {listed : Array Bool}
theorem WD.idxA {oi : Oper} {t e s mm b off : Nat} {x i' : Operand} {k : IntKind} {z : Int} (i j q : Nat) (hi : ops[i]? = some oi) (hs : mayB ops listed i m = true) (hd : oi.dst = some d) (hn : Nat.blt d n.n = true) (hQ : Passes Q) (hw : wants ops l oi = some true)
    (ho : oi.op = .indexAddr t x i') (ht : tyOf ty t = some (.arr mm e s)) (hx : evl l x = some (.pointer (some ⟨b, off, none⟩))) (hi' : evl l i' = some (.int k z)) (hz : z = (j : Int)) (hj : j < mm) (hq : off + j * s = q) (hS : listed.getD m false = true ∨ S w)
    (h : WD n ops Q S m fuel (listed.setIfInBounds i true) ((d, .pointer (some ⟨b, q, none⟩)) :: l) w) : WD n ops Q S m (fuel + 1) listed l w :=
  WD.first i hi hs hd hn hQ (fun _ ha => .inl ⟨wants_run ha hw, fun _ _ => by rw [← hq]; exact idxA_run ho ht (ha.eval hx) (ha.eval hi') hz hj⟩) hS h
end
theorem copyV_run {t e b off dl dc b2 off2 sl sc T : Nat} {cs vs : List Value} (ty' : Nat) (ht : tyOf ty t = some (.slice e 1)) (hb : VBlk T w b cs) (hn : vs.length = min sl dl) (hr : w.rangeAt b2 off2 vs) (hfit : off + vs.length ≤ cs.length) (h1 : Ones vs) :
    (Builtin.copy_ #[t, t] ty' #[.slice (some ⟨b, off, none⟩) dl dc, .slice (some ⟨b2, off2, none⟩) sl sc]).run Try.prog w = .ok (.int .i64 vs.length) (w.setRow b (cs.take off ++ vs ++ cs.drop (off + vs.length)).toArray) := by
  obtain ⟨hu, hsz⟩ := TyOk.of tyOk ht
  have := run_copy_row Try.prog w t t ty' e b off dl dc ⟨b2, off2, none⟩ sl sc cs.toArray T vs hu hsz hb hn (fun j v hj => by
    have := hr j v hj
    simpa [Addr.add_mid] using this) (by simpa using hfit) h1
  refine this.trans ?_
  rfl
/-- copy onto a part of a block. -/
theorem WL.copyV {x y : Operand} {t e b off dl dc b2 off2 sl sc T : Nat} {cs vs : List Value} (hg : o.guard = none) (hd : o.dst = some d) (hn : Nat.blt d n.n = true)
    (ho : o.op = .call { callee := .builtin .copy, args := #[x, y], argTypes := #[t, t] }) (ht : tyOf ty t = some (.slice e 1)) (hx : evl l x = some (.slice (some ⟨b, off, none⟩) dl dc)) (hy : evl l y = some (.slice (some ⟨b2, off2, none⟩) sl sc)) (hb : VBlk T w b cs) (hm : vs.length = min sl dl) (hr : w.rangeAt b2 off2 vs) (hfit : off + vs.length ≤ cs.length) (h1 : Ones vs)
    (h : WL n ops Q rest ((d, .int .i64 vs.length) :: l) (w.setRow b (cs.take off ++ vs ++ cs.drop (off + vs.length)).toArray)) : WL n ops Q (o :: rest) l w := by
  have hrun := copyV_run o.type ht hb hm hr hfit h1 (dc := dc) (sc := sc)
  refine WL.step hg hd hn (fun a ha => ?_) h
  unfold execOp
  simp only [ho, resolve, invoke, builtin, Sem.run_bind, Sem.run_pure, Result.andThen_ok, List.map_toArray, List.map_cons, List.map_nil, ha.eval hx, ha.eval hy, hrun]
end K
end Go.Proofs.Ytilmfnlaenneeaa

/- Nodes in memory (chapter 13). -/
namespace Go.Proofs.Ytilmfnlaenneeaa
open Go.RowKit
namespace K
open Tre

/-- A block of 28 cells, by places. -/
def rowOf (g : Nat → Value) : List Value := (List.range 28).map g
theorem rowOf_len (g : Nat → Value) : (rowOf g).length = 28 := by simp [rowOf]
theorem rowOf_get (g : Nat → Value) {j : Nat} (h : j < 28) : (rowOf g).getD j undef = g j := by simp [rowOf, h]
theorem rowOf_get? (g : Nat → Value) {j : Nat} (h : j < 28) : (rowOf g)[j]? = some (g j) := by simp [rowOf, h]
theorem rowOf_ext {g h : Nat → Value} (e : ∀ j, j < 28 → g j = h j) : rowOf g = rowOf h := List.map_congr_left fun j hj => e j (by simpa using hj)
theorem rowOf_of {l : List Value} {g : Nat → Value} (hl : l.length = 28) (h : ∀ j, j < 28 → l.getD j undef = g j) : l = rowOf g := by
  refine List.ext_getElem (by rw [hl, rowOf_len]) fun j h1 h2 => ?_
  have := h j (by omega)
  rw [List.getD_eq_getElem?_getD, List.getElem?_eq_getElem h1] at this
  simp only [Option.getD_some] at this
  rw [this]
  simp [rowOf]
theorem rowOf_set (g : Nat → Value) (j : Nat) (v : Value) : (rowOf g).set j v = rowOf (fun i => if i = j then v else g i) := by
  refine rowOf_of (by rw [List.length_set, rowOf_len]) fun i hi => ?_
  rw [List.getD_eq_getElem?_getD, List.getElem?_set]
  by_cases e : j = i
  · subst e; simp [rowOf_len, hi]
  · rw [if_neg e, if_neg (fun h => e h.symm), rowOf_get? g hi]; rfl
theorem rowOf_part (g u : Nat → Value) (off m : Nat) (h : off + m ≤ 28) : (rowOf g).take off ++ (List.range m).map u ++ (rowOf g).drop (off + ((List.range m).map u).length) = rowOf (fun j => if off ≤ j ∧ j < off + m then u (j - off) else g j) := by
  have hl : ((List.range m).map u).length = m := by simp
  rw [hl]
  refine rowOf_of (by simp only [List.length_append, List.length_take, List.length_drop, rowOf_len, hl]; omega) fun i hi => ?_
  rw [List.getD_eq_getElem?_getD]
  have ht : ((rowOf g).take off).length = off := by rw [List.length_take, rowOf_len]; omega
  by_cases h1 : i < off
  · rw [List.getElem?_append_left (by rw [List.length_append, ht]; omega), List.getElem?_append_left (by rw [ht]; exact h1), List.getElem?_take_of_lt h1, rowOf_get? g hi, if_neg (by omega)]
    rfl
  · by_cases h2 : i < off + m
    · rw [List.getElem?_append_left (by rw [List.length_append, ht, hl]; omega), List.getElem?_append_right (by rw [ht]; omega), ht, if_pos (by omega)]
      have : i - off < m := by omega
      simp [this]
    · rw [List.getElem?_append_right (by rw [List.length_append, ht, hl]; omega), List.length_append, ht, hl, List.getElem?_drop, show off + m + (i - (off + m)) = i by omega, rowOf_get? g hi, if_neg (by omega)]
      rfl
def ptrV : Option Nat → Value
  | none => .pointer none
  | some b => .pointer (some ⟨b, 0, none⟩)
def noE : En := ⟨ByteArray.empty, 0, none⟩
def ndF (nd : Nd) (pv : Option Nat) (j : Nat) : Value :=
  if j = 0 then .bool nd.leaf else if j = 1 then .int .i64 nd.es.length else if j < 10 then .string (nd.es.getD (j - 2) noE).key else if j < 18 then .int .i64 (nd.es.getD (j - 10) noE).num else if j < 26 then ptrV (nd.es.getD (j - 18) noE).kid else if j = 26 then ptrV nd.next else ptrV pv
theorem ndF_leaf (nd : Nd) (pv : Option Nat) : ndF nd pv 0 = .bool nd.leaf := rfl
theorem ndF_cnt (nd : Nd) (pv : Option Nat) : ndF nd pv 1 = .int .i64 nd.es.length := rfl
theorem ndF_key (nd : Nd) (pv : Option Nat) {i : Nat} (h : i < 8) : ndF nd pv (2 + i) = .string (nd.es.getD i noE).key := by
  unfold ndF; rw [if_neg (by omega), if_neg (by omega), if_pos (by omega), show 2 + i - 2 = i by omega]
theorem ndF_num (nd : Nd) (pv : Option Nat) {i : Nat} (h : i < 8) : ndF nd pv (10 + i) = .int .i64 (nd.es.getD i noE).num := by
  unfold ndF; rw [if_neg (by omega), if_neg (by omega), if_neg (by omega), if_pos (by omega), show 10 + i - 10 = i by omega]
theorem ndF_kid (nd : Nd) (pv : Option Nat) {i : Nat} (h : i < 8) : ndF nd pv (18 + i) = ptrV (nd.es.getD i noE).kid := by
  unfold ndF; rw [if_neg (by omega), if_neg (by omega), if_neg (by omega), if_neg (by omega), if_pos (by omega), show 18 + i - 18 = i by omega]
theorem ndF_next (nd : Nd) (pv : Option Nat) : ndF nd pv 26 = ptrV nd.next := rfl
theorem ndF_prev (nd : Nd) (pv : Option Nat) : ndF nd pv 27 = ptrV pv := rfl
def ins (es : List En) (i : Nat) (e : En) : List En := es.take i ++ e :: es.drop i
def era (es : List En) (i : Nat) : List En := es.take i ++ es.drop (i + 1)
theorem ins_get (es : List En) {i : Nat} (e : En) (h : i ≤ es.length) (q : Nat) : (ins es i e).getD q noE = if q < i then es.getD q noE else if q = i then e else es.getD (q - 1) noE := by
  unfold ins
  have ht : (es.take i).length = i := by rw [List.length_take]; omega
  simp only [List.getD_eq_getElem?_getD]
  by_cases h1 : q < i
  · rw [List.getElem?_append_left (by omega), List.getElem?_take_of_lt h1, if_pos h1]
  · rw [List.getElem?_append_right (by omega), ht, if_neg h1]
    by_cases h2 : q = i
    · subst h2; simp
    · rw [if_neg h2, show q - i = (q - i - 1) + 1 by omega, List.getElem?_cons_succ, List.getElem?_drop, show i + (q - i - 1) = q - 1 by omega]
theorem ins_len (es : List En) {i : Nat} (e : En) (h : i ≤ es.length) : (ins es i e).length = es.length + 1 := by unfold ins; simp only [List.length_append, List.length_take, List.length_cons, List.length_drop]; omega
theorem era_get (es : List En) {i : Nat} (h : i < es.length) (q : Nat) : (era es i).getD q noE = if q < i then es.getD q noE else es.getD (q + 1) noE := by
  unfold era
  have ht : (es.take i).length = i := by rw [List.length_take]; omega
  simp only [List.getD_eq_getElem?_getD]
  by_cases h1 : q < i
  · rw [List.getElem?_append_left (by omega), List.getElem?_take_of_lt h1, if_pos h1]
  · rw [List.getElem?_append_right (by omega), ht, if_neg h1, List.getElem?_drop, show i + 1 + (q - i) = q + 1 by omega]
theorem era_len (es : List En) {i : Nat} (h : i < es.length) : (era es i).length + 1 = es.length := by unfold era; simp only [List.length_append, List.length_take, List.length_drop]; omega
theorem getD_far (es : List En) {q : Nat} (h : es.length ≤ q) : es.getD q noE = noE := by rw [List.getD_eq_getElem?_getD, List.getElem?_eq_none h]; rfl

abbrev nodeT : Nat := 60
/-- The nodes lie in memory; what stands behind a leaf's back nobody asks. -/
def Mem (w : World) (st : St) : Prop := ∀ b nd, st b = some nd → nd.es.length ≤ 8 ∧ ∃ pv, VBlk nodeT w b (rowOf (ndF nd pv))
theorem Mem.keep {w w' : World} {st : St} {K : Nat → Prop} (h : Mem w st) (hk : Keep K w w') (hK : ∀ b, st b ≠ none → K b) : Mem w' st := fun b nd e => by
  obtain ⟨h1, pv, h2⟩ := h b nd e
  exact ⟨h1, pv, h2.keep hk (hK b (by rw [e]; simp))⟩
theorem Mem.lt {w : World} {st : St} (h : Mem w st) {b : Nat} (hb : st b ≠ none) : b < w.heap.size := by
  cases e : st b with
  | none => exact absurd e hb
  | some nd => obtain ⟨-, pv, h2⟩ := h b nd e; exact h2.lt
theorem Mem.below {w w' : World} {st : St} (h : Mem w st) (hk : Below w.heap.size w w') : Mem w' st := h.keep (Keep.of_below hk) fun _ hb => h.lt hb
theorem Mem.upd {w w' : World} {st : St} {b : Nat} {nd : Nd} {pv : Option Nat} (h : Mem w st) (hk : Keep (fun x => x ≠ b) w w') (hn : nd.es.length ≤ 8) (hb : VBlk nodeT w' b (rowOf (ndF nd pv))) : Mem w' (Tre.upd st b nd) := fun x n e => by
  by_cases hx : x = b
  · subst hx
    rw [upd_eq] at e
    obtain rfl := Option.some.inj e
    exact ⟨hn, pv, hb⟩
  · rw [upd_ne hx] at e
    obtain ⟨h1, pv2, h2⟩ := h x n e
    exact ⟨h1, pv2, h2.keep hk hx⟩
/-- Another name for the same state. -/
theorem Mem.of {w : World} {st st' : St} (h : Mem w st) (e : ∀ x, st' x = st x) : Mem w st' := fun b nd hb => h b nd (by rw [← e]; exact hb)
end K
end Go.Proofs.Ytilmfnlaenneeaa

/- Walks over the slots that are asked for: parts of arrays in regions that draw their order; the less of two texts. -/
namespace Go.Proofs.Ytilmfnlaenneeaa
open Go.RowKit
namespace K
variable {n : NN} {Q : Exit → Act → World → Prop} {l : Env} {w w' : World} {ops : Array Oper} {o : Oper} {rest : List Oper} {d : Nat}
/-- Where a part of an array begins: at its end it has no place of its own. -/
def cutOff (m i off s : Nat) : Nat := if m = i then off else off + i * s
theorem cutA_run {a : Act} {t e s m b off : Nat} {x lo hi : Operand} {k1 k2 : IntKind} {y z : Int} {i j : Nat} (ho : o.op = .slice t x (some lo) (some hi) none) (ht : tyOf ty t = some (.arr m e s)) (hx : a.eval x = .pointer (some ⟨b, off, none⟩))
    (hlo : a.eval lo = .int k1 y) (hhi : a.eval hi = .int k2 z) (hy : y = (i : Int)) (hz : z = (j : Int)) (h1 : i ≤ j) (h2 : j ≤ m) : (execOp a.eval o).run Try.prog w = .ok (.value (.slice (some ⟨b, cutOff m i off s, none⟩) (j - i) (m - i))) w := by
  obtain ⟨hu, hm, hs⟩ := arr_facts ht
  have hr := run_sliceAt_array_lh (P := Try.prog) w t ⟨b, off, none⟩ hu k1 k2 y z (by omega) (by omega) (by rw [hm]; omega)
  unfold execOp
  rw [ho]
  subst hy; subst hz
  unfold cutOff
  by_cases hne : m = i
  · subst hne
    simp [hx, hlo, hhi, hr, hs, hm, slicedAt]
  · simp [hx, hlo, hhi, hr, hs, hm, slicedAt, hne, Addr.add_mid]
theorem cutL_run {a : Act} {t e s m b off : Nat} {x lo : Operand} {k1 : IntKind} {y : Int} {i : Nat} (ho : o.op = .slice t x (some lo) none none) (ht : tyOf ty t = some (.arr m e s)) (hx : a.eval x = .pointer (some ⟨b, off, none⟩))
    (hlo : a.eval lo = .int k1 y) (hy : y = (i : Int)) (h1 : i ≤ m) : (execOp a.eval o).run Try.prog w = .ok (.value (.slice (some ⟨b, cutOff m i off s, none⟩) (m - i) (m - i))) w := by
  obtain ⟨hu, hm, hs⟩ := arr_facts ht
  have hr := run_sliceAt_array_l (P := Try.prog) w t ⟨b, off, none⟩ hu k1 y (by omega) (by rw [hm]; omega)
  unfold execOp
  rw [ho]
  subst hy
  unfold cutOff
  by_cases hne : m = i
  · subst hne
    simp [hx, hlo, hr, hs, hm, slicedAt]
  · simp [hx, hlo, hr, hs, hm, slicedAt, hne, Addr.add_mid]
section
variable {S : World → Prop} {m fuel : Nat} {listed : Array Bool}
theorem WD.cutA {oi : Oper} {t e s mm b off : Nat} {x lo hi : Operand} {k1 k2 : IntKind} {y z : Int} (i p q : Nat) (hi0 : ops[i]? = some oi) (hs : mayB ops listed i m = true) (hd : oi.dst = some d) (hn : Nat.blt d n.n = true) (hQ : Passes Q) (hw : wants ops l oi = some true)
    (ho : oi.op = .slice t x (some lo) (some hi) none) (ht : tyOf ty t = some (.arr mm e s)) (hx : evl l x = some (.pointer (some ⟨b, off, none⟩))) (hlo : evl l lo = some (.int k1 y)) (hhi : evl l hi = some (.int k2 z)) (hy : y = (p : Int)) (hz : z = (q : Int)) (h1 : p ≤ q) (h2 : q ≤ mm)
    (hS : listed.getD m false = true ∨ S w) (h : WD n ops Q S m fuel (listed.setIfInBounds i true) ((d, .slice (some ⟨b, cutOff mm p off s, none⟩) (q - p) (mm - p)) :: l) w) : WD n ops Q S m (fuel + 1) listed l w :=
  WD.first i hi0 hs hd hn hQ (fun _ ha => .inl ⟨wants_run ha hw, fun _ _ => cutA_run ho ht (ha.eval hx) (ha.eval hlo) (ha.eval hhi) hy hz h1 h2⟩) hS h
theorem WD.cutL {oi : Oper} {t e s mm b off : Nat} {x lo : Operand} {k1 : IntKind} {y : Int} (i p : Nat) (hi0 : ops[i]? = some oi) (hs : mayB ops listed i m = true) (hd : oi.dst = some d) (hn : Nat.blt d n.n = true) (hQ : Passes Q) (hw : wants ops l oi = some true)
    (ho : oi.op = .slice t x (some lo) none none) (ht : tyOf ty t = some (.arr mm e s)) (hx : evl l x = some (.pointer (some ⟨b, off, none⟩))) (hlo : evl l lo = some (.int k1 y)) (hy : y = (p : Int)) (h1 : p ≤ mm)
    (hS : listed.getD m false = true ∨ S w) (h : WD n ops Q S m fuel (listed.setIfInBounds i true) ((d, .slice (some ⟨b, cutOff mm p off s, none⟩) (mm - p) (mm - p)) :: l) w) : WD n ops Q S m (fuel + 1) listed l w :=
  WD.first i hi0 hs hd hn hQ (fun _ ha => .inl ⟨wants_run ha hw, fun _ _ => cutL_run ho ht (ha.eval hx) (ha.eval hlo) hy h1⟩) hS h
end
theorem leqN : ∀ (a p : List UInt8), (Op.bytesLess a p || a == p) = !Op.bytesLess p a := fun a p => by
  cases h : Op.bytesLess p a with
  | true =>
    have h2 : Op.bytesLess a p = false := by
      cases h3 : Op.bytesLess a p with
      | false => rfl
      | true => have := Tre.bl_trans h h3; rw [Tre.bl_irr] at this; cases this
    have h4 : (a == p) = false := by
      rw [beq_eq_false_iff_ne]
      intro e; subst e; rw [Tre.bl_irr] at h; cases h
    rw [h2, h4]; rfl
  | false =>
    cases h2 : Op.bytesLess a p with
    | true => rfl
    | false => rw [Tre.bl_tri h2 h]; simp
theorem minS_run {P : Program} (ts : Array TypeId) (t : TypeId) (x y : ByteArray) (w : World) : (Builtin.min_ ts t #[.string x, .string y]).run P w = .ok (.string (Tre.kmin x y)) w := by
  unfold Tre.kmin Tre.kl
  have e := leqN x.toList y.toList
  cases h : Op.bytesLess y.toList x.toList with
  | true =>
    rw [h] at e
    simp only [Bool.not_true, Bool.or_eq_false_iff] at e
    simp [Builtin.min_, Builtin.min2, Op.stringOp, asBool, e]
  | false =>
    rw [h] at e
    simp only [Bool.not_false, Bool.or_eq_true] at e
    rcases e with e | e <;> simp [Builtin.min_, Builtin.min2, Op.stringOp, asBool, e]
/-- The less of two texts. -/
theorem WL.minS {x y : Operand} {ts : Array TypeId} {a b : ByteArray} (hg : o.guard = none) (hd : o.dst = some d) (hn : Nat.blt d n.n = true) (ho : o.op = .call { callee := .builtin .min, args := #[x, y], argTypes := ts }) (hx : evl l x = some (.string a)) (hy : evl l y = some (.string b))
    (h : WL n ops Q rest ((d, .string (Tre.kmin a b)) :: l) w) : WL n ops Q (o :: rest) l w :=
  WL.step hg hd hn (fun c hc => by
    unfold execOp
    simp only [ho, resolve, invoke, builtin, Sem.run_bind, Sem.run_pure, Result.andThen_ok, List.map_toArray, List.map_cons, List.map_nil, hc.eval hx, hc.eval hy, minS_run]) h
theorem eqGuard_ptr {P : Program} (op : BinOp) (t : TypeId) (x y : Operand) (p q : Option Addr) (w : World) : (eqGuard op t x y (.pointer p) (.pointer q)).run P w = .ok () w := by
  cases op <;> simp [eqGuard]
/-- Is a pointer nil? -/
theorem WL.nilP {x : Operand} {t t2 e : Nat} {p : Option Addr} (hg : o.guard = none) (hd : o.dst = some d) (hn : Nat.blt d n.n = true) (ho : o.op = .binOp .eql t x (.const (.pointer none)) t2) (ht : tyOf ty t = some (.ptr e)) (hx : evl l x = some (.pointer p)) (_hgd : Try.prog.eqGuardType Try.prog.depth t = false)
    (h : WL n ops Q rest ((d, .bool p.isNone) :: l) w) : WL n ops Q (o :: rest) l w :=
  WL.step hg hd hn (fun a ha => by
    have hu : Try.prog.underlying t = some (.pointer e) := TyOk.of tyOk ht
    have he : Try.prog.pointee t = e := by simp [Program.pointee, hu]
    have hy : a.eval (.const (.pointer none)) = .pointer none := rfl
    unfold execOp
    rw [ho]
    simp [ha.eval hx, hy, eqGuard_ptr _ _ _ _ _ _ _, run_eql_pointer_nil w t p (by rw [he]; exact hu)]) h
theorem WL.notNilP {x : Operand} {t t2 e : Nat} {p : Option Addr} (hg : o.guard = none) (hd : o.dst = some d) (hn : Nat.blt d n.n = true) (ho : o.op = .binOp .neq t x (.const (.pointer none)) t2) (ht : tyOf ty t = some (.ptr e)) (hx : evl l x = some (.pointer p)) (_hgd : Try.prog.eqGuardType Try.prog.depth t = false)
    (h : WL n ops Q rest ((d, .bool (!p.isNone)) :: l) w) : WL n ops Q (o :: rest) l w :=
  WL.step hg hd hn (fun a ha => by
    have hu : Try.prog.underlying t = some (.pointer e) := TyOk.of tyOk ht
    have he : Try.prog.pointee t = e := by simp [Program.pointee, hu]
    have hy : a.eval (.const (.pointer none)) = .pointer none := rfl
    unfold execOp
    rw [ho]
    simp [ha.eval hx, hy, eqGuard_ptr _ _ _ _ _ _ _, run_neq_pointer_nil w t p (by rw [he]; exact hu)]) h
end K
end Go.Proofs.Ytilmfnlaenneeaa
