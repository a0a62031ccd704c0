/- Walks over the slots that are asked for: pure operations, reckoned out of the list of slots. -/
import Derived.Test.YtdaljjicekheiaaK
import Derived.WalkLawsBesides
namespace Go.Proofs.Ytdaljjicekheiaa
open Go.RowKit
namespace K

inductive TyD where
  | int (k : IntKind) | str | bool | ptr (e : Nat) | slice (e s : Nat) | struct (n : Nat) (fs : List (Nat × Nat × Nat)) | arr (n e s : Nat) | map (k e : Nat)
def TyD.ok (P : Program) (t : Nat) : TyD → Prop
  | .int k => P.underlying t = some (.int k)
  | .str => P.underlying t = some .string
  | .bool => P.underlying t = some .bool
  | .ptr e => P.underlying t = some (.pointer e)
  | .slice e s => P.underlying t = some (.slice e) ∧ (P.info? e).map (·.size) = some s
  | .map k e => P.underlying t = some (.map k e)
  | .arr n e s => P.underlying t = some (.array n e) ∧ (P.info? e).map (·.size) = some s ∧ (P.info? t).map (·.size) = some (n * s)
  | .struct n fs => (∃ us, P.underlying t = some (.struct us)) ∧ (P.info? t).map (·.size) = some n ∧
      (match P.underlying t with | some (.struct us) => (us.toList.map fun f => (f.type, f.offset, ((P.info? f.type).map (·.size)).getD 0)) == fs | _ => false) = true
def TyOk (P : Program) : List (Nat × TyD) → Prop
  | [] => True
  | (t, d) :: r => d.ok P t ∧ TyOk P r
def tyOf : List (Nat × TyD) → Nat → Option TyD
  | [], _ => none
  | (t, d) :: r, k => bif Nat.beq t k then some d else tyOf r k
theorem TyOk.of {P : Program} : ∀ {T : List (Nat × TyD)} {t : Nat} {d : TyD}, TyOk P T → tyOf T t = some d → d.ok P t
  | [], _, _, _, h => by cases h
  | (j, u) :: r, t, d, h, hk => by
    unfold tyOf at hk
    cases hb : Nat.beq j t with
    | true =>
      rw [hb] at hk
      obtain rfl : j = t := Nat.eq_of_beq_eq_true hb
      obtain rfl : u = d := Option.some.inj hk
      exact h.1
    | false => rw [hb] at hk; exact TyOk.of h.2 hk

/-- Of how many cells is a type that does not lie in one? -/
def cellsN : Option TyD → Option Nat
  | some (.struct m _) => some m
  | some (.arr n _ s) => some (n * s)
  | _ => none
theorem cellsN_ok {P : Program} {T : List (Nat × TyD)} (hT : TyOk P T) {t m : Nat} (h : cellsN (tyOf T t) = some m) :
    ∃ d, P.underlying t = some d ∧ (match d with | .struct _ | .array _ _ => true | _ => false) = true ∧ (P.info? t).map (·.size) = some m := by
  unfold cellsN at h
  split at h
  · rename_i m' fs he
    obtain rfl := Option.some.inj h
    obtain ⟨⟨us, hu⟩, hsz, -⟩ := TyOk.of hT he
    exact ⟨_, hu, rfl, hsz⟩
  · rename_i n e s he
    obtain rfl := Option.some.inj h
    obtain ⟨hu, -, hsz⟩ := TyOk.of hT he
    exact ⟨_, hu, rfl, hsz⟩
  · cases h

def quoI (k : IntKind) (a b : Int) : Option Value :=
  match b with
  | .ofNat (_ + 1) => some (.int k (k.wrap (a.tdiv b)))
  | _ => none
def remI (k : IntKind) (a b : Int) : Option Value :=
  match b with
  | .ofNat (_ + 1) => some (.int k (a.tmod b))
  | _ => none
def shlI (k : IntKind) (a : Int) : Int → Option Value
  | .ofNat m => some (.int k (k.wrap (a * ((2 ^ min m k.bits : Nat) : Int))))
  | _ => none
def shrI (k : IntKind) (a : Int) : Int → Option Value
  | .ofNat m => some (.int k (a / ((2 ^ min m k.bits : Nat) : Int)))
  | _ => none
/-- Two integers. -/
def binI (k : IntKind) (a b : Int) : BinOp → Option Value
  | .add => some (.int k (k.wrap (a + b)))
  | .sub => some (.int k (k.wrap (a - b)))
  | .mul => some (.int k (k.wrap (a * b)))
  | .eql => some (.bool (decide (a = b)))
  | .neq => some (.bool (decide (a ≠ b)))
  | .lss => some (.bool (decide (a < b)))
  | .leq => some (.bool (decide (a ≤ b)))
  | .gtr => some (.bool (decide (b < a)))
  | .geq => some (.bool (decide (b ≤ a)))
  | .and => some (.int k (bits .and k a b))
  | .or => some (.int k (bits .or k a b))
  | .xor => some (.int k (bits .xor k a b))
  | .quo => quoI k a b
  | .rem => remI k a b
  | _ => none
def shI (k : IntKind) (a b : Int) : BinOp → Option Value
  | .shl => shlI k a b
  | .shr => shrI k a b
  | _ => none
/-- Two texts. -/
def binS (a b : ByteArray) : BinOp → Option Value
  | .eql => some (.bool (a.toList == b.toList))
  | .neq => some (.bool (!(a.toList == b.toList)))
  | .lss => some (.bool (Op.bytesLess a.toList b.toList))
  | .leq => some (.bool (Op.bytesLess a.toList b.toList || a.toList == b.toList))
  | .gtr => some (.bool !(Op.bytesLess a.toList b.toList || a.toList == b.toList))
  | .geq => some (.bool !(Op.bytesLess a.toList b.toList))
  | _ => none
def isSh : BinOp → Bool
  | .shl | .shr => true
  | _ => false
def evlAll (l : Env) : List Operand → Option (List Value)
  | [] => some []
  | x :: r => match evl l x, evlAll l r with
    | some v, some vs => some (v :: vs)
    | _, _ => none
def pvPick (l : Env) (a b : Operand) : Option Value → Option Value
  | some (.bool true) => evl l a
  | some (.bool false) => evl l b
  | _ => none
def pvBool (a b : Bool) : Option TyD → BinOp → Option Value
  | some .bool, .eql => some (.bool (a == b))
  | some .bool, .neq => some (.bool (!(a == b)))
  | _, _ => none
def pvBin (op : BinOp) (ty : Option TyD) : Option Value → Option Value → Option Value
  | some (.int k a), some (.int k' b) => bif isSh op then shI k a b op else if k = k' then binI k a b op else none
  | some (.string a), some (.string b) => binS a b op
  | some (.bool a), some (.bool b) => pvBool a b ty op
  | _, _ => none
def pvUn : UnOp → Option Value → Option Value
  | .neg, some (.int k a) => some (.int k (k.wrap (0 - a)))
  | .not, some (.bool b) => some (.bool (!b))
  | .xor, some (.int k a) => some (.int k (bits .xor k (if k.signed then -1 else k.max) a))
  | _, _ => none
def pvConv : Option TyD → Option TyD → Option Value → Option Value
  | some (.int _), some (.int k), some (.int _ a) => some (.int k (k.wrap a))
  | some .str, some .str, some (.string s) => some (.string s)
  | _, _, _ => none
def pvExt (i : Nat) : Option Value → Option Value
  | some (.tuple vs) => vs[i]?
  | _ => none
def pvNil : Option Value → Option Value
  | some (.pointer (some p)) => some (.pointer (some p))
  | _ => none
def pvOff (b o : Nat) : Option (Nat × Nat × Nat) → Option Value
  | some (_, off, _ + 1) => some (.pointer (some ⟨b, o + off, none⟩))
  | _ => none
def pvField (i : Nat) : Option TyD → Option Value → Option Value
  | some (.struct _ fs), some (.pointer (some ⟨b, o, none⟩)) => pvOff b o fs[i]?
  | _, _ => none
def pvLen : Option TyD → Option Value → Option Value
  | some (.slice _ _), some (.slice _ n _) => some (.int .i64 n)
  | some .str, some (.string s) => some (.int .i64 s.size)
  | _, _ => none
def pvMin (less : Bool) : Option Value → Option Value → Option Value
  | some (.int k a), some (.int _ b) => some (.int k (bif less then (if b < a then b else a) else (if b > a then b else a)))
  | _, _ => none
def pvCall (T : List (Nat × TyD)) (l : Env) (c : Call) : Option Value :=
  match c.callee, c.args.toList, c.argTypes.toList with
  | .builtin .len, [x], [t] => pvLen (tyOf T t) (evl l x)
  | .builtin .min, [x, y], _ => pvMin true (evl l x) (evl l y)
  | .builtin .max, [x, y], _ => pvMin false (evl l x) (evl l y)
  | _, _, _ => none
/-- What a pure operation yields. -/
def pv (T : List (Nat × TyD)) (l : Env) : Op → Option Value
  | .move x => evl l x
  | .assign x => evl l x
  | .pick c a b => pvPick l a b (evl l c)
  | .binOp op t x y _ => pvBin op (tyOf T t) (evl l x) (evl l y)
  | .unOp op _ x => pvUn op (evl l x)
  | .convert s d x => pvConv (tyOf T s) (tyOf T d) (evl l x)
  | .extract t i => pvExt i (evl l t)
  | .nilCheck x => pvNil (evl l x)
  | .fieldAddr t x i => pvField i (tyOf T t) (evl l x)
  | .call c => pvCall T l c
  | _ => none

theorem binI_run {P : Program} {k : IntKind} {a b : Int} {op : BinOp} {v : Value} (h : binI k a b op = some v) (t : TypeId) (w : World) : (binOp op t (.int k a) (.int k b)).run P w = .ok v w := by
  cases op
  case quo =>
    simp only [binI] at h
    unfold quoI at h
    split at h
    · rename_i m
      obtain rfl := Option.some.inj h
      simp only [binOp_quo, Op.intDiv]
      rw [if_neg (by show ¬ ((m + 1 : Nat) : Int) = 0; omega)]
      rfl
    · cases h
  case rem =>
    simp only [binI] at h
    unfold remI at h
    split at h
    · rename_i m
      obtain rfl := Option.some.inj h
      simp only [binOp_rem, Op.intDiv]
      rw [if_neg (by show ¬ ((m + 1 : Nat) : Int) = 0; omega)]
      rfl
    · cases h
  case eql => simp only [binI, Option.some.injEq] at h; subst h; rw [binOp_eql]; exact congrArg (fun b => Result.ok (Value.bool b) w) (by by_cases e : a = b <;> simp [e])
  case neq => simp only [binI, Option.some.injEq] at h; subst h; rw [binOp_neq]; exact congrArg (fun b => Result.ok (Value.bool b) w) (by by_cases e : a = b <;> simp [e])
  all_goals simp only [binI, Option.some.injEq, reduceCtorEq] at h
  all_goals (subst h; simp [go_sem])
theorem shI_run {P : Program} {k k' : IntKind} {a b : Int} {op : BinOp} {v : Value} (h : shI k a b op = some v) (t : TypeId) (w : World) : (binOp op t (.int k a) (.int k' b)).run P w = .ok v w := by
  cases op
  case shl =>
    simp only [shI] at h
    unfold shlI at h
    split at h
    · rename_i m
      obtain rfl := Option.some.inj h
      have h0 : (0 : Int) ≤ Int.ofNat m := Int.natCast_nonneg m
      simp only [binOp_shl, shift_shl_any _ _ _ _ h0]
      simp
    · cases h
  case shr =>
    simp only [shI] at h
    unfold shrI at h
    split at h
    · rename_i m
      obtain rfl := Option.some.inj h
      have h0 : (0 : Int) ≤ Int.ofNat m := Int.natCast_nonneg m
      simp only [binOp_shr, shift_shr_any _ _ _ _ h0]
      simp
    · cases h
  all_goals cases h
theorem binS_run {P : Program} {a b : ByteArray} {op : BinOp} {v : Value} (h : binS a b op = some v) (t : TypeId) (w : World) : (binOp op t (.string a) (.string b)).run P w = .ok v w := by
  cases op <;> simp only [binS, Option.some.injEq, reduceCtorEq] at h
  all_goals (subst h; simp [go_sem])

theorem field_run {P : Program} {t n b o i off s ft : Nat} {fs : List (Nat × Nat × Nat)} (h : (TyD.struct n fs).ok P t) (hi : fs[i]? = some (ft, off, s + 1)) (w : World) :
    (Instr.fieldAt t (.pointer (some ⟨b, o, none⟩)) i).run P w = .ok (.pointer (some ⟨b, o + off, none⟩)) w := by
  obtain ⟨⟨us, hu⟩, -, hf⟩ := h
  rw [hu] at hf
  simp only [beq_iff_eq] at hf
  rw [← hf, List.getElem?_map] at hi
  cases hx : us.toList[i]? with
  | none => rw [hx] at hi; cases hi
  | some f =>
    rw [hx] at hi
    simp only [Option.map_some, Option.some.injEq, Prod.mk.injEq] at hi
    obtain ⟨-, rfl, hs⟩ := hi
    have hx' : us[i]? = some f := by simpa using hx
    have hsz : (sizeOf f.type).run P w = .ok (s + 1) w := by
      cases hq : P.info? f.type with
      | none => rw [hq] at hs; simp at hs
      | some q => rw [hq] at hs; simp at hs; simp [sizeOf, typeInfo, hq, hs]
    simp [Instr.fieldAt, run_underlying hu, hx', Instr.sureAddr, fieldPlace, hsz, Addr.add_mid]

theorem pv_run {P : Program} {T : List (Nat × TyD)} (hT : TyOk P T) {n : NN} {a : Act} {l : Env} (ha : Fr n a l) {o : Oper} {v : Value} (h : pv T l o.op = some v) (w : World) :
    (execOp a.eval o).run P w = .ok (.value v) w := by
  unfold execOp
  revert h
  cases o.op with
  | move x => intro h; simp [ha.eval h]
  | assign x => intro h; simp [ha.eval h]
  | pick c x y =>
    intro h
    simp only [pv] at h
    generalize hc : evl l c = cv at h
    unfold pvPick at h
    split at h
    · simp [ha.eval hc, ha.eval h, asBool]
    · simp [ha.eval hc, ha.eval h, asBool]
    · cases h
  | binOp op t x y t2 =>
    intro h
    simp only [pv] at h
    generalize hx : evl l x = xv at h
    generalize hy : evl l y = yv at h
    unfold pvBin at h
    split at h
    · rename_i k p k' q
      cases hs : isSh op with
      | true =>
        rw [hs] at h
        simp only [cond_true] at h
        have := shI_run (P := P) (k' := k') h t w
        simp [ha.eval hx, ha.eval hy, eqGuard_at_int, this]
      | false =>
        rw [hs] at h
        simp only [cond_false] at h
        split at h
        · rename_i e; subst e
          have := binI_run (P := P) h t w
          simp [ha.eval hx, ha.eval hy, eqGuard_at_int, this]
        · cases h
    · have := binS_run (P := P) h t w
      simp [ha.eval hx, ha.eval hy, eqGuard_at_string, this]
    · rename_i p q
      generalize ht : tyOf T t = tv at h
      unfold pvBool at h
      split at h
      · obtain rfl := Option.some.inj h
        simp [ha.eval hx, ha.eval hy, eqGuard_at_bool, run_eql_bool w t p q (hT.of ht)]
      · obtain rfl := Option.some.inj h
        simp [ha.eval hx, ha.eval hy, eqGuard_at_bool, run_neq_bool w t p q (hT.of ht)]
      · cases h
    · cases h
  | unOp op t x =>
    intro h
    simp only [pv] at h
    generalize hx : evl l x = xv at h
    unfold pvUn at h
    split at h <;> first | (cases h; done) | (obtain rfl := Option.some.inj h; have e := ha.eval hx; simp only [e]; simp [go_sem])
  | convert s d x =>
    intro h
    simp only [pv] at h
    generalize h1 : tyOf T s = sv at h
    generalize h2 : tyOf T d = dv at h
    generalize h3 : evl l x = xv at h
    unfold pvConv at h
    split at h
    · rename_i k1 k2 k3 m
      obtain rfl := Option.some.inj h
      have e1 : P.underlying s = some (.int k1) := hT.of h1
      have e2 : P.underlying d = some (.int k2) := hT.of h2
      simp [ha.eval h3, convert, run_underlying e1, run_underlying e2, Conv.intToInt]
    · obtain rfl := Option.some.inj h
      have e1 : P.underlying s = some .string := hT.of h1
      have e2 : P.underlying d = some .string := hT.of h2
      simp [ha.eval h3, convert, run_underlying e1, run_underlying e2]
    · cases h
  | extract t i =>
    intro h
    simp only [pv] at h
    generalize hx : evl l t = xv at h
    unfold pvExt at h
    split at h
    · simp [ha.eval hx, Instr.extract, h]
    · cases h
  | nilCheck x =>
    intro h
    simp only [pv] at h
    generalize hx : evl l x = xv at h
    unfold pvNil at h
    split at h
    · obtain rfl := Option.some.inj h
      simp [ha.eval hx]
    · cases h
  | fieldAddr t x i =>
    intro h
    simp only [pv] at h
    generalize ht : tyOf T t = tv at h
    generalize hx : evl l x = xv at h
    unfold pvField at h
    split at h
    · rename_i m fs b off0
      generalize hi : fs[i]? = fv at h
      unfold pvOff at h
      split at h
      · obtain rfl := Option.some.inj h
        have := field_run (b := b) (o := off0) (hT.of ht) hi w
        simp [ha.eval hx, this]
      · cases h
    · cases h
  | call c =>
    intro h
    simp only [pv] at h
    obtain ⟨callee, ⟨args⟩, ⟨argTypes⟩⟩ := c
    unfold pvCall at h
    simp only at h
    split at h
    · rename_i x t
      generalize ht : tyOf T t = tv at h
      generalize hx : evl l x = xv at h
      unfold pvLen at h
      split at h
      · rename_i e s b m c
        obtain rfl := Option.some.inj h
        have e1 : P.underlying t = some (.slice e) := (hT.of ht).1
        simp [resolve, invoke, builtin, ha.eval hx, Builtin.len_, run_underlying e1, goInt]
      · obtain rfl := Option.some.inj h
        have e1 : P.underlying t = some .string := hT.of ht
        simp [resolve, invoke, builtin, ha.eval hx, Builtin.len_, run_underlying e1, goInt]
      · cases h
    · rename_i x y
      generalize hx : evl l x = xv at h
      generalize hy : evl l y = yv at h
      unfold pvMin at h
      split at h
      · obtain rfl := Option.some.inj h
        simp [resolve, invoke, builtin, ha.eval hx, ha.eval hy, run_min_int2]
      · cases h
    · rename_i x y
      generalize hx : evl l x = xv at h
      generalize hy : evl l y = yv at h
      unfold pvMin at h
      split at h
      · obtain rfl := Option.some.inj h
        simp [resolve, invoke, builtin, ha.eval hx, ha.eval hy, run_max_int2]
      · cases h
    · cases h
  | _ => intro h; cases h
end K
end Go.Proofs.Ytdaljjicekheiaa
