/- Walks over those slots alone that are asked for again: the slots as a list, each pure operation reckoned by the kernel. -/
import Derived.Test.YtdaljjicekheiaaKw
import Derived.IntWalk
namespace Go.Proofs.Ytdaljjicekheiaa
open Go.RowKit
namespace K

abbrev Env := List (Nat × Value)
def look : Env → Nat → Option Value
  | [], _ => none
  | (j, v) :: r, k => bif Nat.beq j k then some v else look r k
def evl (l : Env) : Operand → Option Value
  | .tmp t => look l t
  | .const v => some v
  | .global g => some (.pointer (some ⟨g, 0, none⟩))
  | .func f => some (.func (.func f) #[] #[])

/-- What a walk is of: so many slots; the calls that are set back; the way it goes. -/
structure NN where
  n : Nat
  ds : List Deferred := []
  md : Option (Option Nat) := none
instance : Coe Nat NN := ⟨fun n => ⟨n, [], none⟩⟩
/-- What the slots hold, as far as it is said. -/
structure Fr (n : NN) (a : Act) (l : Env) : Prop where
  size : a.tmps.size = n.n
  defers : a.defers = n.ds
  slot : ∀ k v, look l k = some v → a.tmps[k]? = some v
theorem Fr.eval {n : NN} {a : Act} {l : Env} (h : Fr n a l) {x : Operand} {v : Value} (hx : evl l x = some v) : a.eval x = v := by
  cases x with
  | tmp t => have := h.slot t v hx; show a.tmps.getD t undef = v; rw [Array.getD_eq_getD_getElem?, this]; rfl
  | const u => exact Option.some.inj hx
  | global g => exact Option.some.inj hx
  | func f => exact Option.some.inj hx
theorem Fr.put {n : NN} {a : Act} {l : Env} (h : Fr n a l) {d : Nat} (hd : Nat.blt d n.n = true) (v : Value) : Fr n (a.put (some d) v) ((d, v) :: l) := by
  have hd' : d < n.n := by rw [Nat.blt_eq] at hd; exact hd
  refine ⟨by show (a.tmps.setIfInBounds d v).size = n.n; rw [Array.size_setIfInBounds]; exact h.size, h.defers, fun k u hk => ?_⟩
  show (a.tmps.setIfInBounds d v)[k]? = some u
  have hs := h.size
  unfold look at hk
  cases hb : Nat.beq d k with
  | true =>
    rw [hb] at hk
    obtain rfl : d = k := Nat.eq_of_beq_eq_true hb
    obtain rfl : v = u := Option.some.inj hk
    simp [hs, hd']
  | false =>
    rw [hb] at hk
    have hne : d ≠ k := Nat.ne_of_beq_eq_false hb
    rw [Array.getElem?_setIfInBounds_ne hne]
    exact h.slot k u hk
theorem Fr.none {n : NN} {a : Act} {l : Env} (h : Fr n a l) (v : Value) : Fr n (a.put none v) l := h
/-- The same slots, or fewer of them. -/
def Sub (l : Env) : Env → Prop
  | [] => True
  | (k, v) :: r => look l k = some v ∧ Sub l r
theorem Sub.look {l : Env} : ∀ {m : Env} {k : Nat} {v : Value}, Sub l m → look m k = some v → K.look l k = some v
  | [], _, _, _, h => by cases h
  | (j, u) :: r, k, v, h, hk => by
    unfold K.look at hk
    cases hb : Nat.beq j k with
    | true =>
      rw [hb] at hk
      obtain rfl : j = k := Nat.eq_of_beq_eq_true hb
      obtain rfl : u = v := Option.some.inj hk
      exact h.1
    | false => rw [hb] at hk; exact Sub.look h.2 hk
theorem Fr.sub {n : NN} {a : Act} {l m : Env} (h : Fr n a l) (hs : Sub l m) : Fr n a m := ⟨h.size, h.defers, fun k v hk => h.slot k v (hs.look hk)⟩
def argsEnv : Nat → List Value → Env
  | _, [] => []
  | i, v :: r => (i, v) :: argsEnv (i + 1) r
theorem look_args : ∀ (l : List Value) (i k : Nat) (v : Value), look (argsEnv i l) k = some v → i ≤ k ∧ l[k - i]? = some v
  | [], _, _, _, h => by cases h
  | u :: r, i, k, v, h => by
    unfold argsEnv look at h
    cases hb : Nat.beq i k with
    | true =>
      rw [hb] at h
      obtain rfl : i = k := Nat.eq_of_beq_eq_true hb
      exact ⟨Nat.le_refl _, by simpa using h⟩
    | false =>
      rw [hb] at h
      have hne : i ≠ k := Nat.ne_of_beq_eq_false hb
      obtain ⟨h1, h2⟩ := look_args r (i + 1) k v h
      refine ⟨by omega, ?_⟩
      have : k - i = (k - (i + 1)) + 1 := by omega
      rw [this]
      simpa using h2

section
variable {n : NN} {Q : Exit → Act → World → Prop} {l : Env} {w : World}

structure WC (n : NN) (c : Code) (Q : Exit → Act → World → Prop) (l : Env) (w : World) : Prop where
  go : ∀ a, Fr n a l → cw n.md Try.prog c Q a w
structure WL (n : NN) (ops : Array Oper) (Q : Exit → Act → World → Prop) (rest : List Oper) (l : Env) (w : World) : Prop where
  go : ∀ a, Fr n a l → lw n.md Try.prog ops Q rest a w
structure WQ (n : NN) (Q : Exit → Act → World → Prop) (e : Exit) (l : Env) (w : World) : Prop where
  go : ∀ a, Fr n a l → Q e a w

theorem enter {f : FuncId} {fn : Func} {c : Code} {args : List Value} {n : Nat} {R : Ending → World → Prop} (hf : Try.prog.funcs[f]? = some fn) (hb : fn.body = some c) (hn : fn.ntmps = n) (hs : Nat.ble args.length n = true)
    (h : WC ⟨n, [], none⟩ c (bodyPost Try.prog fn R) (argsEnv 0 args) w) : Calls Try.prog f args.toArray w R := by
  refine calls_of_wp hf hb (h.go _ ?_)
  subst hn
  have hs' : args.length ≤ fn.ntmps := Nat.le_of_ble_eq_true hs
  refine ⟨by simp; omega, rfl, fun k v hk => ?_⟩
  obtain ⟨-, h2⟩ := look_args _ _ _ _ hk
  rw [Nat.sub_zero] at h2
  have hlt : k < args.length := by
    rcases Nat.lt_or_ge k args.length with h | h
    · exact h
    · rw [List.getElem?_eq_none h] at h2; cases h2
  rw [Array.getElem?_append_left (by simpa using hlt)]
  simpa using h2

theorem WC.seq {x y : Code} (h : WC n x (Exit.then (cw n.md Try.prog y Q) Q) l w) : WC n (.seq x y) Q l w := ⟨fun a ha => cw_seq (h.go a ha)⟩
theorem WC.block {id : Nat} {c : Code} (h : WC n c (Exit.inBlock id Q) l w) : WC n (.block id c) Q l w := ⟨fun a ha => cw_block (h.go a ha)⟩
theorem WC.skip (h : WQ n Q .normal l w) : WC n .skip Q l w := ⟨fun a ha => cw_skip (h.go a ha)⟩
theorem WC.exit {id : Nat} (h : WQ n Q (.exit id) l w) : WC n (.exit id) Q l w := ⟨fun a ha => cw_exit (h.go a ha)⟩
theorem WC.ret (h : WQ n Q .ret l w) : WC n .ret Q l w := ⟨fun a ha => cw_ret (h.go a ha)⟩
theorem WC.region {id : Nat} {ops : List Oper} (h : WL n ops.toArray Q ops l w) : WC n (.region id ops.toArray false) Q l w := ⟨fun a ha => cw_region (h.go a ha)⟩
theorem WC.condB {c : Operand} {x y : Code} {b : Bool} (hc : evl l c = some (.bool b)) (h1 : b = true → WC n x Q l w) (h2 : b = false → WC n y Q l w) : WC n (.cond c x y) Q l w :=
  ⟨fun a ha => cw_cond (ha.eval hc) (fun e => (h1 e).go a ha) (fun e => (h2 e).go a ha)⟩
theorem WC.condTrue {c : Operand} {x y : Code} (hc : evl l c = some (.bool true)) (h : WC n x Q l w) : WC n (.cond c x y) Q l w := WC.condB hc (fun _ => h) (fun e => by cases e)
theorem WC.condFalse {c : Operand} {x y : Code} (hc : evl l c = some (.bool false)) (h : WC n y Q l w) : WC n (.cond c x y) Q l w := WC.condB hc (fun e => by cases e) (fun _ => h)
theorem WC.condT {c : Operand} {x y : Code} {p : Prop} [Decidable p] (hc : evl l c = some (.bool (decide p))) (hp : p) (h : WC n x Q l w) : WC n (.cond c x y) Q l w := WC.condTrue (by rw [hc, decide_eq_true hp]) h
theorem WC.condF {c : Operand} {x y : Code} {p : Prop} [Decidable p] (hc : evl l c = some (.bool (decide p))) (hp : ¬ p) (h : WC n y Q l w) : WC n (.cond c x y) Q l w := WC.condFalse (by rw [hc, decide_eq_false hp]) h
theorem WC.condS {c : Operand} {x y : Code} {p : Prop} [Decidable p] (hc : evl l c = some (.bool (decide p))) (h1 : p → WC n x Q l w) (h2 : ¬ p → WC n y Q l w) : WC n (.cond c x y) Q l w :=
  WC.condB hc (fun e => h1 (of_decide_eq_true e)) (fun e => h2 (of_decide_eq_false e))
theorem WC.sub {c : Code} {m : Env} (hs : Sub l m) (h : WC n c Q m w) : WC n c Q l w := ⟨fun a ha => h.go a (ha.sub hs)⟩
theorem WL.sub {ops : Array Oper} {rest : List Oper} {m : Env} (hs : Sub l m) (h : WL n ops Q rest m w) : WL n ops Q rest l w := ⟨fun a ha => h.go a (ha.sub hs)⟩
/-- A slot's value in other words. -/
theorem WC.as {c : Code} (k : Nat) (v' : Value) {v : Value} (hk : look l k = some v) (e : v = v') (h : WC n c Q ((k, v') :: l) w) : WC n c Q l w :=
  ⟨fun a ha => h.go a ⟨ha.size, ha.defers, fun j u hj => by
    unfold look at hj
    cases hb : Nat.beq k j with
    | true =>
      rw [hb] at hj
      obtain rfl : k = j := Nat.eq_of_beq_eq_true hb
      obtain rfl : v' = u := Option.some.inj hj
      subst e
      exact ha.slot _ _ hk
    | false => rw [hb] at hj; exact ha.slot _ _ hj⟩⟩
/-- The round's end: a round of a lower rank begins. -/
def Again (n : NN) {ι : Type} (L : ι → Env) (W : ι → World → Prop) (μ : ι → Nat) (i : ι) (a : Act) (w : World) : Prop := ∃ j, Fr n a (L j) ∧ W j w ∧ μ j < μ i
/-- Where ways meet. -/
def Meet (n : NN) {ι : Type} (L : ι → Env) (W : ι → World → Prop) (a : Act) (w : World) : Prop := ∃ i, Fr n a (L i) ∧ W i w
/-- A loop: its rounds begin at L i, i of what rank soever. -/
theorem WC.loop {ι : Type} {c : Code} (L : ι → Env) (W : ι → World → Prop) (μ : ι → Nat) (i : ι) (hs : Sub l (L i)) (hw : W i w)
    (round : ∀ i w, W i w → WC n c (Exit.then (Again n L W μ i) Q) (L i) w) : WC n (.loop c) Q l w := by
  refine ⟨fun a ha => cw_loop (fun m a w => ∃ i, Fr n a (L i) ∧ W i w ∧ μ i = m) (μ i) ⟨i, ha.sub hs, hw, rfl⟩ ?_⟩
  rintro m a w ⟨i, hf, hw, rfl⟩
  refine cw_mono (fun e a w q => ?_) ((round i w hw).go a hf)
  cases e with
  | normal => obtain ⟨j, h1, h2, h3⟩ := q; exact ⟨μ j, h3, j, h1, h2, rfl⟩
  | exit id => exact q
  | goto l => exact q
  | ret => exact q
  | panic ch => exact q
  | outgrown => exact q

end
end K
end Go.Proofs.Ytdaljjicekheiaa
