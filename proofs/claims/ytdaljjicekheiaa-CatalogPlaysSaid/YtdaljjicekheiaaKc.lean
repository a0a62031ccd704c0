/- Walks over the slots that are asked for: ends of code, texts, indexes, results. -/
import Derived.Test.YtdaljjicekheiaaKb
namespace Go.Proofs.Ytdaljjicekheiaa
open Go.RowKit
namespace K
variable {n : NN} {Q : Exit → Act → World → Prop} {l : Env} {w w' : World} {ops : Array Oper} {o : Oper} {rest : List Oper} {d : Nat}

theorem WQ.then {K : Act → World → Prop} {c : Code} (hK : K = cw n.md Try.prog c Q) (h : WC n c Q l w) : WQ n (Exit.then K Q) .normal l w := ⟨fun a ha => by subst hK; exact h.go a ha⟩
theorem WQ.thenExit {K : Act → World → Prop} {id : Nat} (h : WQ n Q (.exit id) l w) : WQ n (Exit.then K Q) (.exit id) l w := ⟨fun a ha => h.go a ha⟩
theorem WQ.thenRet {K : Act → World → Prop} (h : WQ n Q .ret l w) : WQ n (Exit.then K Q) .ret l w := ⟨fun a ha => h.go a ha⟩
theorem WQ.blk {id : Nat} (h : WQ n Q .normal l w) : WQ n (Exit.inBlock id Q) .normal l w := ⟨fun a ha => h.go a ha⟩
theorem WQ.blkRet {id : Nat} (h : WQ n Q .ret l w) : WQ n (Exit.inBlock id Q) .ret l w := ⟨fun a ha => h.go a ha⟩
theorem WQ.blkHere {id id' : Nat} (hi : Nat.beq id' id = true) (h : WQ n Q .normal l w) : WQ n (Exit.inBlock id Q) (.exit id') l w :=
  ⟨fun a ha => by show if id' = id then Q .normal a w else Q (.exit id') a w; rw [if_pos (Nat.eq_of_beq_eq_true hi)]; exact h.go a ha⟩
theorem WQ.blkOther {id id' : Nat} (hi : Nat.beq id' id = false) (h : WQ n Q (.exit id') l w) : WQ n (Exit.inBlock id Q) (.exit id') l w :=
  ⟨fun a ha => by show if id' = id then Q .normal a w else Q (.exit id') a w; rw [if_neg (Nat.ne_of_beq_eq_false hi)]; exact h.go a ha⟩
/-- The round's end. -/
theorem WQ.again {ι : Type} {L : ι → Env} {W : ι → World → Prop} {μ : ι → Nat} {i : ι} (j : ι) (hs : Sub l (L j)) (hw : W j w) (hm : μ j < μ i) : WQ n (Exit.then (Again n L W μ i) Q) .normal l w :=
  ⟨fun _ ha => ⟨j, ha.sub hs, hw, hm⟩⟩
/-- Ways meet. -/
theorem WC.cut {ι : Type} {x y : Code} (L : ι → Env) (W : ι → World → Prop) (h1 : WC n x (Exit.then (Meet n L W) Q) l w) (h2 : ∀ i w', W i w' → WC n y Q (L i) w') : WC n (.seq x y) Q l w :=
  ⟨fun a ha => cw_seq (cw_mono (fun e a w q => by
    cases e with
    | normal => obtain ⟨i, hf, hw⟩ := q; exact (h2 i w hw).go a hf
    | exit id => exact q
    | goto l => exact q
    | ret => exact q
    | panic ch => exact q
    | outgrown => exact q) (h1.go a ha))⟩
/-- Ways meet behind a piece. -/
theorem WC.mid {ι : Type} {x y : Code} {K : Act → World → Prop} (L : ι → Env) (W : ι → World → Prop) (hK : K = cw n.md Try.prog y Q) (h1 : WC n x (Exit.then (Meet n L W) Q) l w) (h2 : ∀ i w', W i w' → WC n y Q (L i) w') : WC n x (Exit.then K Q) l w :=
  ⟨fun a ha => cw_mono (fun e a w q => by
    subst hK
    cases e with
    | normal => obtain ⟨i, hf, hw⟩ := q; exact (h2 i w hw).go a hf
    | exit id => exact q
    | goto l => exact q
    | ret => exact q
    | panic ch => exact q
    | outgrown => exact q) (h1.go a ha)⟩
theorem WL.mid {ι : Type} {y : Code} {K : Act → World → Prop} (L : ι → Env) (W : ι → World → Prop) (hK : K = cw n.md Try.prog y Q) (h1 : WL n ops (Exit.then (Meet n L W) Q) rest l w) (h2 : ∀ i w', W i w' → WC n y Q (L i) w') : WL n ops (Exit.then K Q) rest l w :=
  ⟨fun a ha => lw_mono (fun e a w q => by
    subst hK
    cases e with
    | normal => obtain ⟨i, hf, hw⟩ := q; exact (h2 i w hw).go a hf
    | exit id => exact q
    | goto l => exact q
    | ret => exact q
    | panic ch => exact q
    | outgrown => exact q) (h1.go a ha)⟩
theorem WQ.meet {ι : Type} {L : ι → Env} {W : ι → World → Prop} (i : ι) (hs : Sub l (L i)) (hw : W i w) : WQ n (Exit.then (Meet n L W) Q) .normal l w := ⟨fun _ ha => ⟨i, ha.sub hs, hw⟩⟩
section
variable {fn : Func} {R : Ending → World → Prop}
theorem Fr.getD {a : Act} (ha : Fr n a l) {t : Nat} {v : Value} (h : look l t = some v) : a.tmps.getD t undef = v := by have := ha.slot t v h; rw [Array.getD_eq_getD_getElem?, this]; rfl
theorem WQ.ret1 {kn : Nat} {md : Option (Option Nat)} {t : Nat} {v : Value} (hr : fn.results = #[.tmp t]) (hl : look l t = some v) (h : R (.returned v) w) : WQ ⟨kn, [], md⟩ (bodyPost Try.prog fn R) .ret l w :=
  ⟨fun a ha => ⟨ha.defers, v, by have := ha.getD hl; simp only [Array.getD_eq_getD_getElem?] at this; simp [results, hr, this], h⟩⟩
theorem WQ.end1 {kn : Nat} {md : Option (Option Nat)} {t : Nat} {v : Value} (hr : fn.results = #[.tmp t]) (hl : look l t = some v) (h : R (.returned v) w) : WQ ⟨kn, [], md⟩ (bodyPost Try.prog fn R) .normal l w := ⟨fun a ha => (WQ.ret1 hr hl h).go a ha⟩
theorem WQ.ret2 {kn : Nat} {md : Option (Option Nat)} {t t2 : Nat} {v v2 : Value} (hr : fn.results = #[.tmp t, .tmp t2]) (hl : look l t = some v) (hl2 : look l t2 = some v2) (h : R (.returned (.tuple #[v, v2])) w) : WQ ⟨kn, [], md⟩ (bodyPost Try.prog fn R) .ret l w :=
  ⟨fun a ha => ⟨ha.defers, _, by rw [results_tmp2 hr, ha.getD hl, ha.getD hl2], h⟩⟩
theorem WQ.end2 {kn : Nat} {md : Option (Option Nat)} {t t2 : Nat} {v v2 : Value} (hr : fn.results = #[.tmp t, .tmp t2]) (hl : look l t = some v) (hl2 : look l t2 = some v2) (h : R (.returned (.tuple #[v, v2])) w) : WQ ⟨kn, [], md⟩ (bodyPost Try.prog fn R) .normal l w := ⟨fun a ha => (WQ.ret2 hr hl hl2 h).go a ha⟩
end

theorem idx_run {a : Act} {t e s : Nat} {x i : Operand} {b off len cap : Nat} {k : IntKind} {z : Int} {j : Nat} (ho : o.op = .indexAddr t x i) (ht : tyOf ty t = some (.slice e s))
    (hx : a.eval x = .slice (some ⟨b, off, none⟩) len cap) (hi : a.eval i = .int k z) (hz : z = (j : Int)) (hj : j < len) : (execOp a.eval o).run Try.prog w = .ok (.value (.pointer (some ⟨b, off + j * s, none⟩))) w := by
  obtain ⟨hu, hsz⟩ := TyOk.of tyOk ht
  have he : Try.prog.elem t = e := by simp [Program.elem, hu]
  have hs : (sizeOf e).run Try.prog w = .ok s w := by
    cases hq : Try.prog.info? e with
    | none => rw [hq] at hsz; cases hsz
    | some q => rw [hq] at hsz; simp at hsz; simp [sizeOf, typeInfo, hq, hsz]
  unfold execOp
  rw [ho]
  simp only [hx, hi, Sem.run_bind, run_indexAt_slice w t _ len cap k z (by rw [he]; exact hu)]
  rw [if_pos (by omega), he, hs, hz]
  simp [Addr.add_mid]
/-- An element's place in a slice. -/
theorem WL.idx {t e s : Nat} {x i : Operand} {b off len cap : Nat} {k : IntKind} {z : Int} (j q : Nat) (hg : o.guard = none) (hd : o.dst = some d) (hn : Nat.blt d n.n = true) (ho : o.op = .indexAddr t x i) (ht : tyOf ty t = some (.slice e s))
    (hx : evl l x = some (.slice (some ⟨b, off, none⟩) len cap)) (hi : evl l i = some (.int k z)) (hz : z = (j : Int)) (hj : j < len) (hq : off + j * s = q) (h : WL n ops Q rest ((d, .pointer (some ⟨b, q, none⟩)) :: l) w) : WL n ops Q (o :: rest) l w :=
  WL.step hg hd hn (fun _ ha => by rw [← hq]; exact idx_run ho ht (ha.eval hx) (ha.eval hi) hz hj) h
/-- A byte's, or any integer's, place and what lies there. -/
theorem WL.idxI {t e : Nat} {x i : Operand} {v : Value} {k kk : IntKind} {z : Int} {zs : List Int} (j : Nat) (hg : o.guard = none) (hd : o.dst = some d) (hn : Nat.blt d n.n = true) (ho : o.op = .indexAddr t x i) (ht : tyOf ty t = some (.slice e 1))
    (hx : evl l x = some v) (hsl : Sl kk w v zs) (hi : evl l i = some (.int k z)) (hz : z = (j : Int)) (hj : j < zs.length) (h : ∀ p, w.cell? p = some (.int kk (nth zs j)) → WL n ops Q rest ((d, .pointer (some p)) :: l) w) : WL n ops Q (o :: rest) l w := by
  obtain ⟨sp, cap, rfl, -, -, h3, -⟩ := hsl
  obtain ⟨b, off, rfl, -, hr⟩ := h3 (by omega)
  exact WL.idx j (off + j) hg hd hn ho ht hx hi hz hj (by rw [Nat.mul_one]) (h _ (hr.at j hj))
theorem byte_run {a : Act} {t : Nat} {x i : Operand} {s : ByteArray} {k : IntKind} {z : Int} {j : Nat} (ho : o.op = .index t x i) (ht : tyOf ty t = some .str)
    (hx : a.eval x = .string s) (hi : a.eval i = .int k z) (hz : z = (j : Int)) (hj : j < s.size) : (execOp a.eval o).run Try.prog w = .ok (.value (.int .u8 (s.toList.getD j 0).toNat)) w := by
  unfold execOp
  rw [ho]
  simp only [hx, hi, Sem.run_bind, run_index_string w t s k z (TyOk.of tyOk ht)]
  subst hz
  rw [dif_pos (by omega)]
  have : (s.toList.getD j 0) = s[j] := by
    rw [ByteArray.toList_eq]
    have : j < s.data.toList.length := by rw [Array.length_toList]; exact hj
    rw [List.getD_eq_getElem?_getD, List.getElem?_eq_getElem this]
    rfl
  rw [this]
  rfl
/-- A byte of a text. -/
theorem WL.byte {t : Nat} {x i : Operand} {s : ByteArray} {k : IntKind} {z : Int} (j : Nat) (hg : o.guard = none) (hd : o.dst = some d) (hn : Nat.blt d n.n = true) (ho : o.op = .index t x i) (ht : tyOf ty t = some .str)
    (hx : evl l x = some (.string s)) (hi : evl l i = some (.int k z)) (hz : z = (j : Int)) (hj : j < s.size) (h : WL n ops Q rest ((d, .int .u8 (s.toList.getD j 0).toNat) :: l) w) : WL n ops Q (o :: rest) l w :=
  WL.step hg hd hn (fun _ ha => byte_run ho ht (ha.eval hx) (ha.eval hi) hz hj) h
/-- A text's bytes in memory. -/
def bytesI (s : ByteArray) : List Int := s.toList.map fun c => (c.toNat : Int)
theorem bytesI_len (s : ByteArray) : (bytesI s).length = s.size := by unfold bytesI; rw [List.length_map, ByteArray.toList_eq]; rfl
theorem nth_bytesI (s : ByteArray) {j : Nat} (hj : j < s.size) : nth (bytesI s) j = (s.toList.getD j 0).toNat := by
  have h : j < s.toList.length := by rw [ByteArray.toList_eq, Array.length_toList]; exact hj
  unfold bytesI nth
  simp [h]
theorem WL.bytesOf {t t2 e : Nat} {x : Operand} {s : ByteArray} (hg : o.guard = none) (hd : o.dst = some d) (hn : Nat.blt d n.n = true) (ho : o.op = .convert t t2 x) (ht : tyOf ty t = some .str) (ht2 : tyOf ty t2 = some (.slice e 1)) (he : tyOf ty e = some (.int .u8))
    (hx : evl l x = some (.string s)) (hsz : s.size ≤ 140737488355328) (h : ∀ g c w', Sl .u8 w' (.slice (some ⟨g, 0, none⟩) s.size c) (bytesI s) → Below w.heap.size w w' → w.heap.size = g → WL n ops Q rest ((d, .slice (some ⟨g, 0, none⟩) s.size c) :: l) w') : WL n ops Q (o :: rest) l w := by
  have hl := bytesI_len s
  have hb := bytesWorld_below w e s
  refine WL.step hg hd hn (fun a ha => ?_) (h w.heap.size (grownCap w s.size 0 e) (Lib.bytesWorld w e s) ?_ hb rfl)
  · unfold execOp
    rw [ho]
    have := Lib.run_convert_string_bytes (P := Try.prog) w t t2 e s (TyOk.of tyOk ht) (TyOk.of tyOk ht2).1 (TyOk.of tyOk he)
    simp [ha.eval hx, this]
  · have hm := grownCap_le_maxLen w s.size 0 e (by unfold maxLen; omega)
    unfold maxLen at hm
    have hr : Row .u8 (Lib.bytesWorld w e s) w.heap.size 0 (bytesI s) := by
      intro j hj
      rw [hl] at hj
      rw [Nat.zero_add, Lib.bytesWorld_cell w e s j hj, nth_bytesI s hj, ByteArray.toList_eq]
    have := Sl.mk (cap := grownCap w s.size 0 e) (by rw [hl]; exact grownCap_ge _ _ _ _) (by omega) (by rw [Lib.bytesWorld_size]; omega) hr
    rw [hl] at this
    exact this
theorem WL.strOf {t t2 e : Nat} {x : Operand} {v : Value} {zs : List Int} (hg : o.guard = none) (hd : o.dst = some d) (hn : Nat.blt d n.n = true) (ho : o.op = .convert t t2 x) (ht : tyOf ty t = some (.slice e 1)) (ht2 : tyOf ty t2 = some .str) (he : tyOf ty e = some (.int .u8))
    (hx : evl l x = some v) (hs : Sl .u8 w v zs) (h : WL n ops Q rest ((d, .string (strOfNums zs)) :: l) w) : WL n ops Q (o :: rest) l w :=
  WL.step hg hd hn (fun a ha => by
    unfold execOp
    rw [ho]
    have hu := (TyOk.of tyOk ht).1
    have hi := TyOk.of tyOk he
    have hd := TyOk.of tyOk ht2
    obtain ⟨sp, cap, rfl, -, -, h3, -⟩ := hs
    have hrun : (convert t t2 (.slice sp zs.length cap)).run Try.prog w = .ok (.string (strOfNums zs)) w := by
      cases hz : zs with
      | nil =>
        cases sp with
        | none => rw [run_convert_bytes_nil w t e hu hi _ _ t2 hd]; rfl
        | some p =>
          have hl0 : (loadCells p 0).run Try.prog w = .ok (([] : List Int).map (Value.int .u8)).toArray w := by rfl
          rw [run_convert_bytes_string w t t2 e _ _ _ hu hi hd, List.length_nil, run_bytesToString w _ 0 cap [] hl0]
          rfl
      | cons z r =>
        obtain ⟨b, off, rfl, -, hr⟩ := h3 (by rw [hz]; simp)
        rw [← hz]
        exact run_convert_bytes_arg w t e hu hi b off zs.length cap zs rfl (fun i hi => hr i hi) t2 hd
    simp [ha.eval hx, hrun]) h
theorem WL.substr {t : Nat} {x lo hi : Operand} {s : ByteArray} {k k' : IntKind} {y z : Int} (hg : o.guard = none) (hd : o.dst = some d) (hn : Nat.blt d n.n = true) (ho : o.op = .slice t x (some lo) (some hi) none) (ht : tyOf ty t = some .str)
    (hx : evl l x = some (.string s)) (hlo : evl l lo = some (.int k y)) (hhi : evl l hi = some (.int k' z)) (h0 : 0 ≤ y) (h1 : y ≤ z) (h2 : z ≤ s.size) (h : WL n ops Q rest ((d, .string (s.extract y.toNat z.toNat)) :: l) w) : WL n ops Q (o :: rest) l w :=
  WL.step hg hd hn (fun a ha => by
    unfold execOp
    rw [ho]
    have hu := TyOk.of tyOk ht
    simp [ha.eval hx, ha.eval hlo, ha.eval hhi, run_sliceAt_string w t _ _ _ _ hu, run_slice_string w t s k k' y z hu h0 h1 h2]) h
theorem WL.substrTo {t : Nat} {x hi : Operand} {s : ByteArray} {k' : IntKind} {z : Int} (hg : o.guard = none) (hd : o.dst = some d) (hn : Nat.blt d n.n = true) (ho : o.op = .slice t x none (some hi) none) (ht : tyOf ty t = some .str)
    (hx : evl l x = some (.string s)) (hhi : evl l hi = some (.int k' z)) (h0 : 0 ≤ z) (h2 : z ≤ s.size) (h : WL n ops Q rest ((d, .string (s.extract 0 z.toNat)) :: l) w) : WL n ops Q (o :: rest) l w :=
  WL.step hg hd hn (fun a ha => by
    unfold execOp
    rw [ho]
    have hu := TyOk.of tyOk ht
    have := run_slice_string_to_if (P := Try.prog) w t s k' z hu
    rw [if_pos ⟨h0, h2⟩] at this
    simp [ha.eval hx, ha.eval hhi, run_sliceAt_string w t _ _ _ _ hu, this]) h
/-- Two texts, one behind the other. -/
theorem WL.concat {t t2 : Nat} {x y : Operand} {a b : ByteArray} (hg : o.guard = none) (hd : o.dst = some d) (hn : Nat.blt d n.n = true) (ho : o.op = .binOp .add t x y t2) (hx : evl l x = some (.string a)) (hy : evl l y = some (.string b))
    (hb : a.size + b.size ≤ 140737488355328) (h : WL n ops Q rest ((d, .string (a ++ b)) :: l) w) : WL n ops Q (o :: rest) l w :=
  WL.step hg hd hn (fun c hc => by
    unfold execOp
    rw [ho]
    have := run_string_add_if (P := Try.prog) w a b
    rw [if_neg (by omega)] at this
    simp [hc.eval hx, hc.eval hy, eqGuard_add, binOp_string_add, this]) h
def evlParts (l : Env) : List (Nat × Operand) → Option (List (Nat × Value))
  | [] => some []
  | (i, x) :: r => match evl l x, evlParts l r with
    | some v, some vs => some ((i, v) :: vs)
    | _, _ => none
theorem evlParts_map {a : Act} (ha : Fr n a l) : ∀ {xs : List (Nat × Operand)} {vs : List (Nat × Value)}, evlParts l xs = some vs → (xs.map fun x => (x.1, a.eval x.2)) = vs
  | [], vs, h => by cases h; rfl
  | (i, x) :: xs, vs, h => by
    unfold evlParts at h
    split at h
    · rename_i v r h1 h2
      obtain rfl := Option.some.inj h
      rw [List.map_cons, ha.eval h1, evlParts_map ha h2]
    · cases h
/-- A struct or an array of parts. -/
theorem WL.build {t : Nat} {parts : List (Nat × Operand)} {ps : List (Nat × Value)} (cells : List Value) (hg : o.guard = none) (hd : o.dst = some d) (hn : Nat.blt d n.n = true) (ho : o.op = .build t parts.toArray) (hp : evlParts l parts = some ps)
    (hf : Try.prog.built t ps = some cells.toArray) (h : WL n ops Q rest ((d, .agg cells.toArray) :: l) w) : WL n ops Q (o :: rest) l w :=
  ⟨fun a ha => lw_via hg (by rw [ho]; intro c hc; cases hc) <| wpList_buildTo hg t parts.toArray ho (some d) hd cells.toArray (by
    rw [show (parts.toArray.map fun x => (x.1, a.eval x.2)).toList = ps by rw [Array.toList_map]; exact evlParts_map ha hp]
    exact hf) (h.go _ (ha.put hn _))⟩
/-- What a slice literal's cells are. -/
def litCells (P : Program) (e len : Nat) (ps : List (Nat × Value)) : Option (Array Value) :=
  match P.info? e with
  | some ie => match ie.zero with
    | some z => if 0 < len * ie.size ∧ len * ie.size ≤ 1000 then Instr.fill (fun i => some (i * ie.size, ie.size)) ((Array.range (len * ie.size)).map (z.cells[· % z.cells.size]!)) ps else none
    | none => none
  | none => none
theorem WL.litV {t e s len : Nat} {parts : List (Nat × Operand)} {ps : List (Nat × Value)} (cells : List Value) (hg : o.guard = none) (hd : o.dst = some d) (hn : Nat.blt d n.n = true) (ho : o.op = .buildSlice t len parts.toArray) (ht : tyOf ty t = some (.slice e s))
    (hp : evlParts l parts = some ps) (hf : litCells Try.prog e len ps = some cells.toArray) (h : ∀ g w', Fresh w g w' e cells → WL n ops Q rest ((d, .slice (some ⟨g, 0, none⟩) len len) :: l) w') : WL n ops Q (o :: rest) l w :=
  WL.step hg hd hn (fun a ha => by
    unfold litCells at hf
    cases hie : Try.prog.info? e with
    | none => rw [hie] at hf; cases hf
    | some ie =>
      rw [hie] at hf
      simp only at hf
      cases hz : ie.zero with
      | none => rw [hz] at hf; cases hf
      | some z =>
        rw [hz] at hf
        simp only at hf
        split at hf
        · rename_i hlen
          unfold execOp
          rw [ho]
          have hpm := evlParts_map ha hp
          have := run_buildSlice (P := Try.prog) w t e len (parts.toArray.map fun x => (x.1, a.eval x.2)) cells.toArray ie z (TyOk.of tyOk ht).1 hie hz (by omega) (by omega) (by rw [Array.toList_map]; simp only; rw [hpm]; exact hf)
          simp only [Sem.run_bind, this, Result.andThen_ok]
          rfl
        · cases hf) (h _ _ (Fresh.mk' w e cells))
end K
end Go.Proofs.Ytdaljjicekheiaa
