/- Texts for LawBlkChecks, part 3 of 5. -/
import Derived.Test.YtlamdhekjlnccaaGreatDoorZLawBlkChecks2
import Derived.Laws.CopyRow
import Derived.Maps.OwnSet
import Derived.DeepKeys5
/- Digests of values (chapters 2, 7): Leaf, Hash; two digests compared. -/
namespace Go.Proofs.YtlamdhekjlnccaaGreatDoor
open Go.RowKit
namespace K
abbrev hashC (h : List Int) : List Value := h.map (Value.int .u8)
theorem hash_eql (a b : List Int) (ha : a.length = 32) (hb : b.length = 32) (W : World) : (binOp .eql 23 (.agg (hashC a).toArray) (.agg (hashC b).toArray)).run Tryz.prog W = .ok (.bool (decide (a = b))) W := by
  have hq : (Tryz.prog.info? 5).map (fun i => (i.zero, i.size, i.bytes)) = some (some (.int .u8 0), 1, 1) := by kernel_rfl
  obtain ⟨ie, hie, he⟩ := Option.map_eq_some_iff.1 hq
  obtain ⟨-, he2⟩ := Prod.mk.inj he
  exact run_eql_ints W Tryz.underlying23 Tryz.underlying5 hie (Prod.mk.inj he2).1 a b ha hb
theorem hash_guard (x y : Operand) (a b : Array Value) (W : World) : (eqGuard .eql 23 x y (.agg a) (.agg b)).run Tryz.prog W = .ok () W := by
  have h : Tryz.prog.eqGuardType Tryz.prog.depth 23 = false := by kernel_rfl
  simp [eqGuard, h]
section
variable {n : Nat} {Q : Exit → Act → World → Prop} {l : Env} {w w' : World} {ops : Array Oper} {o : Oper} {rest : List Oper} {d : Nat}
/-- Two digests, compared. -/
theorem WL.eqlH {x y : Operand} {t2 : Nat} {a b : List Int} (hg : o.guard = none) (hd : o.dst = some d) (hn : Nat.blt d n = true) (ho : o.op = .binOp .eql 23 x y t2) (hx : evl l x = some (.agg (hashC a).toArray)) (hy : evl l y = some (.agg (hashC b).toArray))
    (ha : a.length = 32) (hb : b.length = 32) (h : WL n ops Q rest ((d, .bool (decide (a = b))) :: l) w) : WL n ops Q (o :: rest) l w :=
  WL.step hg hd hn (fun c hc => by
    unfold execOp
    rw [ho]
    simp only [hc.eval hx, hc.eval hy, Sem.run_bind, hash_guard, Result.andThen_ok, hash_eql a b ha hb w]
    rfl) h
end
theorem leaf_any {w : World} {v : Value} {l : List Int} (hv : Sl .u8 w v l) (hn : l.length ≤ 17592186044416) :
    Calls Tryz.prog 41 #[v] w fun e w' => e = .returned (.agg (hashC (Dig.sumL (0 :: l))).toArray) ∧ Below w.heap.size w w' := by
  refine enter (args := [v]) Tryz.func41 rfl Tryz.ntmps41 rfl ?_
  refine kgo ?_
  refine WL.alloc (z := .agg (hashC Dig.Z32).toArray) rfl rfl rfl rfl (Dig.zero25) fun g w1 hf => ?_
  have hf' : Fresh w g w1 23 (hashC Dig.Z32) := hf
  clear hf
  have hz := hf'.size
  have he := hf'.eq
  refine kgo ?_
  refine WL.lit rfl rfl rfl rfl rfl rfl rfl fun b2 w2 hb2 hk2 hg2 => ?_
  have hw2 : Below w.heap.size w w2 := hf'.below.trans (hk2.mono (by omega))
  refine kgo ?_
  refine WL.app rfl rfl rfl rfl rfl hb2 rfl (hv.of_below hw2) (by simp only [List.length_cons, List.length_nil]; omega) fun b3 w3 hb3 hg3 => ?_
  have hk3 : Below w1.heap.size w1 w3 := hk2.trans (hg3.old hk2.size hg2)
  refine WL.call rfl rfl rfl rfl rfl Tryz.func37 rfl (by kernel_rfl) (Dig.progSum_s b3 _ w3 hb3.sl (by rw [List.length_append]; simp only [List.length_cons, List.length_nil]; omega)) ?_
  rintro _ w4 ⟨rfl, hk4⟩
  refine ⟨_, rfl, ?_⟩
  have hk4' : Below w1.heap.size w1 w4 := hk3.trans (hk4.mono hk3.size)
  have B4 := hf'.blk.below hk4' hf'.blk.lt
  have hlen : (hashC (Dig.sumL (0 :: l))).length = 32 := by rw [List.length_map]; exact Dig.sumL_length _
  refine WL.storeRow rfl rfl rfl rfl rfl rfl B4 hlen (by rfl) (Ones.int _ _) ?_
  refine kgo ?_
  exact WQ.retC rfl rfl rfl hlen (B4.setRow _) ⟨rfl, below_setRow (hf'.below.trans (hk4'.mono (by omega))) (by omega) _⟩
/-- A value's digest. -/
def hashR (v : V) : List Int := if (encR v).2 ≠ 0 then Dig.Z32 else Dig.sumL (0 :: (encR v).1)
theorem hashR_len (v : V) : (hashR v).length = 32 := by unfold hashR; split; rfl; exact Dig.sumL_length _
def HashPost (w : World) (v : V) (e : Ending) (w' : World) : Prop := e = .returned (.tuple #[.agg (hashC (hashR v)).toArray, .int .i64 (encR v).2]) ∧ Below w.heap.size w w'
theorem hash_any {f : Nat} {w : World} {v : V} {cs : List Value} (h : IsV f w v cs) (hlen : chk 16 v = 0 → (encV 16 v).length ≤ 70368744177664) :
    Calls Tryz.prog 58 #[.agg cs.toArray] w (HashPost w v) := by
  have hcs := h.len
  refine enter (args := [.agg cs.toArray]) Tryz.func58 rfl Tryz.ntmps58 rfl ?_
  refine kgo ?_
  refine WL.box rfl rfl rfl rfl rfl fun g w1 hf => ?_
  have hf' : Fresh w g w1 41 cs := hf
  clear hf
  refine WL.alloc (z := .agg (hashC Dig.Z32).toArray) rfl rfl rfl rfl (Dig.zero25) fun g2 w2 hf2 => ?_
  have hf2' : Fresh w1 g2 w2 23 (hashC Dig.Z32) := hf2
  clear hf2
  have hz1 := hf'.size
  have hz2 := hf2'.size
  have he1 := hf'.eq
  have he2 := hf2'.eq
  have hw2 : Below w.heap.size w w2 := hf'.below.trans (hf2'.below.mono (by omega))
  have B1 := hf'.blk.below hf2'.below hf'.blk.lt
  refine kgo ?_
  refine WL.loadMid rfl rfl rfl rfl rfl rfl (VBlk.rangeAt B1) hcs ?_
  refine WL.call rfl rfl rfl rfl rfl Tryz.func60 rfl (by kernel_rfl) (encode_any (h.below hw2) hlen) ?_
  rintro _ w3 ⟨b, rfl, hb, hk3, -⟩
  refine ⟨_, rfl, ?_⟩
  have hw3 : Below w.heap.size w w3 := hw2.trans (hk3.mono (by omega))
  have B23 := hf2'.blk.below hk3 hf2'.blk.lt
  have hz3 := hk3.size
  by_cases he : (encR v).2 = 0
  · have hR : hashR v = Dig.sumL (0 :: (encR v).1) := by unfold hashR; rw [if_neg (by simpa using he)]
    have hl65 := (encR_ok he).2.1
    rw [← (encR_ok he).2.2] at hl65
    refine kgo ?_
    refine WL.call rfl rfl rfl rfl rfl Tryz.func41 rfl (by kernel_rfl) (leaf_any hb.sl (by omega)) ?_
    rintro _ w4 ⟨rfl, hk4⟩
    refine ⟨_, rfl, ?_⟩
    have hlen2 : (hashC (Dig.sumL (0 :: (encR v).1))).length = 32 := by rw [List.length_map]; exact Dig.sumL_length _
    have B24 := B23.below hk4 B23.lt
    refine WL.storeRow rfl rfl rfl rfl rfl rfl B24 hlen2 (by rfl) (Ones.int _ _) ?_
    refine kgo ?_
    exact WQ.retCT rfl rfl rfl rfl hlen2 (B24.setRow _) ⟨by rw [hR, he], below_setRow (hw3.trans (hk4.mono (by omega))) (by omega) _⟩
  · have hR : hashR v = Dig.Z32 := by unfold hashR; rw [if_pos he]
    refine kgo ?_
    refine WL.build (hashC Dig.Z32) rfl rfl rfl rfl rfl (by kernel_rfl) ?_
    refine kgo ?_
    refine WL.storeRow rfl rfl rfl rfl rfl rfl B23 (by rfl) (by rfl) (Ones.int _ _) ?_
    refine kgo ?_
    exact WQ.retCT rfl rfl rfl rfl (by rfl) (B23.setRow _) ⟨by rw [hR]; rfl, below_setRow hw3 (by omega) _⟩
end K
end Go.Proofs.YtlamdhekjlnccaaGreatDoor

/- Blocks (chapter 11): what they are, when they are one, as bytes, and read; no program in sight. -/
namespace Go.Proofs.YtlamdhekjlnccaaGreatDoor
namespace K

/-- An entry. -/
structure En where
  kind : Int
  text : ByteArray
  table : Int
  doc : Int
  ver : Int
  data : V
  hash : List Int
  gone : Bool
  ab : Int
  ae : Int
def noE : En := ⟨0, noT, 0, 0, 0, zV, Dig.Z32, false, 0, 0⟩
/-- A block. -/
structure Bk where
  index : Int
  time : Int
  txn : Int
  prev : List Int
  ents : List En
def noB : Bk := ⟨0, 0, 0, Dig.Z32, []⟩
/-- Has an entry nothing but its kind? -/
def nilE (e : En) : Prop := e.text.size = 0 ∧ e.table = 0 ∧ e.doc = 0 ∧ e.ver = 0 ∧ e.data = zV ∧ e.hash = Dig.Z32 ∧ e.gone = false ∧ e.ab = 0 ∧ e.ae = 0
/-- Is an entry one, but for its Data? -/
def formE (e : En) : Prop :=
  if e.kind = 1 then 1 ≤ e.text.size ∧ e.text.size ≤ 4096 ∧ nilE { e with text := noT }
  else if e.kind = 2 then (1 ≤ e.table ∧ e.table ≤ 64) ∧ (1 ≤ e.doc ∧ e.doc ≤ 65536) ∧ (0 ≤ e.ver ∧ e.ver ≤ 2147483648) ∧ nilE { e with data := zV, hash := Dig.Z32, gone := false, table := 0, doc := 0, ver := 0 } ∧ (e.gone = true → e.data = zV)
  else if e.kind = 3 then (1 ≤ e.table ∧ e.table ≤ 64) ∧ (1 ≤ e.doc ∧ e.doc ≤ 65536) ∧ (1 ≤ e.ver ∧ e.ver ≤ 2147483648) ∧ nilE { e with table := 0, doc := 0, ver := 0 }
  else if e.kind = 4 then (0 ≤ e.ab ∧ e.ab ≤ 2147483648) ∧ (0 ≤ e.ae ∧ e.ae ≤ 2147483648) ∧ nilE { e with ab := 0, ae := 0 }
  else if e.kind = 5 ∨ e.kind = 7 then (1 ≤ e.table ∧ e.table ≤ 64) ∧ 1 ≤ e.text.size ∧ e.text.size ≤ 40 ∧ nilE { e with table := 0, text := noT }
  else if e.kind = 6 then (1 ≤ e.table ∧ e.table ≤ 64) ∧ nilE { e with table := 0 }
  else False
open Classical in
/-- What is wrong with an entry. -/
noncomputable def chkE (e : En) : Int :=
  if formE e then (if e.kind ≠ 2 ∨ e.gone = true then 0 else if (encR e.data).2 ≠ 0 then (encR e.data).2 else if hashR e.data = e.hash then 0 else 18) else 3
/-- An entry's bytes. -/
def layE (e : En) : List Int :=
  e.kind :: (uvB e.table.toNat ++ (uvB e.doc.toNat ++ (uvB e.ver.toNat ++ (uvB e.text.size ++ (byI e.text ++ (uvB e.ab.toNat ++ (uvB e.ae.toNat ++ (if e.kind = 2 then e.hash else []))))))))
/-- What stands behind them. -/
def layD (data : Bool) (e : En) : List Int :=
  if e.kind = 2 then (if e.gone = true ∨ data = false then [0] else 1 :: (uvB (encR e.data).1.length ++ (encR e.data).1)) else []
def headL (b : Bk) : List Int := uvB b.index.toNat ++ (uvB b.time.toNat ++ (uvB b.txn.toNat ++ b.prev))
def layB (data : Bool) (b : Bk) : List Int := headL b ++ (uvB b.ents.length ++ b.ents.flatMap fun e => layE e ++ layD data e)
/-- What is wrong with a block. -/
noncomputable def chkB (b : Bk) : Int :=
  if (0 ≤ b.index ∧ b.index ≤ 2147483648) ∧ (0 ≤ b.time ∧ b.time ≤ 9007199254740992) ∧ (0 ≤ b.txn ∧ b.txn ≤ 9007199254740992) ∧ (1 ≤ b.ents.length ∧ b.ents.length ≤ 200) then
    (if firstBad (b.ents.map chkE) ≠ 0 then firstBad (b.ents.map chkE) else if 262144 < (layB true b).length then 5 else 0) else 1

/-- A number, 2^53 at most. -/
def rdN (l : List Int) : Rd Nat := (rdU l).bind fun v r => if 9007199254740992 < v then .bad 3 else .ok v r
/-- So many bytes. -/
def rdX (n : Nat) (l : List Int) : Rd (List Int) := if l.length < n then .bad 2 else .ok (l.take n) (l.drop n)
def bytS (l : List Int) : ByteArray := ⟨(l.map fun c => UInt8.ofNat c.toNat).toArray⟩
/-- What stands behind a revision's hash. -/
def rdD (e : En) (l : List Int) : Rd En := (rdB l).bind fun c r =>
  if c = 0 then .ok { e with gone := true } r
  else if c = 1 then (rdN r).bind fun n r => (rdX n r).bind fun p r => match readV true p with
    | .ok v _ => .ok { e with data := v } r
    | .bad _ => .bad 3
  else .bad 3
/-- An entry. -/
def rdE (l : List Int) : Rd En := (rdB l).bind fun k r => (rdN r).bind fun t r => (rdN r).bind fun d r => (rdN r).bind fun v r => (rdN r).bind fun n r => (rdX n r).bind fun s r => (rdN r).bind fun a r => (rdN r).bind fun b r =>
  if k = 2 then (rdX 32 r).bind fun h r => rdD ⟨k, bytS s, t, d, v, zV, h, false, a, b⟩ r else .ok ⟨k, bytS s, t, d, v, zV, Dig.Z32, false, a, b⟩ r
def rdEs : Nat → List En → List Int → Rd (List En)
  | 0, es, l => .ok es l
  | n + 1, es, l => (rdE l).bind fun e r => rdEs n (es ++ [e]) r
def rdBk (l : List Int) : Rd Bk := (rdN l).bind fun i r => (rdN r).bind fun t r => (rdN r).bind fun x r => (rdX 32 r).bind fun p r => (rdN r).bind fun n r => (rdEs n [] r).bind fun es r => .ok ⟨i, t, x, p, es⟩ r
/-- What Decode tells. -/
noncomputable def readB (l : List Int) : Rd Bk := match rdBk l with
  | .bad e => .bad e
  | .ok b r => if 0 < r.length then .bad 3 else if chkB b ≠ 0 then .bad (chkB b) else .ok b r

theorem ext_rdN : Ext rdN := Ext.bind ext_rdU fun v => Ext.ite (Ext.bad 3) (Ext.ok v)
theorem ext_rdX (n : Nat) : Ext (rdX n) := by
  intro l s
  unfold rdX
  by_cases h : l.length < n
  · rw [if_pos h]; exact .inl rfl
  · rw [if_neg h]
    simp only
    rw [if_neg (by rw [List.length_append]; omega), List.take_append_of_le_length (by omega), List.drop_append_of_le_length (by omega)]
theorem ext_rdD (e : En) : Ext (rdD e) := Ext.bind ext_rdB fun _ => Ext.ite (Ext.ok _) (Ext.ite (Ext.bind ext_rdN fun n => Ext.bind (ext_rdX n) fun p => by
  cases readV true p with
  | ok v r => exact Ext.ok _
  | bad e => exact Ext.bad 3) (Ext.bad 3))
theorem ext_rdE : Ext rdE := Ext.bind ext_rdB fun _ => Ext.bind ext_rdN fun _ => Ext.bind ext_rdN fun _ => Ext.bind ext_rdN fun _ => Ext.bind ext_rdN fun n => Ext.bind (ext_rdX n) fun _ => Ext.bind ext_rdN fun _ => Ext.bind ext_rdN fun _ =>
  Ext.ite (Ext.bind (ext_rdX 32) fun _ => ext_rdD _) (Ext.ok _)
theorem ext_rdEs : ∀ (n : Nat) (es : List En), Ext (rdEs n es)
  | 0, es => Ext.ok es
  | n + 1, es => Ext.bind ext_rdE fun e => ext_rdEs n (es ++ [e])
theorem ext_rdBk : Ext rdBk := Ext.bind ext_rdN fun _ => Ext.bind ext_rdN fun _ => Ext.bind ext_rdN fun _ => Ext.bind (ext_rdX 32) fun _ => Ext.bind ext_rdN fun n => Ext.bind (ext_rdEs n []) fun _ => Ext.ok _

theorem rdN_enc {u : Nat} (h : u ≤ 9007199254740992) (r : List Int) : rdN (uvB u ++ r) = .ok u r := by
  unfold rdN
  rw [rdU_enc (by omega)]
  simp only [Rd.bind]
  rw [if_neg (by omega)]
theorem rdX_enc (p r : List Int) : rdX p.length (p ++ r) = .ok p r := by
  unfold rdX
  rw [if_neg (by rw [List.length_append]; omega), List.take_left', List.drop_left'] <;> rfl
theorem bytS_byI (s : ByteArray) : bytS (byI s) = s := mk_byI s
theorem nat_int {x : Int} (h : 0 ≤ x) : ((x.toNat : Nat) : Int) = x := Int.toNat_of_nonneg h
/-- What the checks of an entry say of what stands in it. -/
theorem formE_rng {e : En} (h : formE e) : (1 ≤ e.kind ∧ e.kind ≤ 7) ∧ (0 ≤ e.table ∧ e.table ≤ 64) ∧ (0 ≤ e.doc ∧ e.doc ≤ 65536) ∧ (0 ≤ e.ver ∧ e.ver ≤ 2147483648) ∧ e.text.size ≤ 4096 ∧ (0 ≤ e.ab ∧ e.ab ≤ 2147483648) ∧ (0 ≤ e.ae ∧ e.ae ≤ 2147483648) ∧
    (e.kind ≠ 2 → e.data = zV ∧ e.hash = Dig.Z32 ∧ e.gone = false) ∧ (e.gone = true → e.data = zV) := by
  unfold formE nilE at h
  by_cases k1 : e.kind = 1
  · rw [if_pos k1] at h
    obtain ⟨h1, h2, h3, h4, h5, h6, h7, h8, h9, h10, h11⟩ := h
    simp only at h3 h4 h5 h6 h7 h8 h9 h10 h11
    exact ⟨by omega, by omega, by omega, by omega, by omega, by omega, by omega, fun _ => ⟨h7, h8, h9⟩, fun h => by rw [h9] at h; cases h⟩
  rw [if_neg k1] at h
  by_cases k2 : e.kind = 2
  · rw [if_pos k2] at h
    obtain ⟨a1, a2, a3, ⟨h3, h4, h5, h6, h7, h8, h9, h10, h11⟩, h12⟩ := h
    simp only at h3 h4 h5 h6 h7 h8 h9 h10 h11
    exact ⟨by omega, by omega, by omega, by omega, by omega, by omega, by omega, fun h => absurd k2 h, h12⟩
  rw [if_neg k2] at h
  by_cases k3 : e.kind = 3
  · rw [if_pos k3] at h
    obtain ⟨a1, a2, a3, h3, h4, h5, h6, h7, h8, h9, h10, h11⟩ := h
    simp only at h3 h4 h5 h6 h7 h8 h9 h10 h11
    exact ⟨by omega, by omega, by omega, by omega, by omega, by omega, by omega, fun _ => ⟨h7, h8, h9⟩, fun h => by rw [h9] at h; cases h⟩
  rw [if_neg k3] at h
  by_cases k4 : e.kind = 4
  · rw [if_pos k4] at h
    obtain ⟨a1, a2, h3, h4, h5, h6, h7, h8, h9, h10, h11⟩ := h
    simp only at h3 h4 h5 h6 h7 h8 h9 h10 h11
    exact ⟨by omega, by omega, by omega, by omega, by omega, by omega, by omega, fun _ => ⟨h7, h8, h9⟩, fun h => by rw [h9] at h; cases h⟩
  rw [if_neg k4] at h
  by_cases k5 : e.kind = 5 ∨ e.kind = 7
  · rw [if_pos k5] at h
    obtain ⟨a1, h1, h2, h3, h4, h5, h6, h7, h8, h9, h10, h11⟩ := h
    simp only at h3 h4 h5 h6 h7 h8 h9 h10 h11
    exact ⟨by omega, by omega, by omega, by omega, by omega, by omega, by omega, fun _ => ⟨h7, h8, h9⟩, fun h => by rw [h9] at h; cases h⟩
  rw [if_neg k5] at h
  by_cases k6 : e.kind = 6
  · rw [if_pos k6] at h
    obtain ⟨a1, h3, h4, h5, h6, h7, h8, h9, h10, h11⟩ := h
    simp only at h3 h4 h5 h6 h7 h8 h9 h10 h11
    exact ⟨by omega, by omega, by omega, by omega, by omega, by omega, by omega, fun _ => ⟨h7, h8, h9⟩, fun h => by rw [h9] at h; cases h⟩
  rw [if_neg k6] at h
  exact h.elim
theorem chkE_ok {e : En} (h : chkE e = 0) : formE e ∧ (e.kind = 2 → e.gone = false → (encR e.data).2 = 0 ∧ hashR e.data = e.hash) := by
  unfold chkE at h
  by_cases hf : formE e
  · rw [if_pos hf] at h
    refine ⟨hf, fun hk hg => ?_⟩
    rw [if_neg (by simp [hk, hg])] at h
    by_cases h2 : (encR e.data).2 = 0
    · rw [if_neg (by simpa using h2)] at h
      by_cases h3 : hashR e.data = e.hash
      · exact ⟨h2, h3⟩
      · rw [if_neg h3] at h; cases h
    · rw [if_pos h2] at h; exact absurd h h2
  · rw [if_neg hf] at h; cases h
/-- The values of an entry are as wide as integers are. -/
def RngE (e : En) : Prop := (∃ f, Rng f e.data) ∧ e.hash.length = 32
theorem En.ext' {a b : En} (h1 : a.kind = b.kind) (h2 : a.text = b.text) (h3 : a.table = b.table) (h4 : a.doc = b.doc) (h5 : a.ver = b.ver) (h6 : a.data = b.data) (h7 : a.hash = b.hash) (h8 : a.gone = b.gone) (h9 : a.ab = b.ab) (h10 : a.ae = b.ae) : a = b := by
  cases a; cases b; simp only at h1 h2 h3 h4 h5 h6 h7 h8 h9 h10; subst h1; subst h2; subst h3; subst h4; subst h5; subst h6; subst h7; subst h8; subst h9; subst h10; rfl
theorem back_decR {v : V} (h : ∃ f, Rng f v) (hc : chk 16 v = 0) (hl : (encV 16 v).length ≤ 65536) : readV true (encV 16 v) = .ok v [] := by
  obtain ⟨f, h⟩ := h
  have := rdV_enc 16 (f := f) [] hc h
  rw [List.append_nil] at this
  unfold readV
  rw [this]
  simp only
  rw [if_neg (by simpa using hc), if_neg (by simp), if_neg (by simp; omega)]
/-- What was laid is read as it was; without its data a revision is gone. -/
theorem rdE_enc (data : Bool) {e : En} (h : chkE e = 0) (hr : RngE e) (r : List Int) : rdE (layE e ++ (layD data e ++ r)) = .ok (if e.kind = 2 ∧ data = false then { e with gone := true, data := zV } else e) r := by
  obtain ⟨hf, hd⟩ := chkE_ok h
  obtain ⟨hk, ht, hdo, hv, hx, hab, hae, h2, hg⟩ := formE_rng hf
  have e1 : ∀ s, rdE (e.kind :: (uvB e.table.toNat ++ (uvB e.doc.toNat ++ (uvB e.ver.toNat ++ (uvB e.text.size ++ (byI e.text ++ (uvB e.ab.toNat ++ (uvB e.ae.toNat ++ s)))))))) =
      if e.kind = 2 then (rdX 32 s).bind fun h r => rdD ⟨e.kind, e.text, e.table, e.doc, e.ver, zV, h, false, e.ab, e.ae⟩ r else .ok ⟨e.kind, e.text, e.table, e.doc, e.ver, zV, Dig.Z32, false, e.ab, e.ae⟩ s := fun s => by
    unfold rdE
    simp only [rdB, Rd.bind]
    rw [rdN_enc (by omega)]
    simp only
    rw [rdN_enc (by omega)]
    simp only
    rw [rdN_enc (by omega)]
    simp only
    rw [rdN_enc (by omega)]
    simp only
    have := rdX_enc (byI e.text) (uvB e.ab.toNat ++ (uvB e.ae.toNat ++ s))
    rw [byI_len] at this
    rw [this]
    simp only
    rw [rdN_enc (by omega)]
    simp only
    rw [rdN_enc (by omega)]
    simp only
    rw [bytS_byI, nat_int ht.1, nat_int hdo.1, nat_int hv.1, nat_int hab.1, nat_int hae.1]
  have e2 : layE e ++ (layD data e ++ r) = e.kind :: (uvB e.table.toNat ++ (uvB e.doc.toNat ++ (uvB e.ver.toNat ++ (uvB e.text.size ++ (byI e.text ++ (uvB e.ab.toNat ++ (uvB e.ae.toNat ++ ((if e.kind = 2 then e.hash else []) ++ (layD data e ++ r))))))))) := by
    unfold layE; simp only [List.cons_append, List.append_assoc]
  rw [e2, e1]
  unfold layD
  by_cases k2 : e.kind = 2
  · simp only [if_pos k2]
    have h32 := rdX_enc e.hash ((if e.gone = true ∨ data = false then [0] else 1 :: (uvB (encR e.data).1.length ++ (encR e.data).1)) ++ r)
    rw [hr.2] at h32
    rw [h32]
    simp only [Rd.bind]
    unfold rdD
    by_cases hgd : e.gone = true ∨ data = false
    · rw [if_pos hgd]
      simp only [List.singleton_append, rdB, Rd.bind, if_true]
      by_cases hdf : data = false
      · rw [if_pos ⟨k2, hdf⟩]
      · have hgt : e.gone = true := hgd.resolve_right hdf
        rw [if_neg (fun h => hdf h.2)]
        exact congrArg (fun x => Rd.ok x r) (En.ext' rfl rfl rfl rfl rfl (hg hgt).symm rfl hgt.symm rfl rfl)
    · rw [if_neg hgd]
      have hgf : e.gone = false := by cases hq : e.gone with
        | true => exact absurd (.inl hq) hgd
        | false => rfl
      have hdt : ¬ data = false := fun h => hgd (.inr h)
      obtain ⟨he, hh⟩ := hd k2 hgf
      obtain ⟨hc, hl, hx⟩ := encR_ok he
      rw [hx, if_neg (fun h => hdt h.2)]
      simp only [List.cons_append, rdB, Rd.bind]
      rw [if_neg (by omega), if_pos trivial, List.append_assoc, rdN_enc (by omega)]
      simp only
      rw [rdX_enc]
      simp only
      rw [back_decR hr.1 hc hl]
      exact congrArg (fun x => Rd.ok x r) (En.ext' rfl rfl rfl rfl rfl rfl rfl hgf.symm rfl rfl)
  · simp only [if_neg k2, List.nil_append]
    obtain ⟨d1, d2, d3⟩ := h2 k2
    rw [if_neg (fun h => k2 h.1)]
    exact congrArg (fun x => Rd.ok x r) (En.ext' rfl rfl rfl rfl rfl d1.symm d2.symm d3.symm rfl rfl)
/-- An entry without its data. -/
def redE (data : Bool) (e : En) : En := if e.kind = 2 ∧ data = false then { e with gone := true, data := zV } else e
theorem rdEs_enc (data : Bool) : ∀ (es : List En) (es0 : List En) (r : List Int), (∀ e ∈ es, chkE e = 0 ∧ RngE e) → rdEs es.length es0 ((es.flatMap fun e => layE e ++ layD data e) ++ r) = .ok (es0 ++ es.map (redE data)) r
  | [], es0, r, _ => by simp [rdEs]
  | e :: es, es0, r, h => by
    rw [List.length_cons, rdEs, List.flatMap_cons, List.append_assoc, List.append_assoc]
    obtain ⟨h1, h2⟩ := h e (by simp)
    rw [rdE_enc data h1 h2]
    simp only [Rd.bind]
    rw [rdEs_enc data es _ r fun x hx => h x (List.mem_cons_of_mem _ hx)]
    simp [redE]
def RngB (b : Bk) : Prop := (∀ e ∈ b.ents, RngE e) ∧ b.prev.length = 32
theorem chkB_ok {b : Bk} (h : chkB b = 0) : ((0 ≤ b.index ∧ b.index ≤ 2147483648) ∧ (0 ≤ b.time ∧ b.time ≤ 9007199254740992) ∧ (0 ≤ b.txn ∧ b.txn ≤ 9007199254740992) ∧ (1 ≤ b.ents.length ∧ b.ents.length ≤ 200)) ∧ (∀ e ∈ b.ents, chkE e = 0) ∧ (layB true b).length ≤ 262144 := by
  unfold chkB at h
  by_cases h1 : (0 ≤ b.index ∧ b.index ≤ 2147483648) ∧ (0 ≤ b.time ∧ b.time ≤ 9007199254740992) ∧ (0 ≤ b.txn ∧ b.txn ≤ 9007199254740992) ∧ (1 ≤ b.ents.length ∧ b.ents.length ≤ 200)
  · rw [if_pos h1] at h
    by_cases h2 : firstBad (b.ents.map chkE) = 0
    · rw [if_neg (by simpa using h2)] at h
      by_cases h3 : 262144 < (layB true b).length
      · rw [if_pos h3] at h; cases h
      · exact ⟨h1, fun e he => firstBad_zero.1 h2 _ (List.mem_map_of_mem he), by omega⟩
    · rw [if_pos h2] at h; exact absurd h h2
  · rw [if_neg h1] at h; cases h
theorem rdBk_enc (data : Bool) {b : Bk} (h : chkB b = 0) (hr : RngB b) (r : List Int) : rdBk (layB data b ++ r) = .ok { b with ents := b.ents.map (redE data) } r := by
  obtain ⟨⟨h1, h2, h3, h4⟩, h5, -⟩ := chkB_ok h
  have e2 : layB data b ++ r = uvB b.index.toNat ++ (uvB b.time.toNat ++ (uvB b.txn.toNat ++ (b.prev ++ (uvB b.ents.length ++ ((b.ents.flatMap fun e => layE e ++ layD data e) ++ r))))) := by
    unfold layB headL; simp only [List.append_assoc]
  rw [e2]
  unfold rdBk
  rw [rdN_enc (by omega)]
  simp only [Rd.bind]
  rw [rdN_enc (by omega)]
  simp only
  rw [rdN_enc (by omega)]
  simp only
  have := rdX_enc b.prev (uvB b.ents.length ++ ((b.ents.flatMap fun e => layE e ++ layD data e) ++ r))
  rw [hr.2] at this
  rw [this]
  simp only
  rw [rdN_enc (by omega)]
  simp only
  rw [rdEs_enc data b.ents [] r fun e he => ⟨h5 e he, hr.1 e he⟩]
  simp only [List.nil_append, nat_int h1.1, nat_int h2.1, nat_int h3.1]
theorem red_true (l : List En) : l.map (redE true) = l := by
  refine (List.map_congr_left fun e _ => ?_).trans (List.map_id l)
  unfold redE
  rw [if_neg (fun h => by cases h.2)]; rfl
theorem readB_enc {b : Bk} (h : chkB b = 0) (hr : RngB b) : readB (layB true b) = .ok b [] := by
  have h1 := rdBk_enc true h hr []
  rw [List.append_nil, red_true] at h1
  unfold readB
  rw [h1]
  simp only
  rw [if_neg (by simp), if_neg (by simpa using h)]
theorem readB_short {b : Bk} (h : chkB b = 0) (hr : RngB b) {k : Nat} (hk : k < (layB true b).length) : readB ((layB true b).take k) = .bad 2 := by
  have h1 := ext_rdBk ((layB true b).take k) ((layB true b).drop k)
  have h2 := rdBk_enc true h hr []
  rw [List.append_nil] at h2
  rw [List.take_append_drop, h2] at h1
  unfold readB
  cases hq : rdBk ((layB true b).take k) with
  | ok a r =>
    rw [hq] at h1
    injection h1 with _ h1
    have := congrArg List.length h1
    simp at this
    omega
  | bad e =>
    rw [hq] at h1
    rcases h1 with rfl | h1
    · rfl
    · cases h1
theorem readB_more {b : Bk} (h : chkB b = 0) (hr : RngB b) : readB (layB true b ++ [0]) = .bad 3 := by
  unfold readB
  rw [rdBk_enc true h hr [0]]
  simp only
  rw [if_pos (by simp)]
theorem layB_inj {a b : Bk} (ha : chkB a = 0) (hb : chkB b = 0) (ra : RngB a) (rb : RngB b) (h : layB true a = layB true b) : a = b := by
  have h1 := readB_enc ha ra
  rw [h, readB_enc hb rb] at h1
  injection h1 with h1 _
  exact h1.symm
end K
end Go.Proofs.YtlamdhekjlnccaaGreatDoor

/- Entries and blocks in memory (chapter 11). -/
namespace Go.Proofs.YtlamdhekjlnccaaGreatDoor
open Go.RowKit
namespace K

abbrev R64 (x : Int) : Prop := -9223372036854775808 ≤ x ∧ x ≤ 9223372036854775807
/-- The 46 cells of an entry. -/
def enC (e : En) (dc : List Value) : List Value :=
  .int .i64 e.kind :: .string e.text :: .int .i64 e.table :: .int .i64 e.doc :: .int .i64 e.ver :: (dc ++ (hashC e.hash ++ [.bool e.gone, .int .i64 e.ab, .int .i64 e.ae]))
/-- They say e; what its Data say, P tells. -/
def EnP (P : V → List Value → Prop) (e : En) (cs : List Value) : Prop :=
  ∃ dc, cs = enC e dc ∧ P e.data dc ∧ dc.length = 6 ∧ Ones dc ∧ e.hash.length = 32 ∧ Byt e.hash ∧ e.text.size ≤ 140737488355328 ∧ (R64 e.kind ∧ R64 e.table ∧ R64 e.doc ∧ R64 e.ver ∧ R64 e.ab ∧ R64 e.ae)
theorem EnP.mono {P P' : V → List Value → Prop} (hP : ∀ v cs, P v cs → P' v cs) {e : En} {cs : List Value} (h : EnP P e cs) : EnP P' e cs := by
  obtain ⟨dc, h1, h2, h3⟩ := h
  exact ⟨dc, h1, hP _ _ h2, h3⟩
theorem EnP.len {P : V → List Value → Prop} {e : En} {cs : List Value} (h : EnP P e cs) : cs.length = 46 := by
  obtain ⟨dc, rfl, -, h1, -, h2, -⟩ := h
  simp [enC, h1, h2]
theorem EnP.one {P : V → List Value → Prop} {e : En} {cs : List Value} (h : EnP P e cs) : Ones cs := by
  obtain ⟨dc, rfl, -, -, h1, -⟩ := h
  intro u hu
  unfold enC at hu
  simp only [List.mem_cons, List.mem_append, List.not_mem_nil, or_false] at hu
  rcases hu with rfl | rfl | rfl | rfl | rfl | hu | hu | rfl | rfl | rfl
  all_goals first | rfl | exact h1 u hu | exact Ones.int _ _ u hu
abbrev IsE (f : Nat) (w : World) : En → List Value → Prop := EnP (IsV f w)
abbrev IsEo (O : Nat → Prop) (f : Nat) (w : World) : En → List Value → Prop := EnP (IsVo O f w)
/-- The 36 cells of a block. -/
def bkC (b : Bk) (se : Value) : List Value := .int .i64 b.index :: .int .i64 b.time :: .int .i64 b.txn :: (hashC b.prev ++ [se])
def BkP (P : En → List Value → Prop) (O : Nat → Prop) (w : World) (b : Bk) (cs : List Value) : Prop :=
  ∃ se, cs = bkC b se ∧ Els 46 noE P O w se b.ents ∧ b.prev.length = 32 ∧ Byt b.prev ∧ (R64 b.index ∧ R64 b.time ∧ R64 b.txn)
theorem BkP.len {P : En → List Value → Prop} {O : Nat → Prop} {w : World} {b : Bk} {cs : List Value} (h : BkP P O w b cs) : cs.length = 36 := by
  obtain ⟨se, rfl, -, h2, -⟩ := h
  simp [bkC, h2]
theorem BkP.one {P : En → List Value → Prop} {O : Nat → Prop} {w : World} {b : Bk} {cs : List Value} (h : BkP P O w b cs) : Ones cs := by
  obtain ⟨se, rfl, ⟨sp, cap, rfl, -⟩, -⟩ := h
  intro u hu
  unfold bkC at hu
  simp only [List.mem_cons, List.mem_append, List.not_mem_nil, or_false] at hu
  rcases hu with rfl | rfl | rfl | hu | rfl
  all_goals first | rfl | exact Ones.int _ _ u hu
abbrev IsB (f : Nat) (w : World) : Bk → List Value → Prop := BkP (IsE f w) (fun _ => True) w
abbrev IsBo (O : Nat → Prop) (f : Nat) (w : World) : Bk → List Value → Prop := BkP (IsEo O f w) O w
theorem IsE.below {w w' : World} (hb : Below w.heap.size w w') {f : Nat} {e : En} {cs : List Value} (h : IsE f w e cs) : IsE f w' e cs := EnP.mono (fun _ _ h => h.below hb) h
theorem IsB.below {w w' : World} (hb : Below w.heap.size w w') {f : Nat} {b : Bk} {cs : List Value} (h : IsB f w b cs) : IsB f w' b cs := by
  obtain ⟨se, h1, h2, h3⟩ := h
  exact ⟨se, h1, h2.keep (Keep.of_below hb) (fun b _ hl => hl) (fun _ h => h) fun _ _ h => IsE.below hb h, h3⟩
/-- Part of a block's cells. -/
theorem VBlk.part {T b : Nat} {w : World} {cs : List Value} (h : VBlk T w b cs) (a : List Value) (m : List Value) (z : List Value) (e : cs = a ++ (m ++ z)) : w.rangeAt b a.length m := by
  intro j u hj
  have := VBlk.rangeAt h (a.length + j) u (by rw [e, List.getElem?_append_right (by omega), Nat.add_sub_cancel_left]; rw [List.getElem?_append_left]; exact hj; rcases Nat.lt_or_ge j m.length with h | h; exact h; rw [List.getElem?_eq_none h] at hj; cases hj)
  rwa [Nat.zero_add] at this
theorem enC_data {T b : Nat} {w : World} {e : En} {dc : List Value} (h : VBlk T w b (enC e dc)) : w.rangeAt b 5 dc :=
  VBlk.part h [.int .i64 e.kind, .string e.text, .int .i64 e.table, .int .i64 e.doc, .int .i64 e.ver] dc _ rfl
theorem enC_hash {T b : Nat} {w : World} {e : En} {dc : List Value} (h : VBlk T w b (enC e dc)) (hd : dc.length = 6) : w.rangeAt b 11 (hashC e.hash) := by
  have := VBlk.part h (.int .i64 e.kind :: .string e.text :: .int .i64 e.table :: .int .i64 e.doc :: .int .i64 e.ver :: dc) (hashC e.hash) [.bool e.gone, .int .i64 e.ab, .int .i64 e.ae] (by simp [enC])
  simpa [hd] using this
theorem enC_tail {e : En} {dc : List Value} (hd : dc.length = 6) (hh : e.hash.length = 32) : (enC e dc)[43]? = some (.bool e.gone) ∧ (enC e dc)[44]? = some (.int .i64 e.ab) ∧ (enC e dc)[45]? = some (.int .i64 e.ae) := by
  have h1 : enC e dc = (.int .i64 e.kind :: .string e.text :: .int .i64 e.table :: .int .i64 e.doc :: .int .i64 e.ver :: (dc ++ hashC e.hash)) ++ [.bool e.gone, .int .i64 e.ab, .int .i64 e.ae] := by simp [enC]
  have h2 : (Value.int IntKind.i64 e.kind :: .string e.text :: .int .i64 e.table :: .int .i64 e.doc :: .int .i64 e.ver :: (dc ++ hashC e.hash)).length = 43 := by simp [hd, hh]
  rw [h1]
  refine ⟨?_, ?_, ?_⟩ <;> rw [List.getElem?_append_right (by omega), h2] <;> rfl
/-- The cells of an entry that lies in a block of its own. -/
structure EnAt (T b : Nat) (w : World) (e : En) (dc : List Value) : Prop where
  blk : VBlk T w b (enC e dc)
  dl : dc.length = 6
  hl : e.hash.length = 32
section
variable {T b : Nat} {w w' : World} {e : En} {dc : List Value}
theorem EnAt.kind (h : EnAt T b w e dc) : w.cell? ⟨b, 0, none⟩ = some (.int .i64 e.kind) := h.blk.cell 0 (by simp [enC])
theorem EnAt.text (h : EnAt T b w e dc) : w.cell? ⟨b, 1, none⟩ = some (.string e.text) := h.blk.cell 1 (by simp [enC])
theorem EnAt.table (h : EnAt T b w e dc) : w.cell? ⟨b, 2, none⟩ = some (.int .i64 e.table) := h.blk.cell 2 (by simp [enC])
theorem EnAt.doc (h : EnAt T b w e dc) : w.cell? ⟨b, 3, none⟩ = some (.int .i64 e.doc) := h.blk.cell 3 (by simp [enC])
theorem EnAt.ver (h : EnAt T b w e dc) : w.cell? ⟨b, 4, none⟩ = some (.int .i64 e.ver) := h.blk.cell 4 (by simp [enC])
theorem EnAt.data (h : EnAt T b w e dc) : w.rangeAt b 5 dc := enC_data h.blk
theorem EnAt.hash (h : EnAt T b w e dc) : w.rangeAt b 11 (hashC e.hash) := enC_hash h.blk h.dl
theorem EnAt.len (h : EnAt T b w e dc) : (enC e dc).length = 46 := by simp [enC, h.dl, h.hl]
theorem EnAt.gone (h : EnAt T b w e dc) : w.cell? ⟨b, 43, none⟩ = some (.bool e.gone) := by
  have := h.blk.cell 43 (by rw [h.len]; omega)
  rw [this, List.getD_eq_getElem?_getD, (enC_tail h.dl h.hl).1]; rfl
theorem EnAt.ab (h : EnAt T b w e dc) : w.cell? ⟨b, 44, none⟩ = some (.int .i64 e.ab) := by
  have := h.blk.cell 44 (by rw [h.len]; omega)
  rw [this, List.getD_eq_getElem?_getD, (enC_tail h.dl h.hl).2.1]; rfl
theorem EnAt.ae (h : EnAt T b w e dc) : w.cell? ⟨b, 45, none⟩ = some (.int .i64 e.ae) := by
  have := h.blk.cell 45 (by rw [h.len]; omega)
  rw [this, List.getD_eq_getElem?_getD, (enC_tail h.dl h.hl).2.2]; rfl
theorem EnAt.at' (h : EnAt T b w e dc) : w.rangeAt b 44 [.int .i64 e.ab, .int .i64 e.ae] := by
  intro j u hj
  match j, hj with
  | 0, hj => cases hj; exact h.ab
  | 1, hj => cases hj; exact h.ae
theorem EnAt.keep (h : EnAt T b w e dc) {K : Nat → Prop} (hk : Keep K w w') (hb : K b) : EnAt T b w' e dc := ⟨VBlk.keep h.blk hk hb, h.dl, h.hl⟩
theorem EnAt.below (h : EnAt T b w e dc) (hk : Below w.heap.size w w') : EnAt T b w' e dc := ⟨VBlk.below h.blk hk h.blk.lt, h.dl, h.hl⟩
end
end K
end Go.Proofs.YtlamdhekjlnccaaGreatDoor

/- Walks over the slots that are asked for: parts of a block, stored. -/
namespace Go.Proofs.YtlamdhekjlnccaaGreatDoor
open Go.RowKit
namespace K
variable {n : Nat} {Q : Exit → Act → World → Prop} {l : Env} {w w' : World} {ops : Array Oper} {o : Oper} {rest : List Oper} {d : Nat}
/-- Some cells in the middle of a block. -/
theorem WL.storeMid {t mm T b off : Nat} {x y : Operand} {m cs : List Value} (hg : o.guard = none) (hd : o.dst = none) (ho : o.op = .store t x y) (hx : evl l x = some (.pointer (some ⟨b, off, none⟩))) (hy : evl l y = some (.agg m.toArray))
    (ht : cellsN (tyOf ty t) = some mm) (hb : VBlk T w b cs) (hm : m.length = mm) (hfit : off + mm ≤ cs.length) (h1 : Ones m) (h : WL n ops Q rest l (w.setRow b (cs.take off ++ m ++ cs.drop (off + mm)).toArray)) : WL n ops Q (o :: rest) l w :=
  WL.stepU hg hd (fun a ha => by
    obtain ⟨_, -, -, hsz⟩ := cellsN_ok tyOk ht
    have hs : (sizeOf t).run Tryz.prog w = .ok mm w := by
      cases hq : Tryz.prog.info? t with
      | none => rw [hq] at hsz; cases hsz
      | some q => rw [hq] at hsz; simp at hsz; simp [sizeOf, typeInfo, hq, hsz]
    have hrun := run_storeCells_at (P := Tryz.prog) b off T m 0 cs.toArray w hb (by simp only [List.size_toArray]; omega) h1
    simp only [Nat.add_zero] at hrun
    subst hm
    unfold execOp
    rw [ho]
    simp [ha.eval hx, ha.eval hy, Instr.storeAt, Instr.sureAddr, storeVar, hs, Value.cells, hrun]) h
theorem all_run {a : Act} {t e s m b off : Nat} {x : Operand} (ho : o.op = .slice t x none none none) (ht : tyOf ty t = some (.arr m e s)) (hx : a.eval x = .pointer (some ⟨b, off, none⟩)) : (execOp a.eval o).run Tryz.prog w = .ok (.value (.slice (some ⟨b, off, none⟩) m m)) w := by
  obtain ⟨hu, hse, -⟩ := TyOk.of tyOk ht
  have h1 : Tryz.prog.elem t = e := by simp [Program.elem, hu]
  have h2 : Tryz.prog.arrayLen t = m := by simp [Program.arrayLen, hu]
  have hs : (sizeOf e).run Tryz.prog w = .ok s w := by
    cases hq : Tryz.prog.info? e with
    | none => rw [hq] at hse; cases hse
    | some q => rw [hq] at hse; simp at hse; simp [sizeOf, typeInfo, hq, hse]
  have hr := run_sliceAt_array_all (P := Tryz.prog) w t ⟨b, off, none⟩ (by rw [h1, h2]; exact hu)
  unfold execOp
  rw [ho]
  have ha : slicedAt ⟨b, off, none⟩ 0 m m s = .slice (some ⟨b, off, none⟩) m m := by
    unfold slicedAt
    by_cases h0 : m = 0
    · rw [if_pos h0]; simp
    · rw [if_neg h0, Nat.zero_mul]; rfl
  simp [hx, hr, h1, h2, hs, ha]
/-- An array as a slice. -/
theorem WL.all {t e s m b off : Nat} {x : Operand} (hg : o.guard = none) (hd : o.dst = some d) (hn : Nat.blt d n = true) (ho : o.op = .slice t x none none none) (ht : tyOf ty t = some (.arr m e s)) (hx : evl l x = some (.pointer (some ⟨b, off, none⟩)))
    (h : WL n ops Q rest ((d, .slice (some ⟨b, off, none⟩) m m) :: l) w) : WL n ops Q (o :: rest) l w := WL.step hg hd hn (fun _ ha => all_run ho ht (ha.eval hx)) h
/-- An element of an array. -/
theorem WL.elem {t e m : Nat} {x i : Operand} {cs : List Value} {k : IntKind} {v : Value} (j : Nat) (hg : o.guard = none) (hd : o.dst = some d) (hn : Nat.blt d n = true) (ho : o.op = .index t x i) (ht : tyOf ty t = some (.arr m e 1)) (he : scal (tyOf ty e) = true)
    (hx : evl l x = some (.agg cs.toArray)) (hi : evl l i = some (.int k (j : Int))) (hj : j < m) (hv : cs[j]? = some v) (h : WL n ops Q rest ((d, v) :: l) w) : WL n ops Q (o :: rest) l w :=
  WL.step hg hd hn (fun a ha => by
    obtain ⟨hu, hse, -⟩ := TyOk.of tyOk ht
    obtain ⟨ie, hie, hsz⟩ := Option.map_eq_some_iff.1 hse
    have hd : ∃ d, Tryz.prog.underlying e = some d ∧ (match d with | .struct _ | .array _ _ => false | _ => true) = true := by
      cases hq : tyOf ty e with
      | none => rw [hq] at he; cases he
      | some z =>
        rw [hq] at he
        have hz := TyOk.of tyOk hq
        cases z with
        | int k => exact ⟨_, hz, rfl⟩
        | str => exact ⟨_, hz, rfl⟩
        | bool => exact ⟨_, hz, rfl⟩
        | ptr e => exact ⟨_, hz, rfl⟩
        | slice e s => exact ⟨_, hz.1, rfl⟩
        | struct m fs => cases he
        | arr m e s => cases he
    obtain ⟨dd, h1, h2⟩ := hd
    have := run_index_arr (P := Tryz.prog) w t e m dd ie hu hie hsz h1 (by cases dd <;> first | rfl | exact absurd h2 (by simp)) cs.toArray k j hj v (by simpa using hv)
    unfold execOp
    rw [ho]
    simp [ha.eval hx, ha.eval hi, this]) h
section
variable {S : World → Prop} {m fuel : Nat} {listed : Array Bool}
theorem WD.all {oi : Oper} {t e s mm b off : Nat} {x : Operand} (i : Nat) (hi : ops[i]? = some oi) (hs : mayB ops listed i m = true) (hd : oi.dst = some d) (hn : Nat.blt d n = true) (hQ : Passes Q) (hw : wants ops l oi = some true)
    (ho : oi.op = .slice t x none none none) (ht : tyOf ty t = some (.arr mm e s)) (hx : evl l x = some (.pointer (some ⟨b, off, none⟩))) (hS : listed.getD m false = true ∨ S w)
    (h : WD n ops Q S m fuel (listed.setIfInBounds i true) ((d, .slice (some ⟨b, off, none⟩) mm mm) :: l) w) : WD n ops Q S m (fuel + 1) listed l w :=
  WD.first i hi hs hd hn hQ (fun _ ha => .inl ⟨wants_run ha hw, fun _ _ => all_run ho ht (ha.eval hx)⟩) hS h
end
end K
end Go.Proofs.YtlamdhekjlnccaaGreatDoor

/- Blocks are read (chapter 11): the reader's fail, number, take, byte. -/
namespace Go.Proofs.YtlamdhekjlnccaaGreatDoor
open Go.RowKit
namespace K
/-- The reader lies in block rb: what is left, and its error. -/
structure RB (B : Nat) (w : World) (rb : Nat) (l : List Int) (e : Int) : Prop where
  rlt : rb < B
  byt : Byt l
  ex : ∃ sp cap, VBlk 110 w rb [.slice sp l.length cap, .int .i64 e] ∧ SlB (fun b => b < B ∧ b ≠ rb) w (.slice sp l.length cap) l
theorem RB.keep {B : Nat} {w w' : World} {rb : Nat} {l : List Int} {e : Int} (h : RB B w rb l e) {K : Nat → Prop} (hk : Keep K w w') (hK : ∀ b, b < B → K b) : RB B w' rb l e := by
  obtain ⟨sp, cap, h1, h2⟩ := h.ex
  exact ⟨h.rlt, h.byt, sp, cap, h1.keep hk (hK _ h.rlt), h2.keep hk fun b hb => hK b hb.1⟩
theorem RB.mono {B B' : Nat} {w : World} {rb : Nat} {l : List Int} {e : Int} (h : RB B w rb l e) (hB : B ≤ B') : RB B' w rb l e := by
  obtain ⟨sp, cap, h1, h2⟩ := h.ex
  exact ⟨Nat.lt_of_lt_of_le h.rlt hB, h.byt, sp, cap, h1, h2.mono fun b hb => ⟨Nat.lt_of_lt_of_le hb.1 hB, hb.2⟩⟩
/-- Its error becomes another one. -/
theorem RB.setE {B : Nat} {w : World} {rb : Nat} {l : List Int} {e : Int} (h : RB B w rb l e) (x : Int) : RB B (w.setCell ⟨rb, 1, none⟩ (.int .i64 x)) rb l x := by
  obtain ⟨sp, cap, h1, h2⟩ := h.ex
  exact ⟨h.rlt, h.byt, sp, cap, h1.set 1 (.int .i64 x), h2.keep (K := fun b => b ≠ rb) ((Keep.refl _ w).setCell (fun hk => hk rfl) _) fun b hb => hb.2⟩
/-- What is left becomes an end of it. -/
theorem RB.setL {B : Nat} {w : World} {rb : Nat} {l l' : List Int} {e : Int} {v' : Value} (h : RB B w rb l e) (hb : Byt l') (hv : SlB (fun b => b < B ∧ b ≠ rb) w v' l') : RB B (w.setCell ⟨rb, 0, none⟩ v') rb l' e := by
  obtain ⟨sp, cap, h1, h2⟩ := h.ex
  obtain ⟨sp', cap', rfl, -⟩ := hv.sl
  exact ⟨h.rlt, hb, sp', cap', h1.set 0 (.slice sp' l'.length cap'), hv.keep (K := fun b => b ≠ rb) ((Keep.refl _ w).setCell (fun hk => hk rfl) _) fun b hb => hb.2⟩
section
variable {n : Nat} {Q : Exit → Act → World → Prop} {l : Env} {w w' : World} {ops : Array Oper} {o : Oper} {rest : List Oper} {d : Nat}
theorem WL.uptoB {O : Nat → Prop} {t e : Nat} {x hi : Operand} {v : Value} {kk : IntKind} {z : Int} {zs : List Int} {w0 : World} (hg : o.guard = none) (hd : o.dst = some d) (hn : Nat.blt d n = true) (ho : o.op = .slice t x none (some hi) none) (ht : tyOf ty t = some (.slice e 1))
    (hx : evl l x = some v) (hhi : evl l hi = some (.int kk z)) (h0 : 0 ≤ z) (h1 : z ≤ zs.length) (hs : SlB O w0 v zs) (h : ∀ v', SlB O w0 v' (zs.take z.toNat) → WL n ops Q rest ((d, v') :: l) w) : WL n ops Q (o :: rest) l w := by
  have hs0 := hs.sl
  have hlt := hs.lt
  obtain ⟨sp, cap, rfl, hc, hm, hr, hn0⟩ := hs.sl
  refine WL.step hg hd hn (v := sliced sp 0 z.toNat cap 1) (fun a ha => ?_) (h _ ⟨sl_to hs0 (by omega), fun hl0 b o s m c e => ?_⟩)
  · obtain ⟨hu, hsz⟩ := TyOk.of tyOk ht
    have he : Tryz.prog.elem t = e := by simp [Program.elem, hu]
    have hu' : Tryz.prog.underlying t = some (.slice (Tryz.prog.elem t)) := by rw [he]; exact hu
    have hs : (sizeOf e).run Tryz.prog w = .ok 1 w := by
      cases hq : Tryz.prog.info? e with
      | none => rw [hq] at hsz; cases hsz
      | some q => rw [hq] at hsz; simp at hsz; simp [sizeOf, typeInfo, hq, hsz]
    unfold execOp
    rw [ho]
    simp [ha.eval hx, ha.eval hhi, run_sliceAt_slice w t _ _ _ _ hu', run_slice_h w t sp zs.length cap hu' kk z h0 (by omega), he, hs]
  · unfold sliced at e
    injection e with e1 _ _
    cases sp with
    | none => split at e1 <;> cases e1
    | some p =>
      obtain ⟨pb, po, ps⟩ := p
      have := hlt (by rw [List.length_take] at hl0; omega) pb po ps _ _ rfl
      split at e1
      · cases e1; exact this
      · have e2 := congrArg (fun q => q.map Addr.block) e1
        have e3 : ((⟨pb, po, ps⟩ : Addr).add (0 * 1)).block = pb := by unfold Addr.add; split <;> rfl
        simp only [Option.map_some, Option.some.injEq, e3] at e2
        rw [← e2]; exact this
end
section
variable {B rb : Nat} {w : World} {l : List Int} {e : Int}
theorem fail11_any (h : RB B w rb l e) (x : Int) :
    Calls Tryz.prog 72 #[.pointer (some ⟨rb, 0, none⟩), .int .i64 x] w fun r w' => r = .returned (.tuple #[]) ∧ RB B w' rb l (if e = 0 then x else e) ∧ KeepR rb w w' := by
  refine enter (args := [.pointer (some ⟨rb, 0, none⟩), .int .i64 x]) Tryz.func72 rfl Tryz.ntmps72 rfl ?_
  obtain ⟨sp, cap, h1, h2⟩ := h.ex
  refine kgo ?_
  refine WL.load rfl rfl rfl rfl rfl rfl (h1.cell 1 (by simp)) ?_
  by_cases he : e = 0
  · rw [if_pos he]
    refine kgo ?_
    refine WL.store rfl rfl rfl rfl rfl rfl (by kernel_rfl) (h1.cell 1 (by simp)) (h1.free 1) ?_
    refine kgo ?_
    exact WQ.end0 rfl ⟨rfl, h.setE x, KeepR.set _ _ _ _⟩
  · rw [if_neg he]
    refine kgo ?_
    exact WQ.end0 rfl ⟨rfl, h, KeepR.refl _ _⟩
theorem number11r_any (h : RB B w rb l e) :
    Calls Tryz.prog 69 #[.pointer (some ⟨rb, 0, none⟩)] w fun r w' => ∃ (u : Nat) (l' : List Int) (e' : Int), r = .returned (.int .i64 u) ∧ u ≤ 9007199254740992 ∧ RB B w' rb l' e' ∧ KeepR rb w w' ∧ Out rdN l e u l' e' := by
  refine enter (args := [.pointer (some ⟨rb, 0, none⟩)]) Tryz.func69 rfl Tryz.ntmps69 rfl ?_
  obtain ⟨sp, cap, h1, h2⟩ := h.ex
  refine kgo ?_
  refine WL.load rfl rfl rfl rfl rfl rfl (h1.cell 1 (by simp)) ?_
  by_cases he : e = 0
  · subst he
    refine kgo ?_
    refine WL.load rfl rfl rfl rfl rfl rfl (h1.cell 0 (by simp)) ?_
    refine WL.call rfl rfl rfl rfl rfl Tryz.func91 rfl (by kernel_rfl) (readUvarint_any h2.sl h.byt) ?_
    rintro _ _ ⟨rfl, rfl⟩
    refine ⟨_, rfl, ?_⟩
    unfold ruV
    cases hr : rdU l with
    | bad x =>
      have hx := rdUF_bad 10 false l x hr
      refine kgo ?_
      refine WL.call rfl rfl rfl rfl rfl Tryz.func72 rfl (by kernel_rfl) (fail11_any h x) ?_
      rintro _ w2 ⟨rfl, hr2, hk⟩
      refine ⟨_, rfl, ?_⟩
      rw [if_pos rfl] at hr2
      refine kgo ?_
      exact WQ.ret1 rfl rfl ⟨0, l, x, rfl, by omega, hr2, hk, Nat.le_refl _, fun h => absurd rfl h, fun _ => by unfold rdN; rw [hr]; exact ⟨rfl, by omega⟩⟩
    | ok u r =>
      obtain ⟨hcan, hu⟩ := rdU_can h.byt hr
      have hdrop : l.drop (((l.length - r.length : Nat) : Int).toNat) = r := by rw [hcan]; simp
      have hlr : r.length ≤ l.length := by rw [hcan]; simp
      by_cases hbig : 9007199254740992 < u
      · refine kgo ?_
        refine WL.call rfl rfl rfl rfl rfl Tryz.func72 rfl (by kernel_rfl) (fail11_any h 3) ?_
        rintro _ w2 ⟨rfl, hr2, hk⟩
        refine ⟨_, rfl, ?_⟩
        rw [if_pos rfl] at hr2
        refine kgo ?_
        exact WQ.ret1 rfl rfl ⟨0, l, 3, rfl, by omega, hr2, hk, Nat.le_refl _, fun h => absurd rfl h, fun _ => by unfold rdN; rw [hr]; simp only [Rd.bind]; rw [if_pos hbig]; exact ⟨rfl, by omega⟩⟩
      · have e8 : IntKind.i64.wrap (u : Int) = (u : Int) := by rw [IntKind.wrap_i64]; omega
        refine kgo ?_
        refine WL.load rfl rfl rfl rfl rfl rfl (h1.cell 0 (by simp)) ?_
        refine kgo ?_
        refine WL.fromB (z := ((l.length - r.length : Nat) : Int)) rfl rfl rfl rfl rfl rfl rfl (by omega) (by omega) h2 fun v' hv' => ?_
        rw [hdrop] at hv'
        have hv : v'.oneCell' = true := by obtain ⟨_, _, rfl, -⟩ := hv'.sl; rfl
        refine kgo ?_
        refine WL.store rfl rfl rfl rfl rfl hv (by kernel_rfl) (h1.cell 0 (by simp)) (h1.free 0) ?_
        refine kgo ?_
        exact WQ.ret1 rfl rfl ⟨u, r, 0, rfl, by omega, h.setL (by have := h.byt; rw [hcan] at this; exact this.right) hv', KeepR.set _ _ _ _, hlr, fun h => absurd rfl h, fun _ => by unfold rdN; rw [hr]; simp only [Rd.bind]; rw [if_neg hbig]; simp⟩
  · refine kgo ?_
    exact WQ.ret1 rfl rfl ⟨0, l, e, rfl, by omega, h, KeepR.refl _ _, .ofBad he⟩
theorem take_any {n : Nat} (h : RB B w rb l e) (hn : n ≤ 9007199254740992) :
    Calls Tryz.prog 70 #[.pointer (some ⟨rb, 0, none⟩), .int .i64 n] w fun r w' => ∃ (v : Value) (x : List Int) (l' : List Int) (e' : Int), r = .returned v ∧ SlB (fun b => b < B ∧ b ≠ rb) w' v x ∧ Byt x ∧ (e' = 0 → x.length = n) ∧ (e' ≠ 0 → x = []) ∧ RB B w' rb l' e' ∧ KeepR rb w w' ∧ Out (rdX n) l e x l' e' := by
  refine enter (args := [.pointer (some ⟨rb, 0, none⟩), .int .i64 n]) Tryz.func70 rfl Tryz.ntmps70 rfl ?_
  obtain ⟨sp, cap, h1, h2⟩ := h.ex
  have nilB : ∀ w : World, SlB (fun b => b < B ∧ b ≠ rb) w (.slice none 0 0) [] := fun w => ⟨Sl.nil _ _, fun h => by simp at h⟩
  refine kgo ?_
  refine WL.load rfl rfl rfl rfl rfl rfl (h1.cell 1 (by simp)) ?_
  by_cases he : e = 0
  · subst he
    by_cases hs : l.length < n
    · refine kgo ?_
      refine WL.load rfl rfl rfl rfl rfl rfl (h1.cell 0 (by simp)) ?_
      refine kgo ?_
      refine WL.call rfl rfl rfl rfl rfl Tryz.func72 rfl (by kernel_rfl) (fail11_any h 2) ?_
      rintro _ w2 ⟨rfl, hr2, hk⟩
      refine ⟨_, rfl, ?_⟩
      rw [if_pos rfl] at hr2
      obtain ⟨sp2, cap2, h3, -⟩ := hr2.ex
      refine kgo ?_
      refine WL.load rfl rfl rfl rfl rfl rfl (h3.cell 1 (by simp)) ?_
      refine kgo ?_
      exact WQ.ret1 rfl rfl ⟨_, [], l, 2, rfl, nilB _, Byt.nil, fun h => by omega, fun _ => rfl, hr2, hk, Nat.le_refl _, fun h => absurd rfl h, fun _ => by unfold rdX; rw [if_pos hs]; exact ⟨rfl, by omega⟩⟩
    · have htl : (l.take ((n : Int).toNat)) = l.take n := by simp
      have hdl : (l.drop ((n : Int).toNat)) = l.drop n := by simp
      refine kgo ?_
      refine WL.load rfl rfl rfl rfl rfl rfl (h1.cell 0 (by simp)) ?_
      refine kgo ?_
      refine WL.load rfl rfl rfl rfl rfl rfl (h1.cell 1 (by simp)) ?_
      refine kgo ?_
      refine WL.load rfl rfl rfl rfl rfl rfl (h1.cell 0 (by simp)) ?_
      refine kgo ?_
      refine WL.uptoB (z := (n : Int)) rfl rfl rfl rfl rfl rfl rfl (by omega) (by omega) h2 fun v3 hv3 => ?_
      rw [htl] at hv3
      refine kgo ?_
      refine WL.load rfl rfl rfl rfl rfl rfl (h1.cell 0 (by simp)) ?_
      refine kgo ?_
      refine WL.fromB (z := (n : Int)) rfl rfl rfl rfl rfl rfl rfl (by omega) (by omega) h2 fun v' hv' => ?_
      rw [hdl] at hv'
      have hv : v'.oneCell' = true := by obtain ⟨_, _, rfl, -⟩ := hv'.sl; rfl
      refine kgo ?_
      refine WL.store rfl rfl rfl rfl rfl hv (by kernel_rfl) (h1.cell 0 (by simp)) (h1.free 0) ?_
      refine kgo ?_
      exact WQ.ret1 rfl rfl ⟨v3, l.take n, l.drop n, 0, rfl, hv3.keep (K := fun b => b ≠ rb) ((Keep.refl _ w).setCell (fun hk => hk rfl) _) (fun b hb => hb.2), fun c hc => h.byt c (List.mem_of_mem_take hc), fun _ => by rw [List.length_take]; omega, fun h => absurd rfl h,
        h.setL (fun c hc => h.byt c (List.mem_of_mem_drop hc)) hv', KeepR.set _ _ _ _, by rw [List.length_drop]; omega, fun h => absurd rfl h, fun _ => by unfold rdX; rw [if_neg hs]; exact ⟨rfl, rfl, rfl⟩⟩
  · refine kgo ?_
    refine WL.load rfl rfl rfl rfl rfl rfl (h1.cell 1 (by simp)) ?_
    refine kgo ?_
    exact WQ.ret1 rfl rfl ⟨_, [], l, e, rfl, nilB _, Byt.nil, fun h => absurd h he, fun _ => rfl, h, KeepR.refl _ _, Out.ofBad he⟩
theorem byte11_any (h : RB B w rb l e) :
    Calls Tryz.prog 92 #[.pointer (some ⟨rb, 0, none⟩)] w fun r w' => ∃ c l' e', r = .returned (.int .u8 c) ∧ 0 ≤ c ∧ c ≤ 255 ∧ RB B w' rb l' e' ∧ KeepR rb w w' ∧ Out rdB l e c l' e' := by
  refine enter (args := [.pointer (some ⟨rb, 0, none⟩)]) Tryz.func92 rfl Tryz.ntmps92 rfl ?_
  refine kgo ?_
  refine WL.call rfl rfl rfl rfl rfl Tryz.func70 rfl (by kernel_rfl) (take_any (n := 1) h (by omega)) ?_
  rintro _ w2 ⟨v, x, l', e', rfl, hv, hbx, hx1, hx0, hr, hk, ho⟩
  refine ⟨_, rfl, ?_⟩
  have hv0 := hv.sl
  obtain ⟨sp, cap, rfl, -⟩ := hv.sl
  cases x with
  | nil =>
    simp only [List.length_nil] at hv0 hx1
    have hne : e' ≠ 0 := fun h => by have := hx1 h; omega
    refine kgo ?_
    refine WQ.ret1 rfl rfl ⟨0, l', e', rfl, by omega, by omega, hr, hk, ho.len, ho.bad, fun h0 => ?_⟩
    have h1 := ho.ok h0
    unfold rdX at h1
    cases l with
    | nil => simp only [List.length_nil, if_pos (show 0 < 1 by omega)] at h1; exact h1
    | cons a r => rw [if_neg (by simp)] at h1; exact absurd h1.2.2 hne
  | cons c q =>
    have hq : q = [] := by
      have h1 : e' = 0 := Classical.byContradiction fun h => by have := hx0 h; cases this
      have := hx1 h1
      simpa using this
    subst hq
    have hc := hbx c (by simp)
    refine kgo ?_
    refine WL.idxI 0 rfl rfl rfl rfl rfl rfl hv0 rfl rfl (by simp) fun p hp => ?_
    refine WL.load rfl rfl rfl rfl rfl rfl hp ?_
    refine kgo ?_
    refine WQ.ret1 rfl rfl ⟨c, l', e', rfl, hc.1, hc.2, hr, hk, ho.len, ho.bad, fun h0 => ?_⟩
    have h1 := ho.ok h0
    unfold rdX at h1
    cases l with
    | nil => simp only [List.length_nil, if_pos (show 0 < 1 by omega)] at h1; exact h1
    | cons a r =>
      rw [if_neg (by simp)] at h1
      obtain ⟨h2, h3, h4⟩ := h1
      simp at h2 h3
      exact ⟨h2, h3, h4⟩
end
end K
end Go.Proofs.YtlamdhekjlnccaaGreatDoor

/- Blocks (chapter 11): within, blank, nothing, shape. -/
namespace Go.Proofs.YtlamdhekjlnccaaGreatDoor
open Go.RowKit
namespace K
section
variable {T b : Nat} {w w' : World} {e : En} {dc : List Value}
theorem EnAt.setText (h : EnAt T b w e dc) (s : ByteArray) : EnAt T b (w.setCell ⟨b, 1, none⟩ (.string s)) { e with text := s } dc := ⟨h.blk.set 1 (.string s), h.dl, h.hl⟩
theorem EnAt.setTable (h : EnAt T b w e dc) (x : Int) : EnAt T b (w.setCell ⟨b, 2, none⟩ (.int .i64 x)) { e with table := x } dc := ⟨h.blk.set 2 (.int .i64 x), h.dl, h.hl⟩
theorem EnAt.setDoc (h : EnAt T b w e dc) (x : Int) : EnAt T b (w.setCell ⟨b, 3, none⟩ (.int .i64 x)) { e with doc := x } dc := ⟨h.blk.set 3 (.int .i64 x), h.dl, h.hl⟩
theorem EnAt.setVer (h : EnAt T b w e dc) (x : Int) : EnAt T b (w.setCell ⟨b, 4, none⟩ (.int .i64 x)) { e with ver := x } dc := ⟨h.blk.set 4 (.int .i64 x), h.dl, h.hl⟩
theorem EnAt.setGone (h : EnAt T b w e dc) (g : Bool) : EnAt T b (w.setCell ⟨b, 43, none⟩ (.bool g)) { e with gone := g } dc := by
  refine ⟨?_, h.dl, h.hl⟩
  have := h.blk.set 43 (.bool g)
  have e1 : (enC e dc).set 43 (.bool g) = enC { e with gone := g } dc := by
    have h1 : enC e dc = (.int .i64 e.kind :: .string e.text :: .int .i64 e.table :: .int .i64 e.doc :: .int .i64 e.ver :: (dc ++ hashC e.hash)) ++ [.bool e.gone, .int .i64 e.ab, .int .i64 e.ae] := by simp [enC]
    have h2 : (Value.int IntKind.i64 e.kind :: .string e.text :: .int .i64 e.table :: .int .i64 e.doc :: .int .i64 e.ver :: (dc ++ hashC e.hash)).length = 43 := by simp [h.dl, h.hl]
    rw [h1, List.set_append_right _ _ (by omega), h2]
    simp [enC]
  rwa [e1] at this
theorem EnAt.setData (h : EnAt T b w e dc) {m : List Value} {off : Nat} (v : V) (hm : m.length = 6) (ho : off = 5) : EnAt T b (w.setRow b ((enC e dc).take off ++ m ++ (enC e dc).drop (off + 6)).toArray) { e with data := v } m := by
  subst ho
  refine ⟨?_, hm, h.hl⟩
  have := h.blk.setRow ((enC e dc).take 5 ++ m ++ (enC e dc).drop (5 + 6))
  have e1 : (enC e dc).take 5 ++ m ++ (enC e dc).drop (5 + 6) = enC { e with data := v } m := by
    have : (enC e dc).drop 11 = hashC e.hash ++ [.bool e.gone, .int .i64 e.ab, .int .i64 e.ae] := by
      unfold enC
      simp only [List.drop_succ_cons]
      rw [List.drop_append, List.drop_eq_nil_of_le (by rw [h.dl]; omega), h.dl]
      simp
    rw [this]
    simp [enC]
  rw [e1] at this ⊢
  exact this
theorem EnAt.setHash (h : EnAt T b w e dc) {hh : List Int} {off : Nat} (hl : hh.length = 32) (ho : off = 11) : EnAt T b (w.setRow b ((enC e dc).take off ++ hashC hh ++ (enC e dc).drop (off + 32)).toArray) { e with hash := hh } dc := by
  subst ho
  refine ⟨?_, h.dl, hl⟩
  have := h.blk.setRow ((enC e dc).take 11 ++ hashC hh ++ (enC e dc).drop (11 + 32))
  have e1 : (enC e dc).take 11 ++ hashC hh ++ (enC e dc).drop (11 + 32) = enC { e with hash := hh } dc := by
    have h1 : enC e dc = (.int .i64 e.kind :: .string e.text :: .int .i64 e.table :: .int .i64 e.doc :: .int .i64 e.ver :: dc) ++ (hashC e.hash ++ [.bool e.gone, .int .i64 e.ab, .int .i64 e.ae]) := by simp [enC]
    have h2 : (Value.int IntKind.i64 e.kind :: .string e.text :: .int .i64 e.table :: .int .i64 e.doc :: .int .i64 e.ver :: dc).length = 11 := by simp [h.dl]
    have h3 : (hashC e.hash).length = 32 := by simp [h.hl]
    rw [h1, List.take_append_of_le_length (by omega), ← h2, List.take_length, List.drop_append, List.drop_eq_nil_of_le (by omega)]
    rw [Nat.add_sub_cancel_left, ← h3, List.drop_left']
    · simp [enC]
    · rfl
  rw [e1] at this ⊢
  exact this
theorem EnAt.setAt (h : EnAt T b w e dc) {off : Nat} (x y : Int) (ho : off = 44) : EnAt T b (w.setRow b ((enC e dc).take off ++ [Value.int .i64 x, .int .i64 y] ++ (enC e dc).drop (off + 2)).toArray) { e with ab := x, ae := y } dc := by
  subst ho
  refine ⟨?_, h.dl, h.hl⟩
  have := h.blk.setRow ((enC e dc).take 44 ++ [Value.int .i64 x, .int .i64 y] ++ (enC e dc).drop (44 + 2))
  have e1 : (enC e dc).take 44 ++ [Value.int .i64 x, .int .i64 y] ++ (enC e dc).drop (44 + 2) = enC { e with ab := x, ae := y } dc := by
    have h1 : enC e dc = (.int .i64 e.kind :: .string e.text :: .int .i64 e.table :: .int .i64 e.doc :: .int .i64 e.ver :: (dc ++ (hashC e.hash ++ [.bool e.gone]))) ++ [.int .i64 e.ab, .int .i64 e.ae] := by simp [enC]
    have h2 : (Value.int IntKind.i64 e.kind :: .string e.text :: .int .i64 e.table :: .int .i64 e.doc :: .int .i64 e.ver :: (dc ++ (hashC e.hash ++ [.bool e.gone]))).length = 44 := by simp [h.dl, h.hl]
    rw [h1, List.take_append_of_le_length (by omega), ← h2, List.take_length, List.drop_eq_nil_of_le (by simp; omega)]
    simp [enC]
  rw [e1] at this ⊢
  exact this
end
theorem within_any (n lo hi : Int) (w : World) : Calls Tryz.prog 31 #[.int .i64 n, .int .i64 lo, .int .i64 hi] w fun e w' => e = .returned (.bool (decide (lo ≤ n ∧ n ≤ hi))) ∧ w' = w := by
  refine enter (args := [.int .i64 n, .int .i64 lo, .int .i64 hi]) Tryz.func31 rfl Tryz.ntmps31 rfl ?_
  by_cases h1 : lo ≤ n
  · by_cases h2 : n ≤ hi
    · refine kgo ?_
      exact WQ.ret1 rfl rfl ⟨by rw [decide_eq_true ⟨h1, h2⟩], rfl⟩
    · refine kgo ?_
      exact WQ.ret1 rfl rfl ⟨by rw [decide_eq_false fun h => h2 h.2], rfl⟩
  · refine kgo ?_
    exact WQ.ret1 rfl rfl ⟨by rw [decide_eq_false fun h => h1 h.1], rfl⟩
theorem zV_ext {v : V} (h1 : v.k = 0) (h2 : v.n = 0) (h3 : v.s = 0) (h4 : v.t.size = 0) (h5 : v.names.length = 0) (h6 : v.kids.length = 0) : v = zV :=
  V.ext' h1 h2 h3 (noT_of h4) (List.eq_nil_of_length_eq_zero h5) (List.eq_nil_of_length_eq_zero h6)
theorem txt_empty (s : ByteArray) : (s.toList == (ByteArray.mk #[]).toList) = decide (s.size = 0) := by
  have h0 : (ByteArray.mk #[]).toList = [] := by decide +kernel
  have hl : s.toList.length = s.size := by rw [ByteArray.toList_eq]; rfl
  rw [h0]
  cases h : s.toList with
  | nil => rw [h] at hl; simp at hl; simp [← hl]
  | cons a r => rw [h] at hl; simp at hl; simp [← hl]
theorem blank_any {f : Nat} {w : World} {v : V} {cs : List Value} (h : IsV f w v cs) :
    Calls Tryz.prog 79 #[.agg cs.toArray] w fun e w' => (∃ b, e = .returned (.bool b) ∧ (b = true ↔ v = zV)) ∧ Below w.heap.size w w' := by
  cases f with
  | zero => exact h.elim
  | succ f =>
  obtain ⟨sn, sk, rfl, -, -, -, -, ⟨np, nc, rfl, -⟩, ⟨kp, kc, rfl, -⟩⟩ := h
  refine enter (args := [.agg (six v (.slice np v.names.length nc) (.slice kp v.kids.length kc)).toArray]) Tryz.func79 rfl Tryz.ntmps79 rfl ?_
  refine kgo ?_
  refine WL.box rfl rfl rfl rfl rfl fun g w1 hf => ?_
  have hf' : Fresh w g w1 41 (six v (.slice np v.names.length nc) (.slice kp v.kids.length kc)) := hf
  clear hf
  have B := hf'.blk
  have no : ¬ v = zV → (∃ b, Ending.returned (Value.bool false) = .returned (.bool b) ∧ (b = true ↔ v = zV)) ∧ Below w.heap.size w w1 := fun h => ⟨⟨false, rfl, by simp [h]⟩, hf'.below⟩
  refine kgo ?_
  refine WL.load rfl rfl rfl rfl rfl rfl (B.cell 0 (by simp)) ?_
  by_cases e1 : v.k = 0
  rotate_left
  · refine kgo ?_
    exact WQ.ret1 rfl rfl (no fun e => e1 (by rw [e]; rfl))
  refine kgo ?_
  refine WL.load rfl rfl rfl rfl rfl rfl (B.cell 1 (by simp)) ?_
  by_cases e2 : v.n = 0
  rotate_left
  · refine kgo ?_
    exact WQ.ret1 rfl rfl (no fun e => e2 (by rw [e]; rfl))
  refine kgo ?_
  refine WL.load rfl rfl rfl rfl rfl rfl (B.cell 2 (by simp)) ?_
  by_cases e3 : v.s = 0
  rotate_left
  · refine kgo ?_
    exact WQ.ret1 rfl rfl (no fun e => e3 (by rw [e]; rfl))
  refine kgo ?_
  refine WL.load rfl rfl rfl rfl rfl rfl (B.cell 3 (by simp)) ?_
  refine WL.on rfl rfl ?_
  refine WL.pureAs (.bool (decide (v.t.size = 0))) rfl rfl rfl rfl (congrArg Value.bool (txt_empty v.t)) ?_
  by_cases e4 : v.t.size = 0
  rotate_left
  · refine kgo ?_
    exact WQ.ret1 rfl rfl (no fun e => e4 (by rw [e]; rfl))
  refine kgo ?_
  refine WL.load rfl rfl rfl rfl rfl rfl (B.cell 4 (by simp)) ?_
  by_cases e5 : v.names.length = 0
  rotate_left
  · refine kgo ?_
    exact WQ.ret1 rfl rfl (no fun e => e5 (by rw [e]; rfl))
  refine kgo ?_
  refine WL.load rfl rfl rfl rfl rfl rfl (B.cell 5 (by simp)) ?_
  by_cases e6 : v.kids.length = 0
  rotate_left
  · refine kgo ?_
    exact WQ.ret1 rfl rfl (no fun e => e6 (by rw [e]; rfl))
  refine kgo ?_
  exact WQ.ret1 rfl rfl ⟨⟨true, rfl, ⟨fun _ => zV_ext e1 e2 e3 e4 e5 e6, fun _ => rfl⟩⟩, hf'.below⟩
theorem or_zero {a b : Int} (ha : R64 a) (hb : R64 b) : bits .or .i64 a b = 0 ↔ a = 0 ∧ b = 0 := by
  have key : bits .or .i64 a b = IntKind.i64.wrap ((BitVec.ofInt 64 a ||| BitVec.ofInt 64 b).toNat : Int) := rfl
  have wz : ∀ n : Nat, n < 18446744073709551616 → (IntKind.i64.wrap (n : Int) = 0 ↔ n = 0) := fun n hn => by rw [IntKind.wrap_i64]; omega
  have z : ∀ x : Int, R64 x → (BitVec.ofInt 64 x = 0#64 ↔ x = 0) := fun x hx => by
    constructor
    · intro h
      have := congrArg BitVec.toNat h
      rw [BitVec.toNat_ofInt] at this
      simp at this
      omega
    · rintro rfl; rfl
  rw [key, wz _ (BitVec.isLt _), ← z a ha, ← z b hb, ← BitVec.or_eq_zero_iff]
  constructor
  · intro h; exact BitVec.eq_of_toNat_eq (by rw [h]; rfl)
  · intro h; rw [h]; rfl
theorem or_r64 (a b : Int) : R64 (bits .or .i64 a b) := by
  have key : bits .or .i64 a b = IntKind.i64.wrap ((BitVec.ofInt 64 a ||| BitVec.ofInt 64 b).toNat : Int) := rfl
  rw [key, IntKind.wrap_i64]
  omega
end K
end Go.Proofs.YtlamdhekjlnccaaGreatDoor

/- Walks over the slots that are asked for: copy onto a part of a block. -/
namespace Go.Proofs.YtlamdhekjlnccaaGreatDoor
open Go.RowKit
namespace K
variable {n : Nat} {Q : Exit → Act → World → Prop} {l : Env} {w w' : World} {ops : Array Oper} {o : Oper} {rest : List Oper} {d : Nat}
theorem copy_run {v : Value} {x : List Int} {b off m T : Nat} {cs : List Value} (ty' : Nat) (hb : VBlk T w b cs) (hs : Sl .u8 w v x) (hx : x.length ≤ m) (hfit : off + m ≤ cs.length) :
    (Builtin.copy_ #[69, 69] ty' #[.slice (some ⟨b, off, none⟩) m m, v]).run Tryz.prog w = .ok (.int .i64 x.length) (w.setRow b (cs.take off ++ x.map (Value.int .u8) ++ cs.drop (off + x.length)).toArray) := by
  have hsz : (Tryz.prog.info? 5).map (·.size) = some 1 := by kernel_rfl
  obtain ⟨sp, cap, rfl, h1, h2, h3, h4⟩ := hs
  rcases Nat.eq_zero_or_pos x.length with h0 | h0
  · obtain rfl := List.eq_nil_of_length_eq_zero h0
    have hself : w.setRow b (cs.take off ++ ([] : List Int).map (Value.int .u8) ++ cs.drop (off + ([] : List Int).length)).toArray = w := by
      simp only [List.map_nil, List.append_nil, List.length_nil, Nat.add_zero, List.take_append_drop]
      exact setRow_self w b cs.toArray T (0, 0) hb
    rw [hself]
    cases sp with
    | none =>
      obtain rfl := h4 rfl
      have := run_copy_nil Tryz.prog w 69 69 ty' 5 ⟨b, off, none⟩ m m Tryz.underlying69 (by rw [hsz]; rfl)
      simp only [List.length_nil]
      rw [this]
      have e0 : ((0 : Nat) : Int) = 0 := rfl
      rw [e0, goInt]
    | some p =>
      have := run_copy_row Tryz.prog w 69 69 ty' 5 b off m m p 0 cap cs.toArray T [] Tryz.underlying69 hsz hb (by simp) (by simp) (by simp; omega) (by simp)
      have hself2 : w.setRow b (cs.toArray.toList.take off ++ [] ++ cs.toArray.toList.drop (off + ([] : List Value).length)).toArray = w := by
        simp only [List.append_nil, List.length_nil, Nat.add_zero, List.take_append_drop]
        exact setRow_self w b cs.toArray T (0, 0) hb
      rw [hself2] at this
      exact this
  · obtain ⟨b2, o2, rfl, hlt, hr⟩ := h3 h0
    have := run_copy_row Tryz.prog w 69 69 ty' 5 b off m m ⟨b2, o2, none⟩ x.length cap cs.toArray T (x.map (Value.int .u8)) Tryz.underlying69 hsz hb (by rw [List.length_map]; exact (Nat.min_eq_left hx).symm)
      (fun j v hj => by
        rw [List.getElem?_map] at hj
        obtain ⟨z, hz, rfl⟩ := Option.map_eq_some_iff.1 hj
        have hjl : j < x.length := by
          rcases Nat.lt_or_ge j x.length with h | h
          · exact h
          · rw [List.getElem?_eq_none h] at hz; cases hz
        have := hr.at j hjl
        have e1 : (⟨b2, o2, none⟩ : Addr).add j = ⟨b2, o2 + j, none⟩ := by unfold Addr.add; split <;> simp_all
        rw [e1, this]
        have : nth x j = z := by unfold nth; rw [List.getD_eq_getElem?_getD, hz]; rfl
        rw [this])
      (by simp only [List.length_map, List.size_toArray]; omega) (Ones.int _ _)
    refine this.trans ?_
    simp only [List.length_map]
    rfl
theorem WL.copy {x y : Operand} {v : Value} {z : List Int} {b off m T : Nat} {cs : List Value} (hg : o.guard = none) (hd : o.dst = some d) (hn : Nat.blt d n = true)
    (ho : o.op = .call { callee := .builtin .copy, args := #[x, y], argTypes := #[69, 69] }) (hx : evl l x = some (.slice (some ⟨b, off, none⟩) m m)) (hy : evl l y = some v) (hs : Sl .u8 w v z) (hz : z.length ≤ m) (hb : VBlk T w b cs) (hfit : off + m ≤ cs.length)
    (h : WL n ops Q rest ((d, .int .i64 z.length) :: l) (w.setRow b (cs.take off ++ z.map (Value.int .u8) ++ cs.drop (off + z.length)).toArray)) : WL n ops Q (o :: rest) l w := by
  have hr := copy_run o.type hb hs hz hfit
  refine WL.step hg hd hn (fun a ha => ?_) h
  unfold execOp
  simp only [ho, resolve, invoke, builtin, Sem.run_bind, Sem.run_pure, Result.andThen_ok, List.map_toArray, List.map_cons, List.map_nil, ha.eval hx, ha.eval hy, hr]
end K
end Go.Proofs.YtlamdhekjlnccaaGreatDoor

/- Blocks are read (chapter 11): an entry. -/
namespace Go.Proofs.YtlamdhekjlnccaaGreatDoor
open Go.RowKit
namespace K
section
variable {T b : Nat} {w w' : World} {e : En} {dc : List Value}
theorem EnAt.setKind (h : EnAt T b w e dc) (x : Int) : EnAt T b (w.setCell ⟨b, 0, none⟩ (.int .i64 x)) { e with kind := x } dc := ⟨h.blk.set 0 (.int .i64 x), h.dl, h.hl⟩
theorem enC_split (h : EnAt T b w e dc) : enC e dc = (.int .i64 e.kind :: .string e.text :: .int .i64 e.table :: .int .i64 e.doc :: .int .i64 e.ver :: (dc ++ hashC e.hash)) ++ [.bool e.gone, .int .i64 e.ab, .int .i64 e.ae] ∧
    (Value.int IntKind.i64 e.kind :: .string e.text :: .int .i64 e.table :: .int .i64 e.doc :: .int .i64 e.ver :: (dc ++ hashC e.hash)).length = 43 := ⟨by simp [enC], by simp [h.dl, h.hl]⟩
theorem EnAt.setAb (h : EnAt T b w e dc) (x : Int) : EnAt T b (w.setCell ⟨b, 44, none⟩ (.int .i64 x)) { e with ab := x } dc := by
  refine ⟨?_, h.dl, h.hl⟩
  have := h.blk.set 44 (.int .i64 x)
  obtain ⟨h1, h2⟩ := enC_split h
  have e1 : (enC e dc).set 44 (.int .i64 x) = enC { e with ab := x } dc := by
    rw [h1, List.set_append_right _ _ (by omega), h2]
    simp [enC]
  rwa [e1] at this
theorem EnAt.setAe (h : EnAt T b w e dc) (x : Int) : EnAt T b (w.setCell ⟨b, 45, none⟩ (.int .i64 x)) { e with ae := x } dc := by
  refine ⟨?_, h.dl, h.hl⟩
  have := h.blk.set 45 (.int .i64 x)
  obtain ⟨h1, h2⟩ := enC_split h
  have e1 : (enC e dc).set 45 (.int .i64 x) = enC { e with ae := x } dc := by
    rw [h1, List.set_append_right _ _ (by omega), h2]
    simp [enC]
  rwa [e1] at this
theorem EnAt.copyHash (h : EnAt T b w e dc) {x : List Int} (hx : x.length = 32 ∨ x = []) : EnAt T b (w.setRow b ((enC e dc).take 11 ++ x.map (Value.int .u8) ++ (enC e dc).drop (11 + x.length)).toArray) { e with hash := if x = [] then e.hash else x } dc := by
  rcases hx with hx | rfl
  · have hne : ¬ x = [] := fun h => by rw [h] at hx; cases hx
    rw [if_neg hne, hx]
    exact h.setHash hx rfl
  · simp only [List.map_nil, List.append_nil, List.length_nil, Nat.add_zero, List.take_append_drop, if_pos]
    exact ⟨h.blk.setRow _, h.dl, h.hl⟩
end
/-- The reader in block rb, the entry in block g. -/
structure ESt (B rb g : Nat) (w0 w : World) (l : List Int) (e : Int) (en : En) (dc : List Value) : Prop where
  r : RB B w rb l e
  a : EnAt 45 g w en dc
  k : KeepR rb w0 w
theorem ESt.call {B rb g : Nat} {w0 w w' : World} {l l' : List Int} {e e' : Int} {en : En} {dc : List Value} (h : ESt B rb g w0 w l e en dc) (hB : B ≤ g) (hr : RB B w' rb l' e') (hk : KeepR rb w w') : ESt B rb g w0 w' l' e' en dc :=
  ⟨hr, h.a.keep hk ⟨h.a.blk.lt, by have := h.r.rlt; omega⟩, h.k.trans hk⟩
theorem ESt.put {B rb g : Nat} {w0 w w' : World} {l : List Int} {e : Int} {en en' : En} {dc dc' : List Value} (h : ESt B rb g w0 w l e en dc) (hB : B ≤ g) (hg : w0.heap.size ≤ g) (ha : EnAt 45 g w' en' dc') (hk : ∀ K : Nat → Prop, ¬ K g → Keep K w w') :
    ESt B rb g w0 w' l e en' dc' := ⟨h.r.keep (hk (· ≠ g) (fun h => h rfl)) (fun b hb => by omega), ha, Keep.trans h.k (hk _ (fun h => by omega))⟩
theorem cellK (w : World) (g i : Nat) (v : Value) (K : Nat → Prop) (h : ¬ K g) : Keep K w (w.setCell ⟨g, i, none⟩ v) := (Keep.refl _ w).setCell h v
theorem rowK (w : World) (g : Nat) (v : Array Value) (K : Nat → Prop) (h : ¬ K g) : Keep K w (w.setRow g v) := Keep.setRow (Keep.refl _ w) h v
theorem ESt.below {B rb g : Nat} {w0 w w' : World} {l : List Int} {e : Int} {en : En} {dc : List Value} (h : ESt B rb g w0 w l e en dc) (hB : B ≤ g) (hk : Below w.heap.size w w') : ESt B rb g w0 w' l e en dc :=
  ⟨h.r.keep (Keep.of_below hk) (fun b hb => by have := h.a.blk.lt; omega), h.a.below hk, h.k.trans (KeepR.below hk)⟩
theorem enC_one {e : En} {dc : List Value} (h1 : Ones dc) : Ones (enC e dc) := by
  intro u hu
  unfold enC at hu
  simp only [List.mem_cons, List.mem_append, List.not_mem_nil, or_false] at hu
  rcases hu with rfl | rfl | rfl | rfl | rfl | hu | hu | rfl | rfl | rfl
  all_goals first | rfl | exact h1 u hu | exact Ones.int _ _ u hu
/-- An entry that is read takes a byte at least. -/
def OutE (l : List Int) (e : Int) (en : En) (l' : List Int) (e' : Int) : Prop := Out rdE l e en l' e' ∧ (e' = 0 → l'.length < l.length)
/-- What entry promises. -/
def EntPost (B rb : Nat) (w : World) (l : List Int) (e : Int) (r : Ending) (w' : World) : Prop :=
  ∃ en cs l' e', r = .returned (.agg cs.toArray) ∧ IsEo (fun b => w.heap.size ≤ b) 17 w' en cs ∧ RB B w' rb l' e' ∧ KeepR rb w w' ∧ OutE l e en l' e' ∧ (e' = 0 → (encV 16 en.data).length ≤ 65536)
theorem rdE_out {l l1 l2 l3 l4 l5 l6 l7 l8 l9 x : List Int} {e e1 e2 e3 e4 e5 e6 e7 e8 e9 c : Int} {t d v n a b : Nat} {en : En} (h1 : Out rdB l e c l1 e1) (h2 : Out rdN l1 e1 t l2 e2) (h3 : Out rdN l2 e2 d l3 e3) (h4 : Out rdN l3 e3 v l4 e4)
    (h5 : Out rdN l4 e4 n l5 e5) (h6 : Out (rdX n) l5 e5 x l6 e6) (h7 : Out rdN l6 e6 a l7 e7) (h8 : Out rdN l7 e7 b l8 e8)
    (h9 : Out (fun r => if c = 2 then (rdX 32 r).bind fun h r => rdD ⟨c, bytS x, t, d, v, zV, h, false, a, b⟩ r else .ok ⟨c, bytS x, t, d, v, zV, Dig.Z32, false, a, b⟩ r) l8 e8 en l9 e9) : OutE l e en l9 e9 := by
  refine ⟨?_, fun h0 => ?_⟩
  rotate_left
  · have a1 := h1.len; have a2 := h2.len; have a3 := h3.len; have a4 := h4.len; have a5 := h5.len; have a6 := h6.len; have a7 := h7.len; have a8 := h8.len; have a9 := h9.len
    have b1 := h1.bad; have b2 := h2.bad; have b3 := h3.bad; have b4 := h4.bad; have b5 := h5.bad; have b6 := h6.bad; have b7 := h7.bad; have b8 := h8.bad; have b9 := h9.bad
    have he1 : e1 = 0 := by omega
    have he : e = 0 := by omega
    have := h1.ok he
    cases l with
    | nil => unfold rdB at this; exact absurd (this.1.symm.trans he1) this.2
    | cons q r => unfold rdB at this; rw [this.2.1] at a2; simp only [List.length_cons]; omega
  refine Out.bind (f := rdB) h1 ?_
  refine Out.bind (f := rdN) h2 ?_
  refine Out.bind (f := rdN) h3 ?_
  refine Out.bind (f := rdN) h4 ?_
  refine Out.bind (f := rdN) h5 ?_
  refine Out.bind (f := rdX n) h6 ?_
  refine Out.bind (f := rdN) h7 ?_
  refine Out.bind (f := rdN) h8 ?_
  exact h9
theorem bytS_size (x : List Int) : (bytS x).size = x.length := by
  show (x.map fun c => UInt8.ofNat c.toNat).toArray.size = _
  simp
theorem take_len {n : Nat} {l l' x : List Int} {e e' : Int} (ho : Out (rdX n) l e x l' e') (h0 : e' ≠ 0 → x = []) : x.length ≤ l.length := by
  by_cases h : e' = 0
  · by_cases h1 : e = 0
    · have := ho.ok h1
      unfold rdX at this
      by_cases h2 : l.length < n
      · rw [if_pos h2] at this; exact absurd (this.1.symm.trans h) this.2
      · rw [if_neg h2] at this; rw [this.1, List.length_take]; omega
    · exact absurd ((ho.bad h1).symm.trans h) h1
  · rw [h0 h]; simp
set_option maxHeartbeats 8000000 in
theorem entry_any {B rb : Nat} {w : World} {l : List Int} {e : Int} (h : RB B w rb l e) (hB : B ≤ w.heap.size) (hL : l.length ≤ 140737488355328) :
    Calls Tryz.prog 71 #[.pointer (some ⟨rb, 0, none⟩)] w (EntPost B rb w l e) := by
  refine enter (args := [.pointer (some ⟨rb, 0, none⟩)]) Tryz.func71 rfl Tryz.ntmps71 rfl ?_
  refine kgo ?_
  refine WL.alloc (z := .agg (enC noE zCells).toArray) rfl rfl rfl rfl (fun _ => by kernel_rfl) fun g w1 hf => ?_
  have hf' : Fresh w g w1 45 (enC noE zCells) := hf
  clear hf
  have hg := hf'.eq
  have hBg : B ≤ g := by omega
  have hgw : w.heap.size ≤ g := by omega
  have s1 : ESt B rb g w w1 l e noE zCells := ⟨h.keep (Keep.of_below hf'.below) fun b hb => Nat.lt_of_lt_of_le hb hB, ⟨hf'.blk, rfl, rfl⟩, KeepR.below hf'.below⟩
  clear hf'
  refine kgo ?_
  refine WL.call rfl rfl rfl rfl rfl Tryz.func92 rfl (by kernel_rfl) (byte11_any s1.r) ?_
  rintro _ w2 ⟨c, l1, e1, rfl, hc0, hc1, hr2, hk2, ho1⟩
  refine ⟨_, rfl, ?_⟩
  have s2 := s1.call hBg hr2 hk2
  clear hr2 hk2 s1
  refine kgo ?_
  refine WL.store (v := .int .i64 c) rfl rfl rfl rfl rfl rfl (by kernel_rfl) s2.a.kind (s2.a.blk.free 0) ?_
  have s3 := s2.put hBg hgw (s2.a.setKind c) (cellK _ _ _ _)
  generalize w2.setCell ⟨g, 0, none⟩ (.int .i64 c) = w3 at s3 ⊢
  clear s2
  refine kgo ?_
  refine WL.call rfl rfl rfl rfl rfl Tryz.func69 rfl (by kernel_rfl) (number11r_any s3.r) ?_
  rintro _ w4 ⟨u2, l2, e2, rfl, hu2, hr, hk, ho2⟩
  refine ⟨_, rfl, ?_⟩
  have s4 := s3.call hBg hr hk
  clear hr hk s3
  refine kgo ?_
  refine WL.call rfl rfl rfl rfl rfl Tryz.func69 rfl (by kernel_rfl) (number11r_any s4.r) ?_
  rintro _ w5 ⟨u3, l3, e3, rfl, hu3, hr, hk, ho3⟩
  refine ⟨_, rfl, ?_⟩
  have s5 := s4.call hBg hr hk
  clear hr hk s4
  refine kgo ?_
  refine WL.call rfl rfl rfl rfl rfl Tryz.func69 rfl (by kernel_rfl) (number11r_any s5.r) ?_
  rintro _ w6 ⟨u4, l4, e4, rfl, hu4, hr, hk, ho4⟩
  refine ⟨_, rfl, ?_⟩
  have s6 := s5.call hBg hr hk
  clear hr hk s5
  refine kgo ?_
  refine WL.store (v := .int .i64 u2) rfl rfl rfl rfl rfl rfl (by kernel_rfl) s6.a.table (s6.a.blk.free 2) ?_
  have s7 := s6.put hBg hgw (s6.a.setTable u2) (cellK _ _ _ _)
  generalize w6.setCell ⟨g, 2, none⟩ (.int .i64 u2) = w7 at s7 ⊢
  clear s6
  refine kgo ?_
  refine WL.store (v := .int .i64 u3) rfl rfl rfl rfl rfl rfl (by kernel_rfl) s7.a.doc (s7.a.blk.free 3) ?_
  have s8 := s7.put hBg hgw (s7.a.setDoc u3) (cellK _ _ _ _)
  generalize w7.setCell ⟨g, 3, none⟩ (.int .i64 u3) = w8 at s8 ⊢
  clear s7
  refine kgo ?_
  refine WL.store (v := .int .i64 u4) rfl rfl rfl rfl rfl rfl (by kernel_rfl) s8.a.ver (s8.a.blk.free 4) ?_
  have s9 := s8.put hBg hgw (s8.a.setVer u4) (cellK _ _ _ _)
  generalize w8.setCell ⟨g, 4, none⟩ (.int .i64 u4) = w9 at s9 ⊢
  clear s8
  refine kgo ?_
  refine WL.call rfl rfl rfl rfl rfl Tryz.func69 rfl (by kernel_rfl) (number11r_any s9.r) ?_
  rintro _ w10 ⟨u5, l5, e5, rfl, hu5, hr, hk, ho5⟩
  refine ⟨_, rfl, ?_⟩
  have s10 := s9.call hBg hr hk
  clear hr hk s9
  refine kgo ?_
  refine WL.call rfl rfl rfl rfl rfl Tryz.func70 rfl (by kernel_rfl) (take_any s10.r hu5) ?_
  rintro _ w11 ⟨v6, x, l6, e6, rfl, hv6, hbx, hx1, hx0, hr, hk, ho6⟩
  refine ⟨_, rfl, ?_⟩
  have s11 := s10.call hBg hr hk
  clear hr hk s10
  have hl1 := ho1.len
  have hl2 := ho2.len
  have hl3 := ho3.len
  have hl4 := ho4.len
  have hl5 := ho5.len
  have hl6 := ho6.len
  have hxl := take_len ho6 hx0
  have hts : (bytS x).size ≤ 140737488355328 := by rw [bytS_size]; omega
  refine kgo ?_
  refine WL.strOf rfl rfl rfl rfl rfl rfl rfl rfl hv6.sl ?_
  have es : strOfNums x = bytS x := rfl
  rw [es]
  clear es hv6
  refine kgo ?_
  refine WL.store (v := .string (bytS x)) rfl rfl rfl rfl rfl rfl (by kernel_rfl) s11.a.text (s11.a.blk.free 1) ?_
  have s12 := s11.put hBg hgw (s11.a.setText (bytS x)) (cellK _ _ _ _)
  generalize w11.setCell ⟨g, 1, none⟩ (.string (bytS x)) = w12 at s12 ⊢
  clear s11
  refine kgo ?_
  refine WL.call rfl rfl rfl rfl rfl Tryz.func69 rfl (by kernel_rfl) (number11r_any s12.r) ?_
  rintro _ w13 ⟨u7, l7, e7, rfl, hu7, hr, hk, ho7⟩
  refine ⟨_, rfl, ?_⟩
  have s13 := s12.call hBg hr hk
  clear hr hk s12
  refine kgo ?_
  refine WL.call rfl rfl rfl rfl rfl Tryz.func69 rfl (by kernel_rfl) (number11r_any s13.r) ?_
  rintro _ w14 ⟨u8, l8, e8, rfl, hu8, hr, hk, ho8⟩
  refine ⟨_, rfl, ?_⟩
  have s14 := s13.call hBg hr hk
  clear hr hk s13
  refine kgo ?_
  refine WL.store (v := .int .i64 u7) rfl rfl rfl rfl rfl rfl (by kernel_rfl) s14.a.ab (s14.a.blk.free 44) ?_
  have s15 := s14.put hBg hgw (s14.a.setAb u7) (cellK _ _ _ _)
  generalize w14.setCell ⟨g, 44, none⟩ (.int .i64 u7) = w15 at s15 ⊢
  clear s14
  refine kgo ?_
  refine WL.store (v := .int .i64 u8) rfl rfl rfl rfl rfl rfl (by kernel_rfl) s15.a.ae (s15.a.blk.free 45) ?_
  have s16 := s15.put hBg hgw (s15.a.setAe u8) (cellK _ _ _ _)
  generalize w15.setCell ⟨g, 45, none⟩ (.int .i64 u8) = w16 at s16 ⊢
  clear s15
  have hN : ∃ N : En, N = ⟨c, bytS x, u2, u3, u4, zV, Dig.Z32, false, u7, u8⟩ := ⟨_, rfl⟩
  obtain ⟨N, hN⟩ := hN
  have s17 : ESt B rb g w w16 l8 e8 N zCells := by rw [hN]; exact s16
  clear s16
  have hl7 := ho7.len
  have hl8 := ho8.len
  have hO : ∀ {en l9 e9}, Out (fun r => if c = 2 then (rdX 32 r).bind fun h r => rdD ⟨c, bytS x, u2, u3, u4, zV, h, false, u7, u8⟩ r else .ok ⟨c, bytS x, u2, u3, u4, zV, Dig.Z32, false, u7, u8⟩ r) l8 e8 en l9 e9 → OutE l e en l9 e9 := fun h => rdE_out ho1 ho2 ho3 ho4 ho5 ho6 ho7 ho8 h
  have fin : ∀ {w' l9 e9 gn hh dc} {dv : V}, ESt B rb g w w' l9 e9 { N with gone := gn, hash := hh, data := dv } dc → Byt hh → IsVo (fun b => w.heap.size ≤ b ∧ b ≠ g) 17 w' dv dc → OutE l e { N with gone := gn, hash := hh, data := dv } l9 e9 → (e9 = 0 → (encV 16 dv).length ≤ 65536) →
      EntPost B rb w l e (.returned (.agg (enC { N with gone := gn, hash := hh, data := dv } dc).toArray)) (w'.setRow g (enC { N with gone := gn, hash := hh, data := dv } dc).toArray) := by
    intro w' l9 e9 gn hh dc dv s hb hv ho hsm
    have s' := s.put hBg hgw (⟨s.a.blk.setRow _, s.a.dl, s.a.hl⟩ : EnAt _ g _ { N with gone := gn, hash := hh, data := dv } dc) (rowK _ _ _)
    refine ⟨_, _, l9, e9, rfl, ⟨dc, rfl, hv.keep (rowK _ g _ (· ≠ g) (fun h => h rfl)) (fun b hb _ => hb.2) (fun b hb => hb.1), s.a.dl, hv.one, s.a.hl, hb, ?_⟩, s'.r, s'.k, ho, hsm⟩
    subst hN
    exact ⟨hts, by show R64 c; omega, by show R64 (u2 : Int); omega, by show R64 (u3 : Int); omega, by show R64 (u4 : Int); omega, by show R64 (u7 : Int); omega, by show R64 (u8 : Int); omega⟩
  have hNk : N.kind = c := by rw [hN]
  have hNd : N.data = zV := by rw [hN]
  have hNh : N.hash = Dig.Z32 := by rw [hN]
  have hzd : ∀ (O : Nat → Prop) w, IsVo O 17 w N.data zCells := fun O w => by rw [hNd]; exact zV_is _ _ _
  have hzs : (encV 16 N.data).length ≤ 65536 := by rw [hNd]; decide
  have hbz : Byt Dig.Z32 := fun x hx => by have := List.eq_of_mem_replicate hx; omega
  refine kgo ?_
  refine WL.load rfl rfl rfl rfl rfl rfl s17.a.kind ?_
  rw [hNk]
  by_cases k2 : c = 2
  rotate_left
  · refine kgo ?_
    refine WL.loadMid rfl rfl rfl rfl rfl rfl (VBlk.rangeAt s17.a.blk) s17.a.len ?_
    refine WL.storeRow rfl rfl rfl rfl rfl rfl s17.a.blk s17.a.len s17.a.len (enC_one (zV_is (fun _ => True) 0 w).one) ?_
    refine kgo ?_
    exact WQ.retC rfl rfl rfl s17.a.len (s17.a.blk.setRow _) (fin (gn := N.gone) (hh := N.hash) (dv := N.data) s17 (by rw [hNh]; exact hbz) (hzd _ _) (hO (Out.congr (Out.pure N) (by show _ = ite _ _ _; rw [if_neg k2, hN]))) (fun _ => hzs))
  refine kgo ?_
  refine WC.drawn 4 (fun _ => True) fun w18 hd18 => ?_
  have s18 := s17.below hBg (hd18.below _)
  clear s17
  have hS : True := trivial
  (((first | refine WD.free 0 rfl (by kernel_rfl) rfl rfl (fun _ _ _ _ _ h => h) rfl rfl (.inr hS) ?_ | refine WD.skip 0 rfl (by kernel_rfl) rfl rfl (fun _ _ _ _ _ h => h) rfl (.inr hS) ?_); try (first | ((with_reducible refine WD.topT ?_ ?_); omega) | ((with_reducible refine WD.topF ?_ ?_); omega) | ((with_reducible refine WD.top64 ?_ ?_); omega))))
  refine WD.all 1 rfl (by kernel_rfl) rfl rfl (fun _ _ _ _ _ h => h) rfl rfl rfl rfl (.inr hS) ?_
  (((first | refine WD.free 2 rfl (by kernel_rfl) rfl rfl (fun _ _ _ _ _ h => h) rfl rfl (.inr hS) ?_ | refine WD.skip 2 rfl (by kernel_rfl) rfl rfl (fun _ _ _ _ _ h => h) rfl (.inr hS) ?_); try (first | ((with_reducible refine WD.topT ?_ ?_); omega) | ((with_reducible refine WD.topF ?_ ?_); omega) | ((with_reducible refine WD.top64 ?_ ?_); omega))))
  refine WD.one 3 (by kernel_rfl) rfl ?_
  refine WL.call rfl rfl rfl rfl rfl Tryz.func70 rfl (by kernel_rfl) (take_any (n := 32) s18.r (by omega)) ?_
  rintro _ w19 ⟨v9, x9, l9, e9, rfl, hv9, hbx9, hx91, hx90, hr, hk, ho9⟩
  refine ⟨_, rfl, ?_⟩
  have s19 := s18.call hBg hr hk
  clear hr hk s18
  refine WL.nil (WQ.dk (.inr hS) ?_)
  refine WD.one 4 (by kernel_rfl) rfl ?_
  have hx9l : x9.length = 32 ∨ x9 = [] := by
    by_cases h0 : e9 = 0
    · exact .inl (hx91 h0)
    · exact .inr (hx90 h0)
  refine WL.copy rfl rfl rfl rfl rfl rfl hv9.sl (by rcases hx9l with h | rfl; omega; simp) s19.a.blk (by rw [s19.a.len]; omega) ?_
  refine WL.nil (WQ.dk (.inl rfl) ?_)
  refine WD.done (by kernel_rfl) ?_
  have s20 := s19.put hBg hgw (s19.a.copyHash hx9l) (rowK _ _ _)
  have hhe : ∃ hh, hh = if x9 = [] then N.hash else x9 := ⟨_, rfl⟩
  obtain ⟨hh, hhe⟩ := hhe
  rw [← hhe] at s20
  have hbh : Byt hh := by rw [hhe]; split; rw [hNh]; exact hbz; exact hbx9
  show WQ _ _ _ _ (w19.setRow g ((enC N zCells).take 11 ++ x9.map (Value.int .u8) ++ (enC N zCells).drop (11 + x9.length)).toArray)
  generalize w19.setRow g ((enC N zCells).take 11 ++ x9.map (Value.int .u8) ++ (enC N zCells).drop (11 + x9.length)).toArray = w20 at s20 ⊢
  clear s19
  have hl9 := ho9.len
  have hD : ∀ {en l' e'}, Out (rdD { N with hash := hh }) l9 e9 en l' e' → OutE l e en l' e' := by
    intro en l' e' ho
    have : Out (fun r => (rdX 32 r).bind fun h r => rdD ⟨c, bytS x, u2, u3, u4, zV, h, false, u7, u8⟩ r) l8 e8 en l' e' := by
      by_cases h0 : e9 = 0
      · have hx := hx91 h0
        have hh' : hh = x9 := by rw [hhe, if_neg]; rintro rfl; cases hx
        refine Out.bind (f := rdX 32) ho9 ?_
        rw [hh', hN] at ho
        exact ho
      · have h1 := ho.bad h0
        subst h1
        exact Out.stop (f := rdX 32) ho9 h0 ho.len
    exact hO (Out.congr this (by show _ = ite _ _ _; rw [if_pos k2]))
  refine kgo ?_
  refine WL.call rfl rfl rfl rfl rfl Tryz.func92 rfl (by kernel_rfl) (byte11_any s20.r) ?_
  rintro _ w21 ⟨c2, l10, e10, rfl, hc20, hc21, hr, hk, ho10⟩
  refine ⟨_, rfl, ?_⟩
  have s21 := s20.call hBg hr hk
  have hl10 := ho10.len
  clear hr hk s20
  repeat (first | ((with_reducible refine WL.topT ?_ ?_); omega) | ((with_reducible refine WL.topF ?_ ?_); omega) | ((with_reducible refine WL.top64 ?_ ?_); omega) | refine WC.seq ?_ | refine WC.region ?_ | refine WL.nil ?_ | refine WC.skip ?_ | refine WC.exit ?_ | refine WC.ret ?_ | refine WQ.then rfl ?_ | refine WQ.thenExit ?_ | refine WQ.thenRet ?_ | refine WQ.blk ?_ | refine WQ.blkRet ?_ | refine WQ.blkHere rfl ?_ | refine WQ.blkOther rfl ?_ | refine WL.pure rfl rfl rfl rfl ?_ | refine WL.on rfl rfl ?_ | refine WL.off rfl rfl rfl ?_ | refine WL.load rfl rfl rfl rfl rfl rfl (by assumption) ?_ | refine WC.condTrue rfl ?_ | refine WC.condFalse rfl ?_)
  refine WC.mid (fun _ : Bool × V × List Value × List Int × Int => [(2, .pointer (some ⟨g, 0, none⟩))])
    (fun i w' => ESt B rb g w w' i.2.2.2.1 i.2.2.2.2 { N with gone := i.1, hash := hh, data := i.2.1 } i.2.2.1 ∧ IsVo (fun b => w.heap.size ≤ b ∧ b ≠ g) 17 w' i.2.1 i.2.2.1 ∧ OutE l e { N with gone := i.1, hash := hh, data := i.2.1 } i.2.2.2.1 i.2.2.2.2 ∧ (i.2.2.2.2 = 0 → (encV 16 i.2.1).length ≤ 65536)) rfl ?_ ?_
  rotate_left
  · rintro ⟨gn, dv, dc, l30, e30⟩ w30 ⟨s30, hv30, ho30, hs30⟩
    simp only at s30 hv30 ho30 hs30 ⊢
    refine kgo ?_
    refine WL.loadMid rfl rfl rfl rfl rfl rfl (VBlk.rangeAt s30.a.blk) s30.a.len ?_
    refine WL.storeRow rfl rfl rfl rfl rfl rfl s30.a.blk s30.a.len s30.a.len (enC_one hv30.one) ?_
    refine kgo ?_
    exact WQ.retC rfl rfl rfl s30.a.len (s30.a.blk.setRow _) (fin s30 hbh hv30 ho30 hs30)
  by_cases q0 : c2 = 0
  · refine kgo ?_
    refine WL.store (v := .bool true) rfl rfl rfl rfl rfl rfl (by kernel_rfl) s21.a.gone (s21.a.blk.free 43) ?_
    have s22 := s21.put hBg hgw (s21.a.setGone true) (cellK _ _ _ _)
    refine kgo ?_
    exact WQ.meet (true, N.data, zCells, l10, e10) ⟨rfl, trivial⟩ ⟨s22, hzd _ _, hD (ho10.bind (Out.congr (Out.pure _) (by rw [if_pos q0]))), fun _ => hzs⟩
  by_cases q1 : c2 = 1
  rotate_left
  · refine kgo ?_
    refine WL.call rfl rfl rfl rfl rfl Tryz.func72 rfl (by kernel_rfl) (fail11_any s21.r 3) ?_
    rintro _ w22 ⟨rfl, hr, hk⟩
    refine ⟨_, rfl, ?_⟩
    have s22 := s21.call hBg hr hk
    refine kgo ?_
    exact WQ.meet (N.gone, N.data, zCells, l10, _) ⟨rfl, trivial⟩ ⟨s22, hzd _ _, hD (ho10.bind (Out.congr (Out.fail 3 (by omega)) (by rw [if_neg q0, if_neg q1]))), fun _ => hzs⟩
  refine kgo ?_
  refine WL.call rfl rfl rfl rfl rfl Tryz.func69 rfl (by kernel_rfl) (number11r_any s21.r) ?_
  rintro _ w22 ⟨u11, l11, e11, rfl, hu11, hr, hk, ho11⟩
  refine ⟨_, rfl, ?_⟩
  have s22 := s21.call hBg hr hk
  clear hr hk s21
  refine kgo ?_
  refine WL.call rfl rfl rfl rfl rfl Tryz.func70 rfl (by kernel_rfl) (take_any s22.r hu11) ?_
  rintro _ w23 ⟨v12, p, l12, e12, rfl, hv12, hbp, hp1, hp0, hr, hk, ho12⟩
  refine ⟨_, rfl, ?_⟩
  have s23 := s22.call hBg hr hk
  clear hr hk s22
  have hl11 := ho11.len
  have hl12 := ho12.len
  have hpl := take_len ho12 hp0
  have hgl := s23.a.blk.lt
  refine kgo ?_
  refine WL.call rfl rfl rfl rfl rfl Tryz.func93 rfl (by kernel_rfl) (decode_any hv12.sl hbp (by omega)) ?_
  rintro _ w24 ⟨hb24, y, cs, e13, rfl, hv24, hout⟩
  refine ⟨_, rfl, ?_⟩
  have s24 := s23.below hBg hb24
  have hv24' : IsVo (fun b => w.heap.size ≤ b ∧ b ≠ g) 17 w24 y cs := hv24.mono fun b hb => by omega
  have hcs := hv24.len
  clear s23 hv24
  refine kgo ?_
  refine WL.alloc (z := .agg zCells.toArray) rfl rfl rfl rfl (fun _ => by kernel_rfl) fun xb w25 hf3 => ?_
  have hf3' : Fresh w24 xb w25 41 zCells := hf3
  clear hf3
  have hxb := hf3'.eq
  refine kgo ?_
  refine WL.storeRow rfl rfl rfl rfl rfl rfl hf3'.blk hcs rfl hv24'.one ?_
  have hb26 : Below w24.heap.size w24 (w25.setRow xb cs.toArray) := below_setRow hf3'.below (by omega) _
  have hx26 : VBlk 41 (w25.setRow xb cs.toArray) xb cs := hf3'.blk.setRow cs
  generalize w25.setRow xb cs.toArray = w26 at hb26 hx26 ⊢
  clear hf3'
  have hv26 := hv24'.keep (Keep.of_below hb26) (fun b _ h => h) (fun b h => h)
  have s26 := s24.below hBg hb26
  have hgx : g ≠ xb := by have := s24.a.blk.lt; omega
  have hrx : xb ≠ rb := by have := s26.r.rlt; have := s24.a.blk.lt; omega
  clear s24 hv24'
  have hout2 : ∀ {E : Int}, E = (if e12 = 0 ∧ e13 ≠ 0 then 3 else e12) → OutE l e { N with hash := hh, data := y } l12 E := by
    intro E hE
    refine hD (ho10.bind (Out.congr (f := fun r => (rdN r).bind fun n r => (rdX n r).bind fun p r => match readV true p with
      | .ok v _ => .ok { N with hash := hh, data := v } r
      | .bad _ => .bad 3) (ho11.bind (ho12.bind ?_)) (by rw [if_neg q0, if_pos q1] <;> rfl)))
    cases hq : readV true p with
    | ok y2 q2 =>
      rw [hq] at hout
      obtain ⟨rfl, h13⟩ := hout
      rw [hE, if_neg (fun h => h.2 h13)]
      exact Out.pure _
    | bad z =>
      rw [hq] at hout
      obtain ⟨-, rfl, hz⟩ := hout
      have : E = if e12 = 0 then 3 else e12 := by rw [hE]; by_cases h : e12 = 0 <;> simp [h, hz]
      rw [this]
      exact Out.fail 3 (by omega)
  have hsm : ∀ {E : Int}, E = (if e12 = 0 ∧ e13 ≠ 0 then 3 else e12) → E = 0 → (encV 16 y).length ≤ 65536 := by
    intro E hE h0
    cases hq : readV true p with
    | ok y2 q2 =>
      rw [hq] at hout
      obtain ⟨rfl, -⟩ := hout
      obtain ⟨-, h1, h2⟩ := read_can hbp hq
      rw [h1]; exact h2
    | bad z =>
      rw [hq] at hout
      obtain ⟨-, rfl, hz⟩ := hout
      exfalso
      by_cases h : e12 = 0 <;> simp [h, hz] at hE <;> omega
  obtain ⟨sp, cap, hx1, -⟩ := s26.r.ex
  refine kgo ?_
  refine WL.load rfl rfl rfl rfl rfl rfl (hx1.cell 1 (by simp)) ?_
  clear hx1
  by_cases h12 : e12 = 0
  · by_cases h13 : e13 = 0
    · refine kgo ?_
      refine WL.loadMid rfl rfl rfl rfl rfl rfl (VBlk.rangeAt hx26) hcs ?_
      refine kgo ?_
      refine WL.storeMid rfl rfl rfl rfl rfl rfl s26.a.blk hcs (by rw [s26.a.len]; omega) hv26.one ?_
      have s30 := s26.put hBg hgw (s26.a.setData y hcs rfl) (rowK _ _ _)
      refine kgo ?_
      exact WQ.meet (N.gone, y, cs, l12, _) ⟨rfl, trivial⟩ ⟨s30, hv26.keep (rowK _ g _ (· ≠ g) (fun h => h rfl)) (fun b hb _ => hb.2) (fun b hb => hb), hout2 (if_neg (fun h => h.2 h13)).symm, hsm (if_neg (fun h => h.2 h13)).symm⟩
    · refine kgo ?_
      refine WL.call rfl rfl rfl rfl rfl Tryz.func72 rfl (by kernel_rfl) (fail11_any s26.r 3) ?_
      rintro _ w27 ⟨rfl, hr, hk⟩
      refine ⟨_, rfl, ?_⟩
      rw [if_pos h12] at hr
      have s27 := s26.call hBg hr hk
      have hx27 := hx26.keep hk ⟨hx26.lt, hrx⟩
      have hv27 := hv26.there.keep hk (fun b hb _ => ⟨hb.2, by have h1 : w.heap.size ≤ _ := hb.1.1; have := s26.r.rlt; omega⟩) (fun b hb => hb.1)
      refine kgo ?_
      refine WL.loadMid rfl rfl rfl rfl rfl rfl (VBlk.rangeAt hx27) hcs ?_
      refine kgo ?_
      refine WL.storeMid rfl rfl rfl rfl rfl rfl s27.a.blk hcs (by rw [s27.a.len]; omega) hv27.one ?_
      have s30 := s27.put hBg hgw (s27.a.setData y hcs rfl) (rowK _ _ _)
      refine kgo ?_
      exact WQ.meet (N.gone, y, cs, l12, _) ⟨rfl, trivial⟩ ⟨s30, hv27.keep (rowK _ g _ (· ≠ g) (fun h => h rfl)) (fun b hb _ => hb.2) (fun b hb => hb), hout2 (if_pos ⟨h12, h13⟩).symm, hsm (if_pos ⟨h12, h13⟩).symm⟩
  · refine kgo ?_
    refine WL.loadMid rfl rfl rfl rfl rfl rfl (VBlk.rangeAt hx26) hcs ?_
    refine kgo ?_
    refine WL.storeMid rfl rfl rfl rfl rfl rfl s26.a.blk hcs (by rw [s26.a.len]; omega) hv26.one ?_
    have s30 := s26.put hBg hgw (s26.a.setData y hcs rfl) (rowK _ _ _)
    refine kgo ?_
    exact WQ.meet (N.gone, y, cs, l12, _) ⟨rfl, trivial⟩ ⟨s30, hv26.keep (rowK _ g _ (· ≠ g) (fun h => h rfl)) (fun b hb _ => hb.2) (fun b hb => hb), hout2 (if_neg (fun h => h12 h.1)).symm, hsm (if_neg (fun h => h12 h.1)).symm⟩
end K
end Go.Proofs.YtlamdhekjlnccaaGreatDoor

/- Blocks (chapter 11): nothing. -/
namespace Go.Proofs.YtlamdhekjlnccaaGreatDoor
open Go.RowKit
namespace K
theorem addr_eql (a b c d : Int) (W : World) : (binOp .eql 43 (.agg #[.int .i64 a, .int .i64 b]) (.agg #[.int .i64 c, .int .i64 d])).run Tryz.prog W = .ok (.bool (decide (a = c ∧ b = d))) W := by
  have hq : (Tryz.prog.info? 3).map (·.size) = some 1 := by kernel_rfl
  obtain ⟨ie, hie, hsz⟩ := Option.map_eq_some_iff.1 hq
  rw [run_eql_struct, show (10000 : Nat) = (9998 + 1) + 1 from rfl, run_equalIn_agg W (9998 + 1) _ _ _ (by kernel_rfl) (by kernel_rfl)]
  generalize hN : 9998 + 1 = N
  have hf : ∃ f1 f2, (Tryz.prog.fieldsOf 43).toList = [f1, f2] ∧ (f1.name == "_") = false ∧ f1.type = 3 ∧ f1.offset = 0 ∧ (f2.name == "_") = false ∧ f2.type = 3 ∧ f2.offset = 1 :=
    ⟨(Tryz.prog.fieldsOf 43).toList[0]!, (Tryz.prog.fieldsOf 43).toList[1]!, by kernel_rfl, by kernel_rfl, by kernel_rfl, by kernel_rfl, by kernel_rfl, by kernel_rfl, by kernel_rfl⟩
  obtain ⟨f1, f2, hl, n1, t1, o1, n2, t2, o2⟩ := hf
  have hu := Tryz.underlying3
  rw [hl]
  have n1' : f1.name ≠ "_" := by simpa using n1
  have n2' : f2.name ≠ "_" := by simpa using n2
  have hp : ∀ (xs : Array Value) (off : Nat) (v : Value), xs[off]? = some v → (part 3 xs off).run Tryz.prog W = .ok v W := fun xs off v h => by
    unfold part isAgg
    simp [run_underlying hu, h]
  have e1 : (Op.equalIn N 3 (.int .i64 a) (.int .i64 c)).run Tryz.prog W = .ok (a == c) W := by rw [← hN]; exact run_equalIn_int (P := Tryz.prog) W 9998 3 .i64 .i64 a c hu
  have e2 : (Op.equalIn N 3 (.int .i64 b) (.int .i64 d)).run Tryz.prog W = .ok (b == d) W := by rw [← hN]; exact run_equalIn_int (P := Tryz.prog) W 9998 3 .i64 .i64 b d hu
  have p1 := hp #[Value.int .i64 a, .int .i64 b] 0 _ rfl
  have p2 := hp #[Value.int .i64 c, .int .i64 d] 0 _ rfl
  have p3 := hp #[Value.int .i64 a, .int .i64 b] 1 _ rfl
  have p4 := hp #[Value.int .i64 c, .int .i64 d] 1 _ rfl
  simp only [Op.eqFields, if_pos n1', if_pos n2', t1, t2, o1, o2, Sem.run_bind, Sem.run_ite, p1, p2, Result.andThen_ok]
  erw [e1]
  by_cases h1 : a = c
  · subst h1
    simp only [Result.andThen_ok, beq_self_eq_true, Bool.not_true, Bool.false_eq_true, if_false]
    erw [p3]
    simp only [Result.andThen_ok]
    erw [p4]
    simp only [Result.andThen_ok]
    erw [e2]
    by_cases h2 : b = d
    · simp [h2]
    · simp [h2]
  · simp [h1]
theorem addr_guard (x y : Operand) (a b : Array Value) (W : World) : (eqGuard .eql 43 x y (.agg a) (.agg b)).run Tryz.prog W = .ok () W := by
  have h : Tryz.prog.eqGuardType Tryz.prog.depth 43 = false := by kernel_rfl
  simp [eqGuard, h]
section
variable {n : Nat} {Q : Exit → Act → World → Prop} {l : Env} {w w' : World} {ops : Array Oper} {o : Oper} {rest : List Oper} {d : Nat}
theorem WL.eqlA {x y : Operand} {t2 : Nat} {a b a2 b2 : Int} (hg : o.guard = none) (hd : o.dst = some d) (hn : Nat.blt d n = true) (ho : o.op = .binOp .eql 43 x y t2) (hx : evl l x = some (.agg #[.int .i64 a, .int .i64 b])) (hy : evl l y = some (.agg #[.int .i64 a2, .int .i64 b2]))
    (h : WL n ops Q rest ((d, .bool (decide (a = a2 ∧ b = b2))) :: l) w) : WL n ops Q (o :: rest) l w :=
  WL.step hg hd hn (fun c hc => by
    unfold execOp
    rw [ho]
    simp only [hc.eval hx, hc.eval hy, Sem.run_bind, addr_guard, Result.andThen_ok, addr_eql a b a2 b2 w]
    rfl) h
end
theorem nothing_any {f : Nat} {w : World} {e : En} {dc : List Value} (hv : IsV f w e.data dc) (hh : e.hash.length = 32) (hr : R64 e.table ∧ R64 e.doc ∧ R64 e.ver) :
    Calls Tryz.prog 78 #[.agg (enC e dc).toArray] w fun r w' => (∃ b, r = .returned (.bool b) ∧ (b = true ↔ nilE e)) ∧ Below w.heap.size w w' := by
  have hdl := hv.len
  refine enter (args := [.agg (enC e dc).toArray]) Tryz.func78 rfl Tryz.ntmps78 rfl ?_
  refine kgo ?_
  refine WL.box rfl rfl rfl rfl rfl fun g w1 hf => ?_
  have hf' : Fresh w g w1 45 (enC e dc) := hf
  clear hf
  have B : EnAt _ g w1 e dc := ⟨hf'.blk, hdl, hh⟩
  have hw1 := hf'.below
  clear hf'
  have no : ∀ {wx : World}, Below w.heap.size w wx → ¬ nilE e → (∃ b, Ending.returned (Value.bool false) = .returned (.bool b) ∧ (b = true ↔ nilE e)) ∧ Below w.heap.size w wx := fun h1 h => ⟨⟨false, rfl, by simp [h]⟩, h1⟩
  refine kgo ?_
  refine WL.load rfl rfl rfl rfl rfl rfl B.text ?_
  refine WL.pureAs (.bool (decide (e.text.size = 0))) rfl rfl rfl rfl (congrArg Value.bool (txt_empty e.text)) ?_
  by_cases e1 : e.text.size = 0
  rotate_left
  · refine kgo ?_
    exact WQ.ret1 rfl rfl (no hw1 fun h => e1 h.1)
  refine kgo ?_
  refine WL.load rfl rfl rfl rfl rfl rfl B.table ?_
  refine kgo ?_
  refine WL.load rfl rfl rfl rfl rfl rfl B.doc ?_
  refine kgo ?_
  refine WL.load rfl rfl rfl rfl rfl rfl B.ver ?_
  have hor : bits .or .i64 (bits .or .i64 e.table e.doc) e.ver = 0 ↔ (e.table = 0 ∧ e.doc = 0) ∧ e.ver = 0 := by rw [or_zero (or_r64 _ _) hr.2.2, or_zero hr.1 hr.2.1]
  by_cases e2 : bits .or .i64 (bits .or .i64 e.table e.doc) e.ver = 0
  rotate_left
  · refine kgo ?_
    exact WQ.ret1 rfl rfl (no hw1 fun h => e2 (hor.2 ⟨⟨h.2.1, h.2.2.1⟩, h.2.2.2.1⟩))
  obtain ⟨⟨e3, e4⟩, e5⟩ := hor.1 e2
  refine kgo ?_
  refine WL.loadMid rfl rfl rfl rfl rfl rfl B.data hdl ?_
  refine WL.on rfl rfl ?_
  refine WL.call rfl rfl rfl rfl rfl Tryz.func79 rfl (by kernel_rfl) (blank_any (hv.below hw1)) ?_
  rintro _ w2 ⟨⟨b, rfl, hb⟩, hk2⟩
  refine ⟨_, rfl, ?_⟩
  have hw2 : Below w.heap.size w w2 := hw1.trans (hk2.mono hw1.size)
  have B2 := B.below hk2
  cases b with
  | false =>
    refine kgo ?_
    exact WQ.ret1 rfl rfl (no hw2 fun h => by have := hb.2 h.2.2.2.2.1; cases this)
  | true =>
    have e6 := hb.1 rfl
    refine kgo ?_
    refine WL.loadMid rfl rfl rfl rfl rfl rfl B2.hash (by rw [List.length_map]; exact hh) ?_
    refine WL.on rfl rfl ?_
    refine WL.build (hashC Dig.Z32) rfl rfl rfl rfl rfl (by kernel_rfl) ?_
    refine WL.on rfl rfl ?_
    refine WL.eqlH rfl rfl rfl rfl rfl rfl hh rfl ?_
    by_cases e7 : e.hash = Dig.Z32
    rotate_left
    · refine WL.as 26 (.bool false) rfl (congrArg Value.bool (decide_eq_false e7)) ?_
      refine kgo ?_
      exact WQ.ret1 rfl rfl (no hw2 fun h => e7 h.2.2.2.2.2.1)
    refine WL.as 26 (.bool true) rfl (congrArg Value.bool (decide_eq_true e7)) ?_
    refine kgo ?_
    refine WL.load rfl rfl rfl rfl rfl rfl B2.gone ?_
    cases e8 : e.gone with
    | true =>
      refine kgo ?_
      exact WQ.ret1 rfl rfl (no hw2 fun h => by have := h.2.2.2.2.2.2.1; rw [e8] at this; cases this)
    | false =>
      refine kgo ?_
      refine WL.loadMid rfl rfl rfl rfl rfl rfl B2.at' rfl ?_
      refine WL.on rfl rfl ?_
      refine WL.build [.int .i64 0, .int .i64 0] rfl rfl rfl rfl rfl (by kernel_rfl) ?_
      refine WL.on rfl rfl ?_
      refine WL.eqlA rfl rfl rfl rfl rfl rfl ?_
      by_cases e9 : e.ab = 0 ∧ e.ae = 0
      · refine WL.as 37 (.bool true) rfl (congrArg Value.bool (decide_eq_true e9)) ?_
        refine kgo ?_
        exact WQ.ret1 rfl rfl ⟨⟨true, rfl, ⟨fun _ => ⟨e1, e3, e4, e5, e6, e7, e8, e9.1, e9.2⟩, fun _ => rfl⟩⟩, hw2⟩
      · refine WL.as 37 (.bool false) rfl (congrArg Value.bool (decide_eq_false e9)) ?_
        refine kgo ?_
        exact WQ.ret1 rfl rfl (no hw2 fun h => e9 ⟨h.2.2.2.2.2.2.2.1, h.2.2.2.2.2.2.2.2⟩)
end K
end Go.Proofs.YtlamdhekjlnccaaGreatDoor

/- Blocks (chapter 11): shape. -/
namespace Go.Proofs.YtlamdhekjlnccaaGreatDoor
open Go.RowKit
namespace K
def BoolIs (p : Prop) (w : World) (r : Ending) (w' : World) : Prop := (∃ b, r = .returned (.bool b) ∧ (b = true ↔ p)) ∧ Below w.heap.size w w'
theorem BoolIs.no {p : Prop} {w w' : World} (h : ¬ p) (hb : Below w.heap.size w w') : BoolIs p w (.returned (.bool false)) w' := ⟨⟨false, rfl, by simp [h]⟩, hb⟩
theorem BoolIs.of {p q : Prop} {b : Bool} {w w' : World} (hb : Below w.heap.size w w') (h1 : b = true ↔ q) (h2 : p ↔ q) : BoolIs p w (.returned (.bool b)) w' := ⟨⟨b, rfl, h1.trans h2.symm⟩, hb⟩
theorem BoolIs.yes {p : Prop} {w w' : World} (h : p) (hb : Below w.heap.size w w') : BoolIs p w (.returned (.bool true)) w' := ⟨⟨true, rfl, by simp [h]⟩, hb⟩
set_option maxHeartbeats 8000000 in
theorem shape_any {f : Nat} {w : World} {e : En} {cs : List Value} (h : IsE f w e cs) : Calls Tryz.prog 57 #[.agg cs.toArray] w (BoolIs (formE e) w) := by
  obtain ⟨dc, rfl, hv, hdl, hone, hh, hby, htx, hk, hta, hdo, hve, hab, hae⟩ := h
  have hall : EnP (IsV f w) e (enC e dc) := ⟨dc, rfl, hv, hdl, hone, hh, hby, htx, hk, hta, hdo, hve, hab, hae⟩
  refine enter (args := [.agg (enC e dc).toArray]) Tryz.func57 rfl Tryz.ntmps57 rfl ?_
  refine kgo ?_
  refine WL.box rfl rfl rfl rfl rfl fun g w1 hf => ?_
  have hf' : Fresh w g w1 45 (enC e dc) := hf
  clear hf
  have B1 : EnAt _ g w1 e dc := ⟨hf'.blk, hdl, hh⟩
  have hw1 := hf'.below
  have hz1 := hf'.size
  have he1 := hf'.eq
  clear hf'
  refine kgo ?_
  refine WL.load rfl rfl rfl rfl rfl rfl B1.table ?_
  refine WL.call rfl rfl rfl rfl rfl Tryz.func31 rfl (by kernel_rfl) (within_any _ _ _ _) ?_
  rintro _ w1 ⟨rfl, rfl⟩
  refine ⟨_, rfl, ?_⟩
  refine WL.pure rfl rfl rfl rfl ?_
  repeat (first | refine WC.seq ?_ | refine WC.block ?_ | refine WC.region ?_ | refine WL.nil ?_ | refine WC.skip ?_ | refine WC.exit ?_ | refine WC.ret ?_ | refine WQ.then rfl ?_ | refine WQ.thenExit ?_ | refine WQ.thenRet ?_ | refine WQ.blk ?_ | refine WQ.blkRet ?_ | refine WQ.blkHere rfl ?_ | refine WQ.blkOther rfl ?_)
  refine WL.loadMid rfl rfl rfl rfl rfl rfl (VBlk.rangeAt B1.blk) B1.len ?_
  refine WL.alloc (z := .agg (enC noE zCells).toArray) rfl rfl rfl rfl (fun _ => by kernel_rfl) fun c w2 hf2 => ?_
  have hf2' : Fresh w1 c w2 45 (enC noE zCells) := hf2
  clear hf2
  refine WL.storeRow rfl rfl rfl rfl rfl rfl hf2'.blk B1.len (by rfl) hall.one ?_
  have hk3 : Below w1.heap.size w1 (w2.setRow c (enC e dc).toArray) := below_setRow hf2'.below (by rw [hf2'.eq]; exact Nat.le_refl _) _
  have C3 : EnAt 45 c (w2.setRow c (enC e dc).toArray) e dc := ⟨hf2'.blk.setRow _, hdl, hh⟩
  have he2 := hf2'.eq
  clear hf2'
  generalize w2.setRow c (enC e dc).toArray = w3 at hk3 C3
  have B3 := B1.below hk3
  have hw3 : Below w.heap.size w w3 := hw1.trans (hk3.mono (by omega))
  have hgc : g ≠ c := by omega
  have hcw : w.heap.size ≤ c := by omega
  have hv3 := hv.below hw3
  have hd3 := C3.data
  -- a store into the copy
  have stB : ∀ {wx : World} {i : Nat} (u : Value), Below w.heap.size w wx → EnAt 45 g wx e dc → Below w.heap.size w (wx.setCell ⟨c, i, none⟩ u) ∧ EnAt 45 g (wx.setCell ⟨c, i, none⟩ u) e dc := fun {wx i} u h1 h2 =>
    ⟨Keep.below ((Keep.of_below h1).setCell (fun hk => by simp only at hk; omega) _), h2.keep (K := fun b => b ≠ c) ((Keep.refl _ wx).setCell (fun hk => hk rfl) _) hgc⟩
  have stR : ∀ {wx : World} (u : Array Value), Below w.heap.size w wx → EnAt 45 g wx e dc → Below w.heap.size w (wx.setRow c u) ∧ EnAt 45 g (wx.setRow c u) e dc := fun {wx} u h1 h2 =>
    ⟨Keep.below (Keep.setRow (Keep.of_below h1) (fun hk => by omega) _), h2.keep (K := fun b => b ≠ c) (Keep.setRow (Keep.refl _ wx) (fun hk => hk rfl) _) hgc⟩
  refine kgo ?_
  refine WL.load rfl rfl rfl rfl rfl rfl B3.kind ?_
  by_cases k1 : e.kind = 1
  · have hform : formE e ↔ (1 ≤ e.text.size ∧ e.text.size ≤ 4096) ∧ nilE { e with text := noT } := by unfold formE; rw [if_pos k1]; constructor <;> (intro h; simp_all)
    refine kgo ?_
    refine WL.store (v := .string noT) rfl rfl rfl rfl rfl rfl (by kernel_rfl) C3.text (C3.blk.free 1) ?_
    obtain ⟨hw4, B4⟩ := stB (i := 1) (.string noT) hw3 B3
    have C4 := C3.setText noT
    generalize w3.setCell ⟨c, 1, none⟩ (.string noT) = w4 at hw4 B4 C4
    refine kgo ?_
    refine WL.load rfl rfl rfl rfl rfl rfl B4.text ?_
    refine kgo ?_
    refine WL.call rfl rfl rfl rfl rfl Tryz.func31 rfl (by kernel_rfl) (within_any _ _ _ _) ?_
    rintro _ w4 ⟨rfl, rfl⟩
    refine ⟨_, rfl, ?_⟩
    by_cases ht : (1 : Int) ≤ (e.text.size : Int) ∧ (e.text.size : Int) ≤ 4096
    · refine kgo ?_
      refine WL.loadMid rfl rfl rfl rfl rfl rfl (VBlk.rangeAt C4.blk) C4.len ?_
      refine WL.on rfl rfl ?_
      refine WL.call rfl rfl rfl rfl rfl Tryz.func78 rfl (by kernel_rfl) (nothing_any (e := { e with text := noT }) (hv.below hw4) hh ⟨hta, hdo, hve⟩) ?_
      rintro _ w5 ⟨⟨b, rfl, hb⟩, hk5⟩
      refine ⟨_, rfl, ?_⟩
      refine kgo ?_
      exact WQ.ret1 rfl rfl (BoolIs.of (hw4.trans (hk5.mono hw4.size)) hb (hform.trans ⟨fun h => h.2, fun h => ⟨by omega, h⟩⟩))
    · refine kgo ?_
      exact WQ.ret1 rfl rfl (BoolIs.no (fun h => ht (by have := (hform.1 h).1; omega)) hw4)
  by_cases k23 : e.kind = 2 ∨ e.kind = 3
  · have hform : formE e ↔ ((1 ≤ e.table ∧ e.table ≤ 64) ∧ (1 ≤ e.doc ∧ e.doc ≤ 65536)) ∧ ((if e.kind = 3 then 1 else 0) ≤ e.ver ∧ e.ver ≤ 2147483648) ∧ nilE (if e.kind = 2 then { e with data := zV, hash := Dig.Z32, gone := false, table := 0, doc := 0, ver := 0 } else { e with table := 0, doc := 0, ver := 0 }) ∧ (e.gone = true → e.data = zV) := by
      unfold formE
      rw [if_neg k1]
      rcases k23 with k2 | k3
      · rw [if_pos k2, if_pos k2, if_neg (by omega)]
        constructor
        · rintro ⟨a, b, c, d, x⟩; exact ⟨⟨a, b⟩, c, d, x⟩
        · rintro ⟨⟨a, b⟩, c, d, x⟩; exact ⟨a, b, c, d, x⟩
      · rw [if_neg (by omega), if_pos k3, if_pos k3, if_neg (by omega)]
        constructor
        · rintro ⟨a, b, c, d⟩; exact ⟨⟨a, b⟩, c, d, fun h => by have := d.2.2.2.2.2.2.1; simp only at this; rw [this] at h; cases h⟩
        · rintro ⟨⟨a, b⟩, c, d, x⟩; exact ⟨a, b, c, d⟩
    rcases k23 with k2 | k3
    · refine kgo ?_
      refine WL.load rfl rfl rfl rfl rfl rfl B3.kind ?_
      refine kgo ?_
      refine WL.build zCells rfl rfl rfl rfl rfl (by kernel_rfl) ?_
      refine WL.build (hashC Dig.Z32) rfl rfl rfl rfl rfl (by kernel_rfl) ?_
      refine kgo ?_
      refine WL.storeMid rfl rfl rfl rfl rfl rfl C3.blk rfl (by rw [C3.len]; omega) (zV_is (fun _ => True) 0 w3).one ?_
      obtain ⟨hw4, B4⟩ := stR ((enC e dc).take (0 + 5) ++ zCells ++ (enC e dc).drop (0 + 5 + 6)).toArray hw3 B3
      have C4 := C3.setData (m := zCells) (off := 0 + 5) zV rfl rfl
      generalize w3.setRow c ((enC e dc).take (0 + 5) ++ zCells ++ (enC e dc).drop (0 + 5 + 6)).toArray = w4 at hw4 B4 C4
      refine kgo ?_
      refine WL.storeMid rfl rfl rfl rfl rfl rfl C4.blk (by rfl) (by rw [C4.len]; omega) (Ones.int _ _) ?_
      obtain ⟨hw5, B5⟩ := stR ((enC { e with data := zV } zCells).take (0 + 11) ++ hashC Dig.Z32 ++ (enC { e with data := zV } zCells).drop (0 + 11 + 32)).toArray hw4 B4
      have C5 := C4.setHash (off := 0 + 11) (hh := Dig.Z32) rfl rfl
      generalize w4.setRow c ((enC { e with data := zV } zCells).take (0 + 11) ++ hashC Dig.Z32 ++ (enC { e with data := zV } zCells).drop (0 + 11 + 32)).toArray = w5 at hw5 B5 C5
      refine kgo ?_
      refine WL.store (v := .bool false) rfl rfl rfl rfl rfl rfl (by kernel_rfl) C5.gone (C5.blk.free 43) ?_
      obtain ⟨hw6, B6⟩ := stB (i := 43) (.bool false) hw5 B5
      have C6 := C5.setGone false
      generalize w5.setCell ⟨c, 43, none⟩ (.bool false) = w6 at hw6 B6 C6
      refine kgo ?_
      refine WL.store (v := .int .i64 0) rfl rfl rfl rfl rfl rfl (by kernel_rfl) C6.table (C6.blk.free 2) ?_
      obtain ⟨hwp, Bp⟩ := stB (i := 2) (.int .i64 0) hw6 B6
      have Cp := C6.setTable 0
      generalize w6.setCell ⟨c, 2, none⟩ (.int .i64 0) = wp at hwp Bp Cp
      refine kgo ?_
      refine WL.store (v := .int .i64 0) rfl rfl rfl rfl rfl rfl (by kernel_rfl) Cp.doc (Cp.blk.free 3) ?_
      obtain ⟨hwq, Bq⟩ := stB (i := 3) (.int .i64 0) hwp Bp
      have Cq := Cp.setDoc 0
      generalize wp.setCell ⟨c, 3, none⟩ (.int .i64 0) = wq at hwq Bq Cq
      refine kgo ?_
      refine WL.store (v := .int .i64 0) rfl rfl rfl rfl rfl rfl (by kernel_rfl) Cq.ver (Cq.blk.free 4) ?_
      obtain ⟨hwx, Bx⟩ := stB (i := 4) (.int .i64 0) hwq Bq
      have Cx := Cq.setVer 0
      generalize wq.setCell ⟨c, 4, none⟩ (.int .i64 0) = wx at hwx Bx Cx
      have hform' : formE e ↔ ((1 ≤ e.table ∧ e.table ≤ 64) ∧ (1 ≤ e.doc ∧ e.doc ≤ 65536)) ∧ (0 ≤ e.ver ∧ e.ver ≤ 2147483648) ∧ nilE { e with data := zV, hash := Dig.Z32, gone := false, table := 0, doc := 0, ver := 0 } ∧ (e.gone = true → e.data = zV) := by
        rw [hform, if_pos k2, if_neg (by omega)]
      by_cases c1 : 1 ≤ e.table ∧ e.table ≤ 64
      rotate_left
      · refine kgo ?_
        exact WQ.ret1 rfl rfl (BoolIs.no (fun h => c1 (hform'.1 h).1.1) hwx)
      refine kgo ?_
      refine WL.load rfl rfl rfl rfl rfl rfl Bx.doc ?_
      refine WL.on rfl rfl ?_
      refine WL.call rfl rfl rfl rfl rfl Tryz.func31 rfl (by kernel_rfl) (within_any _ _ _ _) ?_
      rintro _ wx ⟨rfl, rfl⟩
      refine ⟨_, rfl, ?_⟩
      by_cases c2 : 1 ≤ e.doc ∧ e.doc ≤ 65536
      rotate_left
      · refine kgo ?_
        exact WQ.ret1 rfl rfl (BoolIs.no (fun h => c2 (hform'.1 h).1.2) hwx)
      refine kgo ?_
      refine WL.load rfl rfl rfl rfl rfl rfl Bx.ver ?_
      refine kgo ?_
      refine WL.call rfl rfl rfl rfl rfl Tryz.func31 rfl (by kernel_rfl) (within_any _ _ _ _) ?_
      rintro _ wx ⟨rfl, rfl⟩
      refine ⟨_, rfl, ?_⟩
      by_cases c3 : 0 ≤ e.ver ∧ e.ver ≤ 2147483648
      rotate_left
      · refine kgo ?_
        exact WQ.ret1 rfl rfl (BoolIs.no (fun h => c3 (hform'.1 h).2.1) hwx)
      refine kgo ?_
      refine WL.loadMid rfl rfl rfl rfl rfl rfl (VBlk.rangeAt Cx.blk) Cx.len ?_
      refine WL.on rfl rfl ?_
      refine WL.call rfl rfl rfl rfl rfl Tryz.func78 rfl (by kernel_rfl) (nothing_any (e := { e with data := zV, hash := Dig.Z32, gone := false, table := 0, doc := 0, ver := 0 }) (zV_is (fun _ => True) 0 _).isV Cx.hl ⟨by show R64 0; omega, by show R64 0; omega, by show R64 0; omega⟩) ?_
      rintro _ wy ⟨⟨b, rfl, hb⟩, hky⟩
      refine ⟨_, rfl, ?_⟩
      have hwy := hwx.trans (hky.mono hwx.size)
      have By := Bx.below hky
      cases b with
      | false =>
        refine kgo ?_
        exact WQ.ret1 rfl rfl (BoolIs.no (fun h => by have := hb.2 (hform'.1 h).2.2.1; cases this) hwy)
      | true =>
        have hN := hb.1 rfl
        refine kgo ?_
        refine WL.load rfl rfl rfl rfl rfl rfl By.gone ?_
        cases hgo : e.gone with
        | false =>
          refine kgo ?_
          exact WQ.ret1 rfl rfl (BoolIs.yes (hform'.2 ⟨⟨c1, c2⟩, c3, hN, fun h => by rw [hgo] at h; cases h⟩) hwy)
        | true =>
          refine kgo ?_
          refine WL.loadMid rfl rfl rfl rfl rfl rfl By.data hdl ?_
          refine WL.on rfl rfl ?_
          refine WL.call rfl rfl rfl rfl rfl Tryz.func79 rfl (by kernel_rfl) (blank_any (hv.below hwy)) ?_
          rintro _ wz ⟨⟨b2, rfl, hb2⟩, hkz⟩
          refine ⟨_, rfl, ?_⟩
          refine kgo ?_
          exact WQ.ret1 rfl rfl (BoolIs.of (hwy.trans (hkz.mono hwy.size)) hb2 (hform'.trans ⟨fun h => h.2.2.2 hgo, fun h => ⟨⟨c1, c2⟩, c3, hN, fun _ => h⟩⟩))
    · refine kgo ?_
      refine WL.load rfl rfl rfl rfl rfl rfl B3.kind ?_
      refine kgo ?_
      refine WL.store (v := .int .i64 0) rfl rfl rfl rfl rfl rfl (by kernel_rfl) C3.table (C3.blk.free 2) ?_
      obtain ⟨hwp, Bp⟩ := stB (i := 2) (.int .i64 0) hw3 B3
      have Cp := C3.setTable 0
      generalize w3.setCell ⟨c, 2, none⟩ (.int .i64 0) = wp at hwp Bp Cp
      refine kgo ?_
      refine WL.store (v := .int .i64 0) rfl rfl rfl rfl rfl rfl (by kernel_rfl) Cp.doc (Cp.blk.free 3) ?_
      obtain ⟨hwq, Bq⟩ := stB (i := 3) (.int .i64 0) hwp Bp
      have Cq := Cp.setDoc 0
      generalize wp.setCell ⟨c, 3, none⟩ (.int .i64 0) = wq at hwq Bq Cq
      refine kgo ?_
      refine WL.store (v := .int .i64 0) rfl rfl rfl rfl rfl rfl (by kernel_rfl) Cq.ver (Cq.blk.free 4) ?_
      obtain ⟨hwx, Bx⟩ := stB (i := 4) (.int .i64 0) hwq Bq
      have Cx := Cq.setVer 0
      generalize wq.setCell ⟨c, 4, none⟩ (.int .i64 0) = wx at hwx Bx Cx
      have hform' : formE e ↔ ((1 ≤ e.table ∧ e.table ≤ 64) ∧ (1 ≤ e.doc ∧ e.doc ≤ 65536)) ∧ (1 ≤ e.ver ∧ e.ver ≤ 2147483648) ∧ nilE { e with table := 0, doc := 0, ver := 0 } ∧ (e.gone = true → e.data = zV) := by
        rw [hform, if_pos k3, if_neg (by omega)]
      by_cases c1 : 1 ≤ e.table ∧ e.table ≤ 64
      rotate_left
      · refine kgo ?_
        exact WQ.ret1 rfl rfl (BoolIs.no (fun h => c1 (hform'.1 h).1.1) hwx)
      refine kgo ?_
      refine WL.load rfl rfl rfl rfl rfl rfl Bx.doc ?_
      refine WL.on rfl rfl ?_
      refine WL.call rfl rfl rfl rfl rfl Tryz.func31 rfl (by kernel_rfl) (within_any _ _ _ _) ?_
      rintro _ wx ⟨rfl, rfl⟩
      refine ⟨_, rfl, ?_⟩
      by_cases c2 : 1 ≤ e.doc ∧ e.doc ≤ 65536
      rotate_left
      · refine kgo ?_
        exact WQ.ret1 rfl rfl (BoolIs.no (fun h => c2 (hform'.1 h).1.2) hwx)
      refine kgo ?_
      refine WL.load rfl rfl rfl rfl rfl rfl Bx.ver ?_
      refine kgo ?_
      refine WL.call rfl rfl rfl rfl rfl Tryz.func31 rfl (by kernel_rfl) (within_any _ _ _ _) ?_
      rintro _ wx ⟨rfl, rfl⟩
      refine ⟨_, rfl, ?_⟩
      by_cases c3 : 1 ≤ e.ver ∧ e.ver ≤ 2147483648
      rotate_left
      · refine kgo ?_
        exact WQ.ret1 rfl rfl (BoolIs.no (fun h => c3 (hform'.1 h).2.1) hwx)
      refine kgo ?_
      refine WL.loadMid rfl rfl rfl rfl rfl rfl (VBlk.rangeAt Cx.blk) Cx.len ?_
      refine WL.on rfl rfl ?_
      refine WL.call rfl rfl rfl rfl rfl Tryz.func78 rfl (by kernel_rfl) (nothing_any (e := { e with table := 0, doc := 0, ver := 0 }) (hv.below hwx) Cx.hl ⟨by show R64 0; omega, by show R64 0; omega, by show R64 0; omega⟩) ?_
      rintro _ wy ⟨⟨b, rfl, hb⟩, hky⟩
      refine ⟨_, rfl, ?_⟩
      have hwy := hwx.trans (hky.mono hwx.size)
      have By := Bx.below hky
      cases b with
      | false =>
        refine kgo ?_
        exact WQ.ret1 rfl rfl (BoolIs.no (fun h => by have := hb.2 (hform'.1 h).2.2.1; cases this) hwy)
      | true =>
        have hN := hb.1 rfl
        refine kgo ?_
        refine WL.load rfl rfl rfl rfl rfl rfl By.gone ?_
        cases hgo : e.gone with
        | false =>
          refine kgo ?_
          exact WQ.ret1 rfl rfl (BoolIs.yes (hform'.2 ⟨⟨c1, c2⟩, c3, hN, fun h => by rw [hgo] at h; cases h⟩) hwy)
        | true =>
          refine kgo ?_
          refine WL.loadMid rfl rfl rfl rfl rfl rfl By.data hdl ?_
          refine WL.on rfl rfl ?_
          refine WL.call rfl rfl rfl rfl rfl Tryz.func79 rfl (by kernel_rfl) (blank_any (hv.below hwy)) ?_
          rintro _ wz ⟨⟨b2, rfl, hb2⟩, hkz⟩
          refine ⟨_, rfl, ?_⟩
          refine kgo ?_
          exact WQ.ret1 rfl rfl (BoolIs.of (hwy.trans (hkz.mono hwy.size)) hb2 (hform'.trans ⟨fun h => h.2.2.2 hgo, fun h => ⟨⟨c1, c2⟩, c3, hN, fun _ => h⟩⟩))
  by_cases k4 : e.kind = 4
  · have hform : formE e ↔ (0 ≤ e.ab ∧ e.ab ≤ 2147483648) ∧ (0 ≤ e.ae ∧ e.ae ≤ 2147483648) ∧ nilE { e with ab := 0, ae := 0 } := by
      unfold formE; rw [if_neg k1, if_neg (by omega), if_neg (by omega), if_pos k4]
    refine kgo ?_
    refine WL.build [.int .i64 0, .int .i64 0] rfl rfl rfl rfl rfl (by kernel_rfl) ?_
    refine kgo ?_
    refine WL.storeMid rfl rfl rfl rfl rfl rfl C3.blk rfl (by rw [C3.len]; omega) (by intro u hu; simp at hu; rw [hu]; rfl) ?_
    obtain ⟨hw4, B4⟩ := stR ((enC e dc).take (0 + 44) ++ [Value.int .i64 0, .int .i64 0] ++ (enC e dc).drop (0 + 44 + 2)).toArray hw3 B3
    have C4 := C3.setAt (off := 0 + 44) 0 0 rfl
    generalize w3.setRow c ((enC e dc).take (0 + 44) ++ [Value.int .i64 0, .int .i64 0] ++ (enC e dc).drop (0 + 44 + 2)).toArray = w4 at hw4 B4 C4
    refine kgo ?_
    refine WL.load rfl rfl rfl rfl rfl rfl B4.ab ?_
    refine WL.call rfl rfl rfl rfl rfl Tryz.func31 rfl (by kernel_rfl) (within_any _ _ _ _) ?_
    rintro _ w4 ⟨rfl, rfl⟩
    refine ⟨_, rfl, ?_⟩
    by_cases c1 : 0 ≤ e.ab ∧ e.ab ≤ 2147483648
    rotate_left
    · refine kgo ?_
      exact WQ.ret1 rfl rfl (BoolIs.no (fun h => c1 (hform.1 h).1) hw4)
    refine kgo ?_
    refine WL.load rfl rfl rfl rfl rfl rfl B4.ae ?_
    refine WL.on rfl rfl ?_
    refine WL.call rfl rfl rfl rfl rfl Tryz.func31 rfl (by kernel_rfl) (within_any _ _ _ _) ?_
    rintro _ w4 ⟨rfl, rfl⟩
    refine ⟨_, rfl, ?_⟩
    by_cases c2 : 0 ≤ e.ae ∧ e.ae ≤ 2147483648
    · refine kgo ?_
      refine WL.loadMid rfl rfl rfl rfl rfl rfl (VBlk.rangeAt C4.blk) C4.len ?_
      refine WL.on rfl rfl ?_
      refine WL.call rfl rfl rfl rfl rfl Tryz.func78 rfl (by kernel_rfl) (nothing_any (e := { e with ab := 0, ae := 0 }) (hv.below hw4) C4.hl ⟨by first | exact hta | (show R64 0; omega), hdo, hve⟩) ?_
      rintro _ wy ⟨⟨b, rfl, hb⟩, hky⟩
      refine ⟨_, rfl, ?_⟩
      refine kgo ?_
      exact WQ.ret1 rfl rfl (BoolIs.of (hw4.trans (hky.mono hw4.size)) hb (hform.trans ⟨fun h => h.2.2, fun h => ⟨c1, c2, h⟩⟩))
    · refine kgo ?_
      exact WQ.ret1 rfl rfl (BoolIs.no (fun h => c2 (hform.1 h).2.1) hw4)
  by_cases k57 : e.kind = 5 ∨ e.kind = 7
  · have hform : formE e ↔ (1 ≤ e.table ∧ e.table ≤ 64) ∧ (1 ≤ e.text.size ∧ e.text.size ≤ 40) ∧ nilE { e with table := 0, text := noT } := by
      unfold formE; rw [if_neg k1, if_neg (by omega), if_neg (by omega), if_neg k4, if_pos k57]
      constructor
      · rintro ⟨a, b, c, d⟩; exact ⟨a, ⟨b, c⟩, d⟩
      · rintro ⟨a, ⟨b, c⟩, d⟩; exact ⟨a, b, c, d⟩
    rcases k57 with k5 | k7
    all_goals
      refine kgo ?_
      refine WL.store (v := .int .i64 0) rfl rfl rfl rfl rfl rfl (by kernel_rfl) C3.table (C3.blk.free 2) ?_
      obtain ⟨hw4, B4⟩ := stB (i := 2) (.int .i64 0) hw3 B3
      have C4 := C3.setTable 0
      generalize w3.setCell ⟨c, 2, none⟩ (.int .i64 0) = w4 at hw4 B4 C4
      refine kgo ?_
      refine WL.store (v := .string noT) rfl rfl rfl rfl rfl rfl (by kernel_rfl) C4.text (C4.blk.free 1) ?_
      obtain ⟨hw5, B5⟩ := stB (i := 1) (.string noT) hw4 B4
      have C5 := C4.setText noT
      generalize w4.setCell ⟨c, 1, none⟩ (.string noT) = w5 at hw5 B5 C5
      by_cases c1 : 1 ≤ e.table ∧ e.table ≤ 64
      rotate_left
      · refine kgo ?_
        exact WQ.ret1 rfl rfl (BoolIs.no (fun h => c1 (hform.1 h).1) hw5)
      refine kgo ?_
      refine WL.load rfl rfl rfl rfl rfl rfl B5.text ?_
      refine kgo ?_
      refine WL.call rfl rfl rfl rfl rfl Tryz.func31 rfl (by kernel_rfl) (within_any _ _ _ _) ?_
      rintro _ w5 ⟨rfl, rfl⟩
      refine ⟨_, rfl, ?_⟩
      by_cases c2 : (1 : Int) ≤ (e.text.size : Int) ∧ (e.text.size : Int) ≤ 40
      rotate_left
      · refine kgo ?_
        exact WQ.ret1 rfl rfl (BoolIs.no (fun h => c2 (by have := (hform.1 h).2.1; omega)) hw5)
      refine kgo ?_
      refine WL.loadMid rfl rfl rfl rfl rfl rfl (VBlk.rangeAt C5.blk) C5.len ?_
      refine WL.on rfl rfl ?_
      refine WL.call rfl rfl rfl rfl rfl Tryz.func78 rfl (by kernel_rfl) (nothing_any (e := { e with table := 0, text := noT }) (hv.below hw5) C5.hl ⟨by first | exact hta | (show R64 0; omega), hdo, hve⟩) ?_
      rintro _ wy ⟨⟨b, rfl, hb⟩, hky⟩
      refine ⟨_, rfl, ?_⟩
      refine kgo ?_
      exact WQ.ret1 rfl rfl (BoolIs.of (hw5.trans (hky.mono hw5.size)) hb (hform.trans ⟨fun h => h.2.2, fun h => ⟨c1, by omega, h⟩⟩))
  by_cases k6 : e.kind = 6
  · have hform : formE e ↔ (1 ≤ e.table ∧ e.table ≤ 64) ∧ nilE { e with table := 0 } := by
      unfold formE; rw [if_neg k1, if_neg (by omega), if_neg (by omega), if_neg k4, if_neg k57, if_pos k6]
    refine kgo ?_
    refine WL.store (v := .int .i64 0) rfl rfl rfl rfl rfl rfl (by kernel_rfl) C3.table (C3.blk.free 2) ?_
    obtain ⟨hw4, B4⟩ := stB (i := 2) (.int .i64 0) hw3 B3
    have C4 := C3.setTable 0
    generalize w3.setCell ⟨c, 2, none⟩ (.int .i64 0) = w4 at hw4 B4 C4
    by_cases c1 : 1 ≤ e.table ∧ e.table ≤ 64
    · refine kgo ?_
      refine WL.loadMid rfl rfl rfl rfl rfl rfl (VBlk.rangeAt C4.blk) C4.len ?_
      refine WL.on rfl rfl ?_
      refine WL.call rfl rfl rfl rfl rfl Tryz.func78 rfl (by kernel_rfl) (nothing_any (e := { e with table := 0 }) (hv.below hw4) C4.hl ⟨by first | exact hta | (show R64 0; omega), hdo, hve⟩) ?_
      rintro _ wy ⟨⟨b, rfl, hb⟩, hky⟩
      refine ⟨_, rfl, ?_⟩
      refine kgo ?_
      exact WQ.ret1 rfl rfl (BoolIs.of (hw4.trans (hky.mono hw4.size)) hb (hform.trans ⟨fun h => h.2, fun h => ⟨c1, h⟩⟩))
    · refine kgo ?_
      exact WQ.ret1 rfl rfl (BoolIs.no (fun h => c1 (hform.1 h).1) hw4)
  · have hform : ¬ formE e := by
      unfold formE; rw [if_neg k1, if_neg (by omega), if_neg (by omega), if_neg k4, if_neg k57, if_neg k6]; exact id
    refine kgo ?_
    exact WQ.ret1 rfl rfl (BoolIs.no hform hw3)
end K
end Go.Proofs.YtlamdhekjlnccaaGreatDoor

/- Blocks (chapter 11): number, layEntry. -/
namespace Go.Proofs.YtlamdhekjlnccaaGreatDoor
open Go.RowKit
namespace K
theorem max0 (n : Int) (h : R64 n) : IntKind.u64.wrap (if n > 0 then n else 0) = ((n.toNat : Nat) : Int) := by rw [IntKind.wrap_u64]; split <;> omega
theorem number11_any {w : World} {b : Value} {l : List Int} (n : Int) (hb : Bu w b l) (hn : R64 n) (hm : l.length ≤ 70368744177664) :
    Calls Tryz.prog 59 #[b, .int .i64 n] w fun e w' => ∃ b', e = .returned b' ∧ Bu w' b' (l ++ uvB n.toNat) ∧ Grow w b w' b' := by
  refine enter (args := [b, .int .i64 n]) Tryz.func59 rfl Tryz.ntmps59 rfl ?_
  have e := max0 n hn
  have hul := uvB_len n.toNat
  refine kgo ?_
  refine WL.call rfl rfl rfl rfl rfl Tryz.func53 rfl (by kernel_rfl) (by rw [show (bif false then (if (0 : Int) > n then n else 0) else (if n > 0 then n else 0)) = (if n > 0 then n else 0) from rfl, e]; exact uvarint_any n.toNat (by omega) w) ?_
  rintro _ w2 ⟨b2, rfl, hb2, hk2, -⟩
  refine ⟨_, rfl, ?_⟩
  refine WL.app rfl rfl rfl rfl rfl (hb.below hk2) rfl hb2.sl (by omega) fun b3 w3 hb3 hg3 => ?_
  refine kgo ?_
  exact WQ.ret1 rfl rfl ⟨b3, rfl, hb3, ((Grow.refl w b).below hk2).trans hg3⟩
/-- A digest in a block, as bytes. -/
theorem hash_sl {w : World} {b off : Nat} {h : List Int} (hr : w.rangeAt b off (hashC h)) (hl : h.length = 32) (hb : b < w.heap.size) : Sl .u8 w (.slice (some ⟨b, off, none⟩) 32 32) h := by
  have := Sl.mk (k := .u8) (w := w) (b := b) (o := off) (cap := 32) (l := h) (by omega) (by omega) hb (fun j hj => by
    have h1 := hr j (.int .u8 (nth h j)) (by simp [nth, hj])
    exact h1)
  rw [hl] at this
  exact this
theorem layE_len (e : En) (hh : e.hash.length = 32) : (layE e).length ≤ 100 + e.text.size := by
  have h1 := uvB_len e.table.toNat
  have h2 := uvB_len e.doc.toNat
  have h3 := uvB_len e.ver.toNat
  have h4 := uvB_len e.text.size
  have h5 := uvB_len e.ab.toNat
  have h6 := uvB_len e.ae.toNat
  have h7 := byI_len e.text
  unfold layE
  by_cases k2 : e.kind = 2
  · rw [if_pos k2]; simp only [List.length_cons, List.length_append]; omega
  · rw [if_neg k2]; simp only [List.length_cons, List.length_append, List.length_nil]; omega
set_option maxHeartbeats 4000000 in
theorem layEntry_any {f : Nat} {w0 w : World} {e : En} {cs : List Value} {b : Value} {l : List Int} (h : IsE f w0 e cs) (hk : 1 ≤ e.kind ∧ e.kind ≤ 7) (hb : Bu w b l) (hm : l.length + e.text.size ≤ 70368744170000) :
    Calls Tryz.prog 42 #[b, .agg cs.toArray] w fun r w' => ∃ b', r = .returned b' ∧ Bu w' b' (l ++ layE e) ∧ Grow w b w' b' := by
  obtain ⟨dc, rfl, hv, hdl, hone, hh, hby, htx, -, hta, hdo, hve, hab, hae⟩ := h
  refine enter (args := [b, .agg (enC e dc).toArray]) Tryz.func42 rfl Tryz.ntmps42 rfl ?_
  refine kgo ?_
  refine WL.box rfl rfl rfl rfl rfl fun g w1 hf => ?_
  have hf' : Fresh w g w1 45 (enC e dc) := hf
  clear hf
  have hb1 : Bu w1 b l := hb.below hf'.below
  have hg1 : Grow w b w1 b := (Grow.refl w b).below hf'.below
  have hR : ∀ {wk vk}, Grow w1 b wk vk → EnAt 45 g wk e dc := fun h => ⟨hf'.stand hb h, hdl, hh⟩
  have fin : ∀ {b' w'}, Bu w' b' (l ++ layE e) → Grow w1 b w' b' → ∃ b'', Ending.returned b' = .returned b'' ∧ Bu w' b'' (l ++ layE e) ∧ Grow w b w' b'' := fun {b' w'} h1 h2 => ⟨b', rfl, h1, hg1.trans h2⟩
  have g0 := Grow.refl w1 b
  have e8 : IntKind.u8.wrap e.kind = e.kind := by rw [IntKind.wrap_u8]; omega
  refine kgo ?_
  refine WL.load rfl rfl rfl rfl rfl rfl (hR g0).kind ?_
  refine kgo ?_
  refine WL.push rfl rfl rfl rfl rfl rfl rfl rfl rfl rfl rfl (fun _ => rfl) rfl hb1 (by simp only [List.length_cons, List.length_nil]; omega) fun b2 w2 hb2 g2 => ?_
  rw [e8] at hb2
  refine kgo ?_
  refine WL.load rfl rfl rfl rfl rfl rfl (hR g2).table ?_
  refine kgo ?_
  refine WL.load rfl rfl rfl rfl rfl rfl (hR g2).doc ?_
  refine kgo ?_
  refine WL.load rfl rfl rfl rfl rfl rfl (hR g2).ver ?_
  refine kgo ?_
  refine WL.load rfl rfl rfl rfl rfl rfl (hR g2).text ?_
  refine kgo ?_
  refine WL.build [.int .i64 e.table, .int .i64 e.doc, .int .i64 e.ver, .int .i64 e.text.size] rfl rfl rfl rfl rfl (by kernel_rfl) ?_
  have hN : ∃ N : List Int, N = [e.table, e.doc, e.ver, (e.text.size : Int)] := ⟨_, rfl⟩
  obtain ⟨N, hN⟩ := hN
  have hNg : ∀ i, i < 4 → [Value.int .i64 e.table, .int .i64 e.doc, .int .i64 e.ver, .int .i64 e.text.size][i]? = some (.int .i64 (N.getD i 0)) ∧ R64 (N.getD i 0) := fun i hi => by
    rw [hN]
    match i, hi with
    | 0, _ => exact ⟨rfl, hta⟩
    | 1, _ => exact ⟨rfl, hdo⟩
    | 2, _ => exact ⟨rfl, hve⟩
    | 3, _ => exact ⟨rfl, by show R64 (e.text.size : Int); omega⟩
  have hpl : ∀ i, i ≤ 4 → ((N.take i).flatMap fun n => uvB n.toNat).length ≤ 10 * i := fun i hi => by
    have h1 := uvB_len e.table.toNat
    have h2 := uvB_len e.doc.toNat
    have h3 := uvB_len e.ver.toNat
    have h4 := uvB_len (e.text.size : Int).toNat
    rw [hN]
    match i, hi with
    | 0, _ => simp
    | 1, _ => simp; omega
    | 2, _ => simp; omega
    | 3, _ => simp; omega
    | 4, _ => simp only [List.take_succ_cons, List.take_zero, List.flatMap_cons, List.flatMap_nil, List.length_append, List.length_nil]; omega
  have hM : (l ++ [e.kind]).length = l.length + 1 := by simp
  have hML : l ++ layE e = (l ++ [e.kind]) ++ ((N.take 4).flatMap (fun n => uvB n.toNat) ++ (byI e.text ++ (uvB e.ab.toNat ++ (uvB e.ae.toNat ++ (if e.kind = 2 then e.hash else []))))) := by
    rw [hN]
    unfold layE
    simp
  generalize l ++ [e.kind] = M at hb2 hM hML
  refine kgo ?_
  refine WC.loop (fun i : Nat × Value => [(0, i.2), (3, .pointer (some ⟨g, 0, none⟩)), (22, .agg [.int .i64 e.table, .int .i64 e.doc, .int .i64 e.ver, .int .i64 e.text.size].toArray), (23, .int .i64 i.1)])
    (fun i w' => i.1 ≤ 4 ∧ Bu w' i.2 (M ++ (N.take i.1).flatMap fun n => uvB n.toNat) ∧ Grow w1 b w' i.2) (fun i => 4 - i.1) (0, b2) ⟨rfl, rfl, rfl, rfl, trivial⟩ ⟨Nat.zero_le _, by simpa using hb2, g2⟩ ?_
  rintro ⟨i, br⟩ wr ⟨hi, hbr, hgr⟩
  simp only at hi hbr hgr ⊢
  have hpi := hpl i hi
  by_cases hik : i < 4
  · obtain ⟨hn1, hn2⟩ := hNg i hik
    refine kgo ?_
    refine WL.elem i rfl rfl rfl rfl rfl rfl rfl rfl hik hn1 ?_
    refine kgo ?_
    refine WL.call rfl rfl rfl rfl rfl Tryz.func59 rfl (by kernel_rfl) (number11_any (N.getD i 0) hbr hn2 (by rw [List.length_append]; omega)) ?_
    rintro _ w3 ⟨b3, rfl, hb3, hg3⟩
    refine ⟨_, rfl, ?_⟩
    refine kgo ?_
    refine WQ.again (i + 1, b3) ⟨rfl, rfl, rfl, rfl, trivial⟩ ⟨hik, ?_, hgr.trans hg3⟩ (by show 4 - (i + 1) < 4 - i; omega)
    have hNl : N.length = 4 := by rw [hN]; rfl
    have ht : N.take (i + 1) = N.take i ++ [N.getD i 0] := by rw [List.take_add_one]; simp [show i < N.length by omega]
    show Bu w3 b3 (M ++ (N.take (i + 1)).flatMap _)
    rw [ht, List.flatMap_append, ← List.append_assoc]
    simpa using hb3
  · obtain rfl : i = 4 := by omega
    have hgt := byI_len e.text
    have hu5 := uvB_len e.ab.toNat
    have hu6 := uvB_len e.ae.toNat
    refine kgo ?_
    refine WC.drawn 11 (fun wx => EnAt 45 g wx e dc) fun w4 hd4 => ?_
    have hb4 := hbr.below (hd4.below _)
    have hg4 := hgr.below (hd4.below _)
    have hS := hR hg4
    (((first | refine WD.free 0 rfl (by kernel_rfl) rfl rfl (fun _ _ _ _ _ h => h) rfl rfl (.inr hS) ?_ | refine WD.skip 0 rfl (by kernel_rfl) rfl rfl (fun _ _ _ _ _ h => h) rfl (.inr hS) ?_); try (first | ((with_reducible refine WD.topT ?_ ?_); omega) | ((with_reducible refine WD.topF ?_ ?_); omega) | ((with_reducible refine WD.top64 ?_ ?_); omega))); ((first | refine WD.free 1 rfl (by kernel_rfl) rfl rfl (fun _ _ _ _ _ h => h) rfl rfl (.inr hS) ?_ | refine WD.skip 1 rfl (by kernel_rfl) rfl rfl (fun _ _ _ _ _ h => h) rfl (.inr hS) ?_); try (first | ((with_reducible refine WD.topT ?_ ?_); omega) | ((with_reducible refine WD.topF ?_ ?_); omega) | ((with_reducible refine WD.top64 ?_ ?_); omega))))
    refine WD.load 2 [3, 7, 11, 12] rfl (by kernel_rfl) rfl rfl (fun _ _ _ _ _ h => h) rfl rfl rfl rfl (fun wx hx => hx.text) hS ?_
    (((first | refine WD.free 4 rfl (by kernel_rfl) rfl rfl (fun _ _ _ _ _ h => h) rfl rfl (.inr hS) ?_ | refine WD.skip 4 rfl (by kernel_rfl) rfl rfl (fun _ _ _ _ _ h => h) rfl (.inr hS) ?_); try (first | ((with_reducible refine WD.topT ?_ ?_); omega) | ((with_reducible refine WD.topF ?_ ?_); omega) | ((with_reducible refine WD.top64 ?_ ?_); omega))); ((first | refine WD.free 5 rfl (by kernel_rfl) rfl rfl (fun _ _ _ _ _ h => h) rfl rfl (.inr hS) ?_ | refine WD.skip 5 rfl (by kernel_rfl) rfl rfl (fun _ _ _ _ _ h => h) rfl (.inr hS) ?_); try (first | ((with_reducible refine WD.topT ?_ ?_); omega) | ((with_reducible refine WD.topF ?_ ?_); omega) | ((with_reducible refine WD.top64 ?_ ?_); omega))))
    refine WD.load 6 [7, 11, 12] rfl (by kernel_rfl) rfl rfl (fun _ _ _ _ _ h => h) rfl rfl rfl rfl (fun wx hx => hx.ab) hS ?_
    (((first | refine WD.free 8 rfl (by kernel_rfl) rfl rfl (fun _ _ _ _ _ h => h) rfl rfl (.inr hS) ?_ | refine WD.skip 8 rfl (by kernel_rfl) rfl rfl (fun _ _ _ _ _ h => h) rfl (.inr hS) ?_); try (first | ((with_reducible refine WD.topT ?_ ?_); omega) | ((with_reducible refine WD.topF ?_ ?_); omega) | ((with_reducible refine WD.top64 ?_ ?_); omega))); ((first | refine WD.free 9 rfl (by kernel_rfl) rfl rfl (fun _ _ _ _ _ h => h) rfl rfl (.inr hS) ?_ | refine WD.skip 9 rfl (by kernel_rfl) rfl rfl (fun _ _ _ _ _ h => h) rfl (.inr hS) ?_); try (first | ((with_reducible refine WD.topT ?_ ?_); omega) | ((with_reducible refine WD.topF ?_ ?_); omega) | ((with_reducible refine WD.top64 ?_ ?_); omega))))
    refine WD.load 10 [11, 12] rfl (by kernel_rfl) rfl rfl (fun _ _ _ _ _ h => h) rfl rfl rfl rfl (fun wx hx => hx.ae) hS ?_
    refine WD.one 3 (by kernel_rfl) rfl ?_
    refine WL.appS rfl rfl rfl rfl rfl hb4 rfl (by rw [List.length_append]; omega) fun b5 w5 hb5 hg5 => ?_
    have g5 := hg4.trans hg5
    refine WL.nil (WQ.dk (.inr (hR g5)) ?_)
    refine WD.one 7 (by kernel_rfl) rfl ?_
    refine WL.call rfl rfl rfl rfl rfl Tryz.func59 rfl (by kernel_rfl) (number11_any e.ab hb5 hab (by rw [List.length_append, List.length_append, bytesI_len]; omega)) ?_
    rintro _ w6 ⟨b6, rfl, hb6, hg6⟩
    refine ⟨_, rfl, ?_⟩
    have g6 := g5.trans hg6
    refine WL.nil (WQ.dk (.inr (hR g6)) ?_)
    refine WD.one 11 (by kernel_rfl) rfl ?_
    refine WL.call rfl rfl rfl rfl rfl Tryz.func59 rfl (by kernel_rfl) (number11_any e.ae hb6 hae (by rw [List.length_append, List.length_append, List.length_append, bytesI_len]; omega)) ?_
    rintro _ w7 ⟨b7, rfl, hb7, hg7⟩
    refine ⟨_, rfl, ?_⟩
    have g7 := g6.trans hg7
    refine WL.nil (WQ.dk (.inl rfl) ?_)
    refine WD.one 12 (by kernel_rfl) rfl ?_
    refine WL.pure rfl rfl rfl rfl ?_
    refine WL.nil (WQ.dk (.inl rfl) ?_)
    refine WD.done (by kernel_rfl) ?_
    refine kgo ?_
    refine WL.load rfl rfl rfl rfl rfl rfl (hR g7).kind ?_
    have hb7' : Bu w7 b7 (M ++ ((N.take 4).flatMap (fun n => uvB n.toNat) ++ (byI e.text ++ (uvB e.ab.toNat ++ uvB e.ae.toNat)))) := by simpa [List.append_assoc, bytesI, byI] using hb7
    by_cases k2 : e.kind = 2
    · refine kgo ?_
      refine WL.all rfl rfl rfl rfl rfl rfl ?_
      refine WL.app rfl rfl rfl rfl rfl hb7' rfl (hash_sl (hR g7).hash hh (hR g7).blk.lt) (by simp only [List.length_append]; omega) fun b8 w8 hb8 hg8 => ?_
      refine kgo ?_
      refine WQ.ret1 rfl rfl (fin ?_ (g7.trans hg8))
      rw [hML, if_pos k2]
      simpa [List.append_assoc] using hb8
    · refine kgo ?_
      refine WQ.ret1 rfl rfl (fin ?_ g7)
      rw [hML, if_neg k2, List.append_nil]
      exact hb7'
end K
end Go.Proofs.YtlamdhekjlnccaaGreatDoor

/- Blocks (chapter 11): checkEntry, head, lay. -/
namespace Go.Proofs.YtlamdhekjlnccaaGreatDoor
open Go.RowKit
namespace K
theorem hash_neq (a b : List Int) (ha : a.length = 32) (hb : b.length = 32) (W : World) : (binOp .neq 23 (.agg (hashC a).toArray) (.agg (hashC b).toArray)).run Tryz.prog W = .ok (.bool (!decide (a = b))) W := by
  have h := hash_eql a b ha hb W
  rw [run_eql_struct] at h
  rw [run_neq_struct]
  revert h
  generalize (Op.equalIn 10000 23 (.agg (hashC a).toArray) (.agg (hashC b).toArray)).run Tryz.prog W = r
  intro h
  cases r with
  | ok x w2 =>
    simp only [Result.andThen_ok] at h ⊢
    injection h with h1 h2
    injection h1 with h1
    rw [h1, h2]
  | halt x w2 => cases h
theorem hash_guard2 (x y : Operand) (a b : Array Value) (W : World) : (eqGuard .neq 23 x y (.agg a) (.agg b)).run Tryz.prog W = .ok () W := by
  have h : Tryz.prog.eqGuardType Tryz.prog.depth 23 = false := by kernel_rfl
  simp [eqGuard, h]
section
variable {n : Nat} {Q : Exit → Act → World → Prop} {l : Env} {w w' : World} {ops : Array Oper} {o : Oper} {rest : List Oper} {d : Nat}
theorem WL.neqH {x y : Operand} {t2 : Nat} {a b : List Int} (hg : o.guard = none) (hd : o.dst = some d) (hn : Nat.blt d n = true) (ho : o.op = .binOp .neq 23 x y t2) (hx : evl l x = some (.agg (hashC a).toArray)) (hy : evl l y = some (.agg (hashC b).toArray))
    (ha : a.length = 32) (hb : b.length = 32) (h : WL n ops Q rest ((d, .bool (!decide (a = b))) :: l) w) : WL n ops Q (o :: rest) l w :=
  WL.step hg hd hn (fun c hc => by
    unfold execOp
    rw [ho]
    simp only [hc.eval hx, hc.eval hy, Sem.run_bind, hash_guard2, Result.andThen_ok, hash_neq a b ha hb w]
    rfl) h
end
theorem checkEntry_any {f : Nat} {w : World} {e : En} {cs : List Value} (h : IsE f w e cs) (hlen : chk 16 e.data = 0 → (encV 16 e.data).length ≤ 70368744177664) :
    Calls Tryz.prog 32 #[.agg cs.toArray] w fun r w' => r = .returned (.int .i64 (chkE e)) ∧ Below w.heap.size w w' := by
  obtain ⟨dc, rfl, hv, hdl, hone, hh, hby, htx, hr⟩ := h
  have hall : EnP (IsV f w) e (enC e dc) := ⟨dc, rfl, hv, hdl, hone, hh, hby, htx, hr⟩
  refine enter (args := [.agg (enC e dc).toArray]) Tryz.func32 rfl Tryz.ntmps32 rfl ?_
  refine kgo ?_
  refine WL.box rfl rfl rfl rfl rfl fun g w1 hf => ?_
  have hf' : Fresh w g w1 45 (enC e dc) := hf
  clear hf
  have B1 : EnAt _ g w1 e dc := ⟨hf'.blk, hdl, hh⟩
  have hw1 := hf'.below
  clear hf'
  refine kgo ?_
  refine WL.loadMid rfl rfl rfl rfl rfl rfl (VBlk.rangeAt B1.blk) B1.len ?_
  refine WL.call rfl rfl rfl rfl rfl Tryz.func57 rfl (by kernel_rfl) (shape_any (IsE.below hw1 hall)) ?_
  rintro _ w2 ⟨⟨b, rfl, hb⟩, hk2⟩
  refine ⟨_, rfl, ?_⟩
  have hw2 := hw1.trans (hk2.mono hw1.size)
  have B2 := B1.below hk2
  cases b with
  | false =>
    have hf : ¬ formE e := fun h => by have := hb.2 h; cases this
    refine kgo ?_
    exact WQ.ret1 rfl rfl ⟨by unfold chkE; rw [if_neg hf], hw2⟩
  | true =>
    have hf := hb.1 rfl
    refine kgo ?_
    refine WL.load rfl rfl rfl rfl rfl rfl B2.kind ?_
    by_cases k2 : e.kind = 2
    rotate_left
    · refine kgo ?_
      exact WQ.ret1 rfl rfl ⟨by unfold chkE; rw [if_pos hf, if_pos (.inl k2)], hw2⟩
    refine kgo ?_
    refine WL.load rfl rfl rfl rfl rfl rfl B2.gone ?_
    cases hg : e.gone with
    | true =>
      refine kgo ?_
      exact WQ.ret1 rfl rfl ⟨by unfold chkE; rw [if_pos hf, if_pos (.inr hg)], hw2⟩
    | false =>
      have hc0 : chkE e = if (encR e.data).2 ≠ 0 then (encR e.data).2 else if hashR e.data = e.hash then 0 else 18 := by unfold chkE; rw [if_pos hf, if_neg (by simp [k2, hg])]
      refine kgo ?_
      refine WL.loadMid rfl rfl rfl rfl rfl rfl B2.data hdl ?_
      refine WL.call rfl rfl rfl rfl rfl Tryz.func58 rfl (by kernel_rfl) (hash_any (hv.below hw2) hlen) ?_
      rintro _ w3 ⟨rfl, hk3⟩
      refine ⟨_, rfl, ?_⟩
      have hw3 := hw2.trans (hk3.mono hw2.size)
      have B3 := B2.below hk3
      have hhl : (hashC (hashR e.data)).length = 32 := by rw [List.length_map]; exact hashR_len _
      refine kgo ?_
      refine WL.alloc (z := .agg (hashC Dig.Z32).toArray) rfl rfl rfl rfl (Dig.zero25) fun c w4 hf4 => ?_
      have hf4' : Fresh w3 c w4 23 (hashC Dig.Z32) := hf4
      clear hf4
      refine WL.storeRow rfl rfl rfl rfl rfl rfl hf4'.blk hhl (by rfl) (Ones.int _ _) ?_
      have hk5 : Below w3.heap.size w3 (w4.setRow c (hashC (hashR e.data)).toArray) := below_setRow hf4'.below (by rw [hf4'.eq]; exact Nat.le_refl _) _
      have H5 : VBlk 23 (w4.setRow c (hashC (hashR e.data)).toArray) c (hashC (hashR e.data)) := hf4'.blk.setRow _
      generalize w4.setRow c (hashC (hashR e.data)).toArray = w5 at hk5 H5
      have hw5 := hw3.trans (hk5.mono hw3.size)
      have B5 := B3.below hk5
      clear hf4'
      by_cases he : (encR e.data).2 = 0
      rotate_left
      · refine kgo ?_
        exact WQ.ret1 rfl rfl ⟨by rw [hc0, if_pos he]; rfl, hw5⟩
      rw [if_neg (by simpa using he)] at hc0
      refine kgo ?_
      refine WL.loadMid rfl rfl rfl rfl rfl rfl (VBlk.rangeAt H5) hhl ?_
      refine kgo ?_
      refine WL.loadMid rfl rfl rfl rfl rfl rfl B5.hash (by rw [List.length_map]; exact hh) ?_
      refine WL.on rfl rfl ?_
      refine WL.neqH rfl rfl rfl rfl rfl rfl (hashR_len _) hh ?_
      by_cases hq : hashR e.data = e.hash
      · refine WL.as 27 (.bool false) rfl (congrArg Value.bool (by simp [hq])) ?_
        refine kgo ?_
        exact WQ.ret1 rfl rfl ⟨by rw [hc0, if_pos hq, ← he]; rfl, hw5⟩
      · refine WL.as 27 (.bool true) rfl (congrArg Value.bool (by simp [hq])) ?_
        refine kgo ?_
        exact WQ.ret1 rfl rfl ⟨by rw [hc0, if_neg hq], hw5⟩
/-- The cells of a block that lies in a block of its own. -/
structure BkAt (T g : Nat) (w : World) (b : Bk) (se : Value) : Prop where
  blk : VBlk T w g (bkC b se)
  pl : b.prev.length = 32
section
variable {T g : Nat} {w w' : World} {b : Bk} {se : Value}
theorem BkAt.len (h : BkAt T g w b se) : (bkC b se).length = 36 := by simp [bkC, h.pl]
theorem BkAt.index (h : BkAt T g w b se) : w.cell? ⟨g, 0, none⟩ = some (.int .i64 b.index) := h.blk.cell 0 (by simp [bkC])
theorem BkAt.time (h : BkAt T g w b se) : w.cell? ⟨g, 1, none⟩ = some (.int .i64 b.time) := h.blk.cell 1 (by simp [bkC])
theorem BkAt.txn (h : BkAt T g w b se) : w.cell? ⟨g, 2, none⟩ = some (.int .i64 b.txn) := h.blk.cell 2 (by simp [bkC])
theorem BkAt.prev (h : BkAt T g w b se) : w.rangeAt g 3 (hashC b.prev) := VBlk.part h.blk [.int .i64 b.index, .int .i64 b.time, .int .i64 b.txn] (hashC b.prev) [se] rfl
theorem BkAt.ents (h : BkAt T g w b se) : w.cell? ⟨g, 35, none⟩ = some se := by
  have := h.blk.cell 35 (by rw [h.len]; omega)
  rw [this, List.getD_eq_getElem?_getD]
  have h1 : bkC b se = (.int .i64 b.index :: .int .i64 b.time :: .int .i64 b.txn :: hashC b.prev) ++ [se] := by simp [bkC]
  rw [h1, List.getElem?_append_right (by simp [h.pl])]
  simp [h.pl]
theorem BkAt.keep (h : BkAt T g w b se) {K : Nat → Prop} (hk : Keep K w w') (hb : K g) : BkAt T g w' b se := ⟨VBlk.keep h.blk hk hb, h.pl⟩
theorem BkAt.below (h : BkAt T g w b se) (hk : Below w.heap.size w w') : BkAt T g w' b se := ⟨VBlk.below h.blk hk h.blk.lt, h.pl⟩
end
def NewBu (w : World) (l : List Int) (r : Ending) (w' : World) : Prop := ∃ v, r = .returned v ∧ Bu w' v l ∧ Below w.heap.size w w' ∧ ∀ g, v.ownBlock = some g → w.heap.size ≤ g
theorem head_any {f : Nat} {w : World} {b : Bk} {cs : List Value} (h : IsB f w b cs) : Calls Tryz.prog 38 #[.agg cs.toArray] w (NewBu w (headL b)) := by
  obtain ⟨se, rfl, hents, hpl, hpb, hi, ht, hx⟩ := h
  refine enter (args := [.agg (bkC b se).toArray]) Tryz.func38 rfl Tryz.ntmps38 rfl ?_
  refine kgo ?_
  refine WL.box rfl rfl rfl rfl rfl fun g w1 hf => ?_
  have hf' : Fresh w g w1 26 (bkC b se) := hf
  clear hf
  have hg0 : Grow w (.slice none 0 0) w1 (.slice none 0 0) := (Grow.refl w _).below hf'.below
  have hR : ∀ {wk vk}, Grow w1 (.slice none 0 0) wk vk → BkAt 26 g wk b se := fun h => ⟨hf'.stand (Bu.nil w) h, hpl⟩
  have h1 := uvB_len b.index.toNat
  have h2 := uvB_len b.time.toNat
  have h3 := uvB_len b.txn.toNat
  refine kgo ?_
  refine WC.drawn 11 (fun wx => BkAt 26 g wx b se) fun w2 hd2 => ?_
  have g2 : Grow w1 (.slice none 0 0) w2 (.slice none 0 0) := (Grow.refl w1 _).below (hd2.below _)
  have hS := hR g2
  (((first | refine WD.free 0 rfl (by kernel_rfl) rfl rfl (fun _ _ _ _ _ h => h) rfl rfl (.inr hS) ?_ | refine WD.skip 0 rfl (by kernel_rfl) rfl rfl (fun _ _ _ _ _ h => h) rfl (.inr hS) ?_); try (first | ((with_reducible refine WD.topT ?_ ?_); omega) | ((with_reducible refine WD.topF ?_ ?_); omega) | ((with_reducible refine WD.top64 ?_ ?_); omega))))
  refine WD.load 1 [2, 5, 8, 11, 12] rfl (by kernel_rfl) rfl rfl (fun _ _ _ _ _ h => h) rfl rfl rfl rfl (fun wx hx => hx.index) hS ?_
  (((first | refine WD.free 3 rfl (by kernel_rfl) rfl rfl (fun _ _ _ _ _ h => h) rfl rfl (.inr hS) ?_ | refine WD.skip 3 rfl (by kernel_rfl) rfl rfl (fun _ _ _ _ _ h => h) rfl (.inr hS) ?_); try (first | ((with_reducible refine WD.topT ?_ ?_); omega) | ((with_reducible refine WD.topF ?_ ?_); omega) | ((with_reducible refine WD.top64 ?_ ?_); omega))))
  refine WD.load 4 [5, 8, 11, 12] rfl (by kernel_rfl) rfl rfl (fun _ _ _ _ _ h => h) rfl rfl rfl rfl (fun wx hx => hx.time) hS ?_
  (((first | refine WD.free 6 rfl (by kernel_rfl) rfl rfl (fun _ _ _ _ _ h => h) rfl rfl (.inr hS) ?_ | refine WD.skip 6 rfl (by kernel_rfl) rfl rfl (fun _ _ _ _ _ h => h) rfl (.inr hS) ?_); try (first | ((with_reducible refine WD.topT ?_ ?_); omega) | ((with_reducible refine WD.topF ?_ ?_); omega) | ((with_reducible refine WD.top64 ?_ ?_); omega))))
  refine WD.load 7 [8, 11, 12] rfl (by kernel_rfl) rfl rfl (fun _ _ _ _ _ h => h) rfl rfl rfl rfl (fun wx hx => hx.txn) hS ?_
  (((first | refine WD.free 9 rfl (by kernel_rfl) rfl rfl (fun _ _ _ _ _ h => h) rfl rfl (.inr hS) ?_ | refine WD.skip 9 rfl (by kernel_rfl) rfl rfl (fun _ _ _ _ _ h => h) rfl (.inr hS) ?_); try (first | ((with_reducible refine WD.topT ?_ ?_); omega) | ((with_reducible refine WD.topF ?_ ?_); omega) | ((with_reducible refine WD.top64 ?_ ?_); omega))))
  refine WD.all 10 rfl (by kernel_rfl) rfl rfl (fun _ _ _ _ _ h => h) rfl rfl rfl rfl (.inr hS) ?_
  refine WD.one 2 (by kernel_rfl) rfl ?_
  refine WL.call rfl rfl rfl rfl rfl Tryz.func59 rfl (by kernel_rfl) (number11_any b.index (Bu.nil w2) hi (by simp)) ?_
  rintro _ w3 ⟨b3, rfl, hb3, hg3⟩
  refine ⟨_, rfl, ?_⟩
  have g3 := g2.trans hg3
  refine WL.nil (WQ.dk (.inr (hR g3)) ?_)
  rw [List.nil_append] at hb3
  refine WD.one 5 (by kernel_rfl) rfl ?_
  refine WL.call rfl rfl rfl rfl rfl Tryz.func59 rfl (by kernel_rfl) (number11_any b.time hb3 ht (by omega)) ?_
  rintro _ w4 ⟨b4, rfl, hb4, hg4⟩
  refine ⟨_, rfl, ?_⟩
  have g4 := g3.trans hg4
  refine WL.nil (WQ.dk (.inr (hR g4)) ?_)
  refine WD.one 8 (by kernel_rfl) rfl ?_
  refine WL.call rfl rfl rfl rfl rfl Tryz.func59 rfl (by kernel_rfl) (number11_any b.txn hb4 hx (by rw [List.length_append]; omega)) ?_
  rintro _ w5 ⟨b5, rfl, hb5, hg5⟩
  refine ⟨_, rfl, ?_⟩
  have g5 := g4.trans hg5
  refine WL.nil (WQ.dk (.inr (hR g5)) ?_)
  refine WD.one 11 (by kernel_rfl) rfl ?_
  refine WL.app rfl rfl rfl rfl rfl hb5 rfl (hash_sl (hR g5).prev hpl (hR g5).blk.lt) (by rw [List.length_append, List.length_append]; omega) fun b6 w6 hb6 hg6 => ?_
  have g6 := g5.trans hg6
  refine WL.nil (WQ.dk (.inl rfl) ?_)
  refine WD.one 12 (by kernel_rfl) rfl ?_
  refine WL.pure rfl rfl rfl rfl ?_
  refine WL.nil (WQ.dk (.inl rfl) ?_)
  refine WD.done (by kernel_rfl) ?_
  refine kgo ?_
  have g7 := hg0.trans g6
  refine WQ.ret1 rfl rfl ⟨b6, rfl, ?_, g7.old (Nat.le_refl _) (fun g h => by cases h), g7.own (Nat.le_refl _) (fun g h => by cases h)⟩
  unfold headL
  simpa [List.append_assoc] using hb6
end K
end Go.Proofs.YtlamdhekjlnccaaGreatDoor

/- Blocks (chapter 11): lay, Check, Encode. -/
namespace Go.Proofs.YtlamdhekjlnccaaGreatDoor
open Go.RowKit
namespace K
theorem layX_len {data : Bool} {e : En} (h : chkE e = 0) (hh : e.hash.length = 32) : (layE e ++ layD data e).length ≤ 80000 := by
  obtain ⟨hf, hd⟩ := chkE_ok h
  obtain ⟨-, -, -, -, hx, -⟩ := formE_rng hf
  have h1 := layE_len e hh
  have h2 : (layD data e).length ≤ 70000 := by
    unfold layD
    by_cases k2 : e.kind = 2
    · rw [if_pos k2]
      by_cases hg : e.gone = true ∨ data = false
      · rw [if_pos hg]; simp
      · rw [if_neg hg]
        have hgf : e.gone = false := by cases hq : e.gone with
          | true => exact absurd (.inl hq) hg
          | false => rfl
        obtain ⟨he, -⟩ := hd k2 hgf
        obtain ⟨-, hl, hx⟩ := encR_ok he
        have := uvB_len (encV 16 e.data).length
        rw [hx]
        simp only [List.length_cons, List.length_append]
        omega
    · rw [if_neg k2]; simp
  rw [List.length_append]; omega
theorem layXs_len {data : Bool} : ∀ (es : List En), (∀ e ∈ es, chkE e = 0 ∧ e.hash.length = 32) → (es.flatMap fun e => layE e ++ layD data e).length ≤ 80000 * es.length
  | [], _ => by simp
  | e :: es, h => by
    have h1 := layX_len (data := data) (h e (by simp)).1 (h e (by simp)).2
    have h2 := layXs_len (data := data) es fun x hx => h x (List.mem_cons_of_mem _ hx)
    rw [List.flatMap_cons, List.length_append, List.length_cons]
    omega
/-- An entry of a row. -/
theorem Els.at {α : Type} {m : Nat} {z : α} {P : α → List Value → Prop} {O : Nat → Prop} {w : World} {v : Value} {l : List α} (h : Els m z P O w v l) {j : Nat} (hj : j < l.length) :
    ∃ b o cap cs, v = .slice (some ⟨b, o, none⟩) l.length cap ∧ b < w.heap.size ∧ cs.length = m ∧ P (l.getD j z) cs ∧ w.rangeAt b (o + j * m) cs := by
  obtain ⟨sp, cap, rfl, -, -, -, h4⟩ := h
  obtain ⟨b, o, rfl, hb, -, hr⟩ := h4 (by omega)
  obtain ⟨cs, h1, h2, h3⟩ := hr j hj
  exact ⟨b, o, cap, cs, rfl, hb, h1, h2, h3⟩
theorem Els.slice {α : Type} {m : Nat} {z : α} {P : α → List Value → Prop} {O : Nat → Prop} {w : World} {v : Value} {l : List α} (h : Els m z P O w v l) : ∃ sp cap, v = .slice sp l.length cap := by
  obtain ⟨sp, cap, rfl, -⟩ := h; exact ⟨sp, cap, rfl⟩
theorem take_snoc {α : Type} (l : List α) (z : α) {i : Nat} (h : i < l.length) : l.take (i + 1) = l.take i ++ [l.getD i z] := by rw [List.take_add_one]; simp [h]
theorem BkP.hashes {f : Nat} {w : World} {b : Bk} {cs : List Value} (h : IsB f w b cs) : ∀ e ∈ b.ents, e.hash.length = 32 ∧ RngE e := by
  intro e he
  obtain ⟨j, hj, rfl⟩ := List.getElem_of_mem he
  obtain ⟨se, -, hents, -⟩ := h
  obtain ⟨_, _, _, cs, -, -, -, ⟨dc, -, hv, -, -, hl, -⟩, -⟩ := hents.at hj
  have e1 : b.ents.getD j noE = b.ents[j] := by simp [hj]
  rw [e1] at hv hl
  exact ⟨hl, ⟨f, IsV.rng hv⟩, hl⟩
set_option maxHeartbeats 8000000 in
theorem lay11_any {f : Nat} {w : World} {b : Bk} {cs : List Value} (data : Bool) (h : IsB f w b cs) (hck : ∀ e ∈ b.ents, chkE e = 0) (hle : b.ents.length ≤ 200) : Calls Tryz.prog 33 #[.agg cs.toArray, .bool data] w (NewBu w (layB data b)) := by
  have hall := h
  have hhs := BkP.hashes h
  have hcl := h.len
  obtain ⟨se, rfl, hents, hpl, hpb, hr⟩ := h
  obtain ⟨sp, cap, rfl⟩ := hents.slice
  refine enter (args := [.agg (bkC b (.slice sp b.ents.length cap)).toArray, .bool data]) Tryz.func33 rfl Tryz.ntmps33 rfl ?_
  refine kgo ?_
  refine WL.box rfl rfl rfl rfl rfl fun g w1 hf => ?_
  have hf' : Fresh w g w1 26 (bkC b (.slice sp b.ents.length cap)) := hf
  clear hf
  have hw1 := hf'.below
  have B1 : BkAt 26 g w1 b (.slice sp b.ents.length cap) := ⟨hf'.blk, hpl⟩
  clear hf'
  refine kgo ?_
  refine WL.loadMid rfl rfl rfl rfl rfl rfl (VBlk.rangeAt B1.blk) hcl ?_
  refine WL.call rfl rfl rfl rfl rfl Tryz.func38 rfl (by kernel_rfl) (head_any (IsB.below hw1 hall)) ?_
  rintro _ w2 ⟨b2, rfl, hb2, hk2, ho2⟩
  refine ⟨_, rfl, ?_⟩
  have hw2 := hw1.trans (hk2.mono hw1.size)
  have B2 := B1.below hk2
  have ha2 : Apart w w2 b2 := ⟨hw2, fun g hg => Nat.le_trans hw1.size (ho2 g hg)⟩
  have hhl : (headL b).length ≤ 70 := by
    have h1 := uvB_len b.index.toNat
    have h2 := uvB_len b.time.toNat
    have h3 := uvB_len b.txn.toNat
    unfold headL; simp only [List.length_append]; omega
  refine kgo ?_
  refine WL.load rfl rfl rfl rfl rfl rfl B2.ents ?_
  refine kgo ?_
  refine WL.call rfl rfl rfl rfl rfl Tryz.func59 rfl (by kernel_rfl) (number11_any (b.ents.length : Int) hb2 (by show R64 _; omega) (by omega)) ?_
  rintro _ w3 ⟨b3, rfl, hb3, hg3⟩
  refine ⟨_, rfl, ?_⟩
  rw [Int.toNat_natCast] at hb3
  have ha3 := ha2.grow hg3
  have B3 : BkAt 26 g w3 b (.slice sp b.ents.length cap) := B2.keep hg3.1 ⟨B2.blk.lt, fun e => by have := ho2 g e; have := B1.blk.lt; omega⟩
  have hun := uvB_len b.ents.length
  have hM : (headL b ++ uvB b.ents.length).length ≤ 80 := by rw [List.length_append]; omega
  have hML : layB data b = (headL b ++ uvB b.ents.length) ++ b.ents.flatMap fun e => layE e ++ layD data e := by unfold layB; rw [List.append_assoc]
  generalize headL b ++ uvB b.ents.length = M at hb3 hM hML
  refine kgo ?_
  refine WL.load rfl rfl rfl rfl rfl rfl B3.ents ?_
  refine kgo ?_
  refine WC.loop (fun i : Nat × Value => [(1, .bool data), (5, i.2), (18, .slice sp b.ents.length cap), (19, .int .i64 b.ents.length), (20, .int .i64 i.1)])
    (fun i w' => i.1 ≤ b.ents.length ∧ Bu w' i.2 (M ++ (b.ents.take i.1).flatMap fun e => layE e ++ layD data e) ∧ Apart w w' i.2) (fun i => b.ents.length - i.1) (0, b3) ⟨rfl, rfl, rfl, rfl, rfl, trivial⟩ ⟨Nat.zero_le _, by simpa using hb3, ha3⟩ ?_
  rintro ⟨i, br⟩ wr ⟨hi, hbr, har⟩
  simp only at hi hbr har ⊢
  by_cases hik : i < b.ents.length
  · have hlen : (M ++ (b.ents.take i).flatMap fun e => layE e ++ layD data e).length ≤ 80 + 80000 * 200 := by
      have := layXs_len (data := data) (b.ents.take i) fun e he => ⟨hck e (List.mem_of_mem_take he), (hhs e (List.mem_of_mem_take he)).1⟩
      rw [List.length_take] at this
      rw [List.length_append]
      have h2 : min i b.ents.length ≤ 200 := by omega
      have := Nat.mul_le_mul_left 80000 h2
      omega
    have hts := take_snoc b.ents noE hik
    obtain ⟨kb, ko, cap', cs, hse, hkb, hc46, hce, hcr⟩ := hents.at hik
    injection hse with hse1 _ hse2
    subst hse1; subst hse2
    have hmem : b.ents.getD i noE ∈ b.ents := by simp [hik]
    have hce0 := hck _ hmem
    have hh32 := (hhs _ hmem).1
    obtain ⟨hform, hdat⟩ := chkE_ok hce0
    obtain ⟨hkd, -, -, -, htx, -⟩ := formE_rng hform
    generalize b.ents.getD i noE = e at hce hce0 hh32 hform hdat hkd htx hts
    generalize hLL : (M ++ (b.ents.take i).flatMap fun e => layE e ++ layD data e) = L at hbr hlen
    have hle := layE_len e hh32
    have again : ∀ {wx : World} {bx : Value}, Bu wx bx (L ++ (layE e ++ layD data e)) → Apart w wx bx → Bu wx bx (M ++ (b.ents.take (i + 1)).flatMap fun e => layE e ++ layD data e) ∧ Apart w wx bx := fun {wx bx} h1 h2 => by
      rw [hts, List.flatMap_append, ← List.append_assoc, hLL]
      exact ⟨by simpa using h1, h2⟩
    have hone := hce.one
    have hce' := hce
    obtain ⟨dc, rfl, hv, hdl, -, hh, -⟩ := hce
    refine kgo ?_
    refine WL.idx i (ko + i * 46) rfl rfl rfl rfl rfl rfl rfl rfl hik rfl ?_
    refine WL.loadMid rfl rfl rfl rfl rfl rfl (fun j u hu => (har.below.cell (p := ⟨kb, ko + i * 46 + j, none⟩) hkb).trans (hcr j u hu)) hc46 ?_
    refine WL.alloc (z := .agg (enC noE zCells).toArray) rfl rfl rfl rfl (fun _ => by kernel_rfl) fun c w5 hf5 => ?_
    have hf5' : Fresh wr c w5 45 (enC noE zCells) := hf5
    clear hf5
    refine kgo ?_
    refine WL.storeRow rfl rfl rfl rfl rfl rfl hf5'.blk hc46 (by rfl) hone ?_
    have hk6 : Below wr.heap.size wr (w5.setRow c (enC e dc).toArray) := below_setRow hf5'.below (by rw [hf5'.eq]; exact Nat.le_refl _) _
    have C6 : EnAt 45 c (w5.setRow c (enC e dc).toArray) e dc := ⟨hf5'.blk.setRow _, hdl, hh⟩
    have hce5 := hf5'.eq
    generalize w5.setRow c (enC e dc).toArray = w6 at hk6 C6
    clear hf5'
    have hb6 := hbr.below hk6
    have g6 : Grow wr br w6 br := (Grow.refl wr br).below hk6
    have hco : br.ownBlock ≠ some c := fun e => by have := hbr.lt _ e; omega
    have hR : ∀ {wk vk}, Grow w6 br wk vk → EnAt 45 c wk e dc := fun h => C6.keep h.1 ⟨C6.blk.lt, hco⟩
    refine kgo ?_
    refine WL.loadMid rfl rfl rfl rfl rfl rfl (VBlk.rangeAt C6.blk) hc46 ?_
    refine WL.call rfl rfl rfl rfl rfl Tryz.func42 rfl (by kernel_rfl) (layEntry_any hce' hkd hb6 (by omega)) ?_
    rintro _ w7 ⟨b7, rfl, hb7, g7⟩
    refine ⟨_, rfl, ?_⟩
    refine kgo ?_
    refine WL.load rfl rfl rfl rfl rfl rfl (hR g7).kind ?_
    by_cases k2 : e.kind = 2
    rotate_left
    · have hX : layD data e = [] := by unfold layD; rw [if_neg k2]
      refine kgo ?_
      refine WQ.again (i + 1, b7) ⟨rfl, rfl, rfl, rfl, rfl, trivial⟩ ⟨hik, again (by rw [hX, List.append_nil]; exact hb7) (har.grow (g6.trans g7))⟩ (by show b.ents.length - (i + 1) < b.ents.length - i; omega)
    refine kgo ?_
    refine WL.load rfl rfl rfl rfl rfl rfl (hR g7).gone ?_
    by_cases hgd : e.gone = true ∨ data = false
    · have hX : layD data e = [0] := by unfold layD; rw [if_pos k2, if_pos hgd]
      have hcase : e.gone = true ∨ (e.gone = false ∧ data = false) := by
        cases hq : e.gone with
        | true => exact .inl rfl
        | false => exact .inr ⟨rfl, hgd.resolve_left (by rw [hq]; simp)⟩
      rcases hcase with hq | ⟨hq, hdf⟩
      · rw [hq]
        refine kgo ?_
        refine WL.push rfl rfl rfl rfl rfl rfl rfl rfl rfl rfl rfl (fun _ => rfl) rfl hb7 (by rw [List.length_append]; simp only [List.length_cons, List.length_nil]; omega) fun b8 w8 hb8 g8 => ?_
        refine kgo ?_
        refine WQ.again (i + 1, b8) ⟨rfl, rfl, rfl, rfl, rfl, trivial⟩ ⟨hik, again (by rw [hX, ← List.append_assoc]; exact hb8) (har.grow ((g6.trans g7).trans g8))⟩ (by show b.ents.length - (i + 1) < b.ents.length - i; omega)
      · rw [hq]
        subst hdf
        refine kgo ?_
        refine WL.push rfl rfl rfl rfl rfl rfl rfl rfl rfl rfl rfl (fun _ => rfl) rfl hb7 (by rw [List.length_append]; simp only [List.length_cons, List.length_nil]; omega) fun b8 w8 hb8 g8 => ?_
        refine kgo ?_
        refine WQ.again (i + 1, b8) ⟨rfl, rfl, rfl, rfl, rfl, trivial⟩ ⟨hik, again (by rw [hX, ← List.append_assoc]; exact hb8) (har.grow ((g6.trans g7).trans g8))⟩ (by show b.ents.length - (i + 1) < b.ents.length - i; omega)
    · have hgf : e.gone = false := by cases hq : e.gone with
        | true => exact absurd (.inl hq) hgd
        | false => rfl
      obtain rfl : data = true := by cases data with
        | true => rfl
        | false => exact absurd (.inr rfl) hgd
      have hX : layD true e = 1 :: (uvB (encR e.data).1.length ++ (encR e.data).1) := by unfold layD; rw [if_pos k2, if_neg hgd]
      obtain ⟨he, -⟩ := hdat k2 hgf
      obtain ⟨hc, hl65, hx⟩ := encR_ok he
      have hun := uvB_len (encR e.data).1.length
      rw [← hx] at hl65
      rw [hgf]
      have har7 := har.grow (g6.trans g7)
      refine kgo ?_
      refine WL.loadMid rfl rfl rfl rfl rfl rfl (hR g7).data hdl ?_
      refine WL.call rfl rfl rfl rfl rfl Tryz.func60 rfl (by kernel_rfl) (encode_any (hv.below har7.below) fun _ => by rw [← hx]; omega) ?_
      rintro _ w8 ⟨b8, rfl, hb8, hk8, ho8⟩
      refine ⟨_, rfl, ?_⟩
      obtain ⟨sp8, cap8, rfl, -⟩ := hb8.form
      have hb78 := hb7.below hk8
      have g8 : Grow w7 b7 w8 b7 := (Grow.refl w7 b7).below hk8
      refine kgo ?_
      refine WL.push rfl rfl rfl rfl rfl rfl rfl rfl rfl rfl rfl (fun _ => rfl) rfl hb78 (by rw [List.length_append]; simp only [List.length_cons, List.length_nil]; omega) fun b9 w9 hb9 g9 => ?_
      refine kgo ?_
      refine WL.call rfl rfl rfl rfl rfl Tryz.func59 rfl (by kernel_rfl) (number11_any ((encR e.data).1.length : Int) hb9 (by show R64 _; omega) (by rw [List.length_append, List.length_append]; simp only [List.length_cons, List.length_nil]; omega)) ?_
      rintro _ w10 ⟨b10, rfl, hb10, g10⟩
      refine ⟨_, rfl, ?_⟩
      rw [Int.toNat_natCast] at hb10
      have hs10 : Sl .u8 w10 (.slice sp8 (encR e.data).1.length cap8) (encR e.data).1 := hb8.sl.keep (g9.trans g10).1 fun b o n c hb hlt => ⟨hlt, fun e1 => by
        injection hb with hb1 _ _
        have h1 := ho8 b (by rw [hb1]; rfl)
        have h2 := hb7.lt _ e1
        omega⟩
      refine kgo ?_
      refine WL.app rfl rfl rfl rfl rfl hb10 rfl hs10 (by simp only [List.length_append, List.length_cons, List.length_nil]; omega) fun b11 w11 hb11 g11 => ?_
      refine kgo ?_
      refine WQ.again (i + 1, b11) ⟨rfl, rfl, rfl, rfl, rfl, trivial⟩ ⟨hik, again (by rw [hX]; simpa [List.append_assoc] using hb11) ((((har7.grow g8).grow g9).grow g10).grow g11)⟩ (by show b.ents.length - (i + 1) < b.ents.length - i; omega)
  · obtain rfl : i = b.ents.length := by omega
    rw [List.take_length] at hbr
    refine kgo ?_
    refine WQ.ret1 rfl rfl ⟨br, rfl, ?_, har.below, har.own⟩
    rw [hML]
    exact hbr
end K
end Go.Proofs.YtlamdhekjlnccaaGreatDoor

/- Blocks (chapter 11): Check, Encode. -/
namespace Go.Proofs.YtlamdhekjlnccaaGreatDoor
open Go.RowKit
namespace K
set_option maxHeartbeats 4000000 in
theorem check11_any {f : Nat} {w : World} {b : Bk} {cs : List Value} (h : IsB f w b cs) (hlen : ∀ e ∈ b.ents, chk 16 e.data = 0 → (encV 16 e.data).length ≤ 70368744177664) : Calls Tryz.prog 9 #[.agg cs.toArray] w fun r w' => r = .returned (.int .i64 (chkB b)) ∧ Below w.heap.size w w' := by
  have hall := h
  have hcl := h.len
  obtain ⟨se, rfl, hents, hpl, hpb, hi, ht, hx⟩ := h
  obtain ⟨sp, cap, rfl⟩ := hents.slice
  refine enter (args := [.agg (bkC b (.slice sp b.ents.length cap)).toArray]) Tryz.func9 rfl Tryz.ntmps9 rfl ?_
  refine kgo ?_
  refine WL.box rfl rfl rfl rfl rfl fun g w1 hf => ?_
  have hf' : Fresh w g w1 26 (bkC b (.slice sp b.ents.length cap)) := hf
  clear hf
  have hw1 := hf'.below
  have B1 : BkAt 26 g w1 b (.slice sp b.ents.length cap) := ⟨hf'.blk, hpl⟩
  clear hf'
  have bad : ¬ ((0 ≤ b.index ∧ b.index ≤ 2147483648) ∧ (0 ≤ b.time ∧ b.time ≤ 9007199254740992) ∧ (0 ≤ b.txn ∧ b.txn ≤ 9007199254740992) ∧ (1 ≤ b.ents.length ∧ b.ents.length ≤ 200)) → Ending.returned (Value.int .i64 1) = .returned (.int .i64 (chkB b)) := fun h => by unfold chkB; rw [if_neg h]
  refine kgo ?_
  refine WL.load rfl rfl rfl rfl rfl rfl B1.index ?_
  refine WL.call rfl rfl rfl rfl rfl Tryz.func31 rfl (by kernel_rfl) (within_any _ _ _ _) ?_
  rintro _ w1 ⟨rfl, rfl⟩
  refine ⟨_, rfl, ?_⟩
  by_cases c1 : 0 ≤ b.index ∧ b.index ≤ 2147483648
  rotate_left
  · refine WL.as 8 (.bool false) rfl (congrArg Value.bool (decide_eq_false c1)) ?_
    refine kgo ?_
    exact WQ.ret1 rfl rfl ⟨bad fun h => c1 h.1, hw1⟩
  refine WL.as 8 (.bool true) rfl (congrArg Value.bool (decide_eq_true c1)) ?_
  refine kgo ?_
  refine WL.load rfl rfl rfl rfl rfl rfl B1.time ?_
  refine WL.on rfl rfl ?_
  refine WL.call rfl rfl rfl rfl rfl Tryz.func31 rfl (by kernel_rfl) (within_any _ _ _ _) ?_
  rintro _ w1 ⟨rfl, rfl⟩
  refine ⟨_, rfl, ?_⟩
  by_cases c2 : 0 ≤ b.time ∧ b.time ≤ 9007199254740992
  rotate_left
  · refine WL.as 13 (.bool false) rfl (congrArg Value.bool (decide_eq_false c2)) ?_
    refine kgo ?_
    exact WQ.ret1 rfl rfl ⟨bad fun h => c2 h.2.1, hw1⟩
  refine WL.as 13 (.bool true) rfl (congrArg Value.bool (decide_eq_true c2)) ?_
  refine kgo ?_
  refine WL.load rfl rfl rfl rfl rfl rfl B1.txn ?_
  refine WL.on rfl rfl ?_
  refine WL.call rfl rfl rfl rfl rfl Tryz.func31 rfl (by kernel_rfl) (within_any _ _ _ _) ?_
  rintro _ w1 ⟨rfl, rfl⟩
  refine ⟨_, rfl, ?_⟩
  by_cases c3 : 0 ≤ b.txn ∧ b.txn ≤ 9007199254740992
  rotate_left
  · refine WL.as 19 (.bool false) rfl (congrArg Value.bool (decide_eq_false c3)) ?_
    refine kgo ?_
    exact WQ.ret1 rfl rfl ⟨bad fun h => c3 h.2.2.1, hw1⟩
  refine WL.as 19 (.bool true) rfl (congrArg Value.bool (decide_eq_true c3)) ?_
  refine kgo ?_
  refine WL.load rfl rfl rfl rfl rfl rfl B1.ents ?_
  refine kgo ?_
  refine WL.call rfl rfl rfl rfl rfl Tryz.func31 rfl (by kernel_rfl) (within_any _ _ _ _) ?_
  rintro _ w1 ⟨rfl, rfl⟩
  refine ⟨_, rfl, ?_⟩
  by_cases c4 : (1 : Int) ≤ (b.ents.length : Int) ∧ (b.ents.length : Int) ≤ 200
  rotate_left
  · refine WL.as 26 (.bool false) rfl (congrArg Value.bool (decide_eq_false c4)) ?_
    refine kgo ?_
    exact WQ.ret1 rfl rfl ⟨bad fun h => c4 (by omega), hw1⟩
  refine WL.as 26 (.bool true) rfl (congrArg Value.bool (decide_eq_true c4)) ?_
  have hgood : chkB b = if firstBad (b.ents.map chkE) ≠ 0 then firstBad (b.ents.map chkE) else if 262144 < (layB true b).length then 5 else 0 := by unfold chkB; rw [if_pos ⟨c1, c2, c3, by omega⟩]
  have hmap : ∀ j, j < b.ents.length → (b.ents.map chkE).getD j 0 = chkE (b.ents.getD j noE) := fun j hj => by simp [hj]
  refine kgo ?_
  refine WL.load rfl rfl rfl rfl rfl rfl B1.ents ?_
  refine kgo ?_
  refine WC.loop (fun i : Nat => [(1, .pointer (some ⟨g, 0, none⟩)), (30, .slice sp b.ents.length cap), (31, .int .i64 b.ents.length), (32, .int .i64 i)])
    (fun i w' => i ≤ b.ents.length ∧ Below w1.heap.size w1 w' ∧ ∀ j, j < i → chkE (b.ents.getD j noE) = 0) (fun i => b.ents.length - i) 0 ⟨rfl, rfl, rfl, rfl, trivial⟩ ⟨Nat.zero_le _, Below.refl _ _, fun j hj => by omega⟩ ?_
  rintro i wr ⟨hi, hbr, hz⟩
  have hwr : Below w.heap.size w wr := hw1.trans (hbr.mono hw1.size)
  by_cases hik : i < b.ents.length
  · obtain ⟨kb, ko, cap', cs, hse, hkb, hc46, hce, hcr⟩ := hents.at hik
    injection hse with hse1 _ hse2
    subst hse1; subst hse2
    have hmem : b.ents.getD i noE ∈ b.ents := by simp [hik]
    have hl := hlen _ hmem
    have hmi := hmap i hik
    refine kgo ?_
    refine WL.idx i (ko + i * 46) rfl rfl rfl rfl rfl rfl rfl rfl hik rfl ?_
    refine WL.loadMid rfl rfl rfl rfl rfl rfl (fun j u hu => (hwr.cell (p := ⟨kb, ko + i * 46 + j, none⟩) hkb).trans (hcr j u hu)) hc46 ?_
    refine WL.alloc (z := .agg (enC noE zCells).toArray) rfl rfl rfl rfl (fun _ => by kernel_rfl) fun c w5 hf5 => ?_
    have hf5' : Fresh wr c w5 45 (enC noE zCells) := hf5
    clear hf5
    refine WL.storeRow rfl rfl rfl rfl rfl rfl hf5'.blk hc46 (by rfl) hce.one ?_
    have hk6 : Below wr.heap.size wr (w5.setRow c cs.toArray) := below_setRow hf5'.below (by rw [hf5'.eq]; exact Nat.le_refl _) _
    have C6 : VBlk 45 (w5.setRow c cs.toArray) c cs := hf5'.blk.setRow _
    generalize w5.setRow c cs.toArray = w6 at hk6 C6
    clear hf5'
    have hw6 := hwr.trans (hk6.mono hwr.size)
    refine kgo ?_
    refine WL.loadMid rfl rfl rfl rfl rfl rfl (VBlk.rangeAt C6) hc46 ?_
    refine WL.call rfl rfl rfl rfl rfl Tryz.func32 rfl (by kernel_rfl) (checkEntry_any (IsE.below hw6 hce) hl) ?_
    rintro _ w7 ⟨rfl, hk7⟩
    refine ⟨_, rfl, ?_⟩
    have hw7 := hw6.trans (hk7.mono hw6.size)
    by_cases hc : chkE (b.ents.getD i noE) = 0
    · refine kgo ?_
      refine WQ.again (i + 1) ⟨rfl, rfl, rfl, rfl, trivial⟩ ⟨hik, (hbr.trans (hk6.mono hbr.size)).trans (hk7.mono (Nat.le_trans hbr.size hk6.size)), fun j hj => ?_⟩ (by show b.ents.length - (i + 1) < b.ents.length - i; omega)
      rcases Nat.lt_or_ge j i with h | h
      · exact hz j h
      · obtain rfl : j = i := by omega
        exact hc
    · have hfb : firstBad (b.ents.map chkE) = chkE (b.ents.getD i noE) := by
        rw [← hmi]
        exact firstBad_take (by simpa using hik) (fun j hj => by rw [hmap j (by omega)]; exact hz j hj) (by rw [hmi]; exact hc)
      refine kgo ?_
      exact WQ.ret1 rfl rfl ⟨by rw [hgood, hfb, if_pos hc], hw7⟩
  · obtain rfl : i = b.ents.length := by omega
    have hfb : firstBad (b.ents.map chkE) = 0 := firstBad_all fun j hj => by
      rw [List.length_map] at hj
      rw [hmap j hj]; exact hz j hj
    have hck : ∀ e ∈ b.ents, chkE e = 0 := fun e he => firstBad_zero.1 hfb _ (List.mem_map_of_mem he)
    have Br := B1.below hbr
    rw [if_neg (by simpa using hfb)] at hgood
    refine kgo ?_
    refine WL.loadMid rfl rfl rfl rfl rfl rfl (VBlk.rangeAt Br.blk) hcl ?_
    refine WL.call rfl rfl rfl rfl rfl Tryz.func33 rfl (by kernel_rfl) (lay11_any true (IsB.below hwr hall) hck (by omega)) ?_
    rintro _ w8 ⟨b8, rfl, hb8, hk8, -⟩
    refine ⟨_, rfl, ?_⟩
    obtain ⟨sp8, cap8, rfl, -⟩ := hb8.form
    have hw8 := hwr.trans (hk8.mono hwr.size)
    by_cases hbig : 262144 < (layB true b).length
    · refine kgo ?_
      exact WQ.ret1 rfl rfl ⟨by rw [hgood, if_pos hbig], hw8⟩
    · refine kgo ?_
      exact WQ.ret1 rfl rfl ⟨by rw [hgood, if_neg hbig], hw8⟩
/-- What Encode tells. -/
noncomputable def encB (data : Bool) (b : Bk) : List Int × Int := if chkB b ≠ 0 then ([], chkB b) else (layB data b, 0)
def EncBPost (data : Bool) (w : World) (b : Bk) (e : Ending) (w' : World) : Prop := ∃ v, e = .returned (.tuple #[v, .int .i64 (encB data b).2]) ∧ Bu w' v (encB data b).1 ∧ Below w.heap.size w w' ∧ ∀ g, v.ownBlock = some g → w.heap.size ≤ g
theorem encode11_any {f : Nat} {w : World} {b : Bk} {cs : List Value} (data : Bool) (h : IsB f w b cs) (hlen : ∀ e ∈ b.ents, chk 16 e.data = 0 → (encV 16 e.data).length ≤ 70368744177664) : Calls Tryz.prog 45 #[.agg cs.toArray, .bool data] w (EncBPost data w b) := by
  have hcl := h.len
  refine enter (args := [.agg cs.toArray, .bool data]) Tryz.func45 rfl Tryz.ntmps45 rfl ?_
  refine kgo ?_
  refine WL.box rfl rfl rfl rfl rfl fun g w1 hf => ?_
  have hf' : Fresh w g w1 26 cs := hf
  clear hf
  have hw1 := hf'.below
  have B1 := hf'.blk
  clear hf'
  refine kgo ?_
  refine WL.loadMid rfl rfl rfl rfl rfl rfl (VBlk.rangeAt B1) hcl ?_
  refine WL.call rfl rfl rfl rfl rfl Tryz.func9 rfl (by kernel_rfl) (check11_any (IsB.below hw1 h) hlen) ?_
  rintro _ w2 ⟨rfl, hk2⟩
  refine ⟨_, rfl, ?_⟩
  have hw2 := hw1.trans (hk2.mono hw1.size)
  by_cases hc : chkB b = 0
  · have hr : encB data b = (layB data b, 0) := by unfold encB; rw [if_neg (by simpa using hc)]
    obtain ⟨⟨-, -, -, hl⟩, hck, -⟩ := chkB_ok hc
    refine kgo ?_
    refine WL.loadMid rfl rfl rfl rfl rfl rfl (VBlk.rangeAt (B1.below hk2 B1.lt)) hcl ?_
    refine kgo ?_
    refine WL.call rfl rfl rfl rfl rfl Tryz.func33 rfl (by kernel_rfl) (lay11_any data (IsB.below hw2 h) hck hl.2) ?_
    rintro _ w3 ⟨b3, rfl, hb3, hk3, ho3⟩
    refine ⟨_, rfl, ?_⟩
    refine kgo ?_
    exact WQ.ret2 rfl rfl rfl ⟨b3, by rw [hr], by rw [hr]; exact hb3, hw2.trans (hk3.mono hw2.size), fun g hg => Nat.le_trans hw2.size (ho3 g hg)⟩
  · have hr : encB data b = ([], chkB b) := by unfold encB; rw [if_pos hc]
    refine kgo ?_
    exact WQ.ret2 rfl rfl rfl ⟨_, by rw [hr], by rw [hr]; exact Bu.nil _, hw2, fun g hg => by cases hg⟩
end K
end Go.Proofs.YtlamdhekjlnccaaGreatDoor

/- Blocks are read (chapter 11): Decode. -/
namespace Go.Proofs.YtlamdhekjlnccaaGreatDoor
open Go.RowKit
namespace K
section
variable {T g : Nat} {w w' : World} {b : Bk} {se : Value}
theorem BkAt.setEnts (h : BkAt T g w b se) (v : Value) (es : List En) : BkAt T g (w.setCell ⟨g, 35, none⟩ v) { b with ents := es } v := by
  refine ⟨?_, h.pl⟩
  have := h.blk.set 35 v
  have h1 : ∀ se, bkC b se = (.int .i64 b.index :: .int .i64 b.time :: .int .i64 b.txn :: hashC b.prev) ++ [se] := fun se => by simp [bkC]
  have h2 : (Value.int IntKind.i64 b.index :: .int .i64 b.time :: .int .i64 b.txn :: hashC b.prev).length = 35 := by simp [h.pl]
  rw [h1, List.set_append_right _ _ (by omega), h2] at this
  exact this
theorem BkAt.copyPrev (h : BkAt T g w b se) {x : List Int} (hx : x.length = 32 ∨ x = []) : BkAt T g (w.setRow g ((bkC b se).take 3 ++ x.map (Value.int .u8) ++ (bkC b se).drop (3 + x.length)).toArray) { b with prev := if x = [] then b.prev else x } se := by
  rcases hx with hx | rfl
  · have hne : ¬ x = [] := fun h => by rw [h] at hx; cases hx
    rw [if_neg hne, hx]
    refine ⟨?_, hx⟩
    have := h.blk.setRow ((bkC b se).take 3 ++ x.map (Value.int .u8) ++ (bkC b se).drop (3 + 32))
    have e1 : (bkC b se).take 3 ++ x.map (Value.int .u8) ++ (bkC b se).drop (3 + 32) = bkC { b with prev := x } se := by
      have h3 : (hashC b.prev).length = 32 := by simp [h.pl]
      unfold bkC
      simp only [List.take_succ_cons, List.take_zero, List.drop_succ_cons, Nat.add_comm 3 32, List.cons_append, List.nil_append]
      rw [List.drop_left' h3]
    rw [e1] at this ⊢
    exact this
  · simp only [List.map_nil, List.append_nil, List.length_nil, Nat.add_zero, List.take_append_drop, if_pos]
    exact ⟨h.blk.setRow _, h.pl⟩
end
/-- The block in g grows by entries, read by the reader in rb. -/
structure EnsW (rb g : Nat) (w0 w : World) (b : Bk) (se : Value) (q : Nat → Prop) : Prop where
  a : BkAt 26 g w b se
  ents : OwnE 45 46 noE (IsEo q 17 w) (fun x => w0.heap.size ≤ x ∧ x ≠ g) w se b.ents
  qs : ∀ x, q x → w0.heap.size ≤ x ∧ x < w.heap.size ∧ x ≠ g ∧ se.ownBlock ≠ some x
  keep : KeepR rb w0 w
  ge : w0.heap.size ≤ g
  rlt : rb < w0.heap.size
section
variable {rb g : Nat} {w0 w w' : World} {b : Bk} {se se' : Value} {q : Nat → Prop}
theorem EnsW.read (h : EnsW rb g w0 w b se q) (hk : KeepR rb w w') : EnsW rb g w0 w' b se q := by
  have hr := h.rlt
  refine ⟨h.a.keep hk ⟨h.a.blk.lt, by have := h.ge; omega⟩,
    h.ents.keep hk (fun x hx => ⟨h.ents.lt hx, fun e => by have := (h.ents.own hx).1; omega⟩) (fun _ h => h) fun x cs hx => EnP.mono (fun v cs hv => IsVo.keep hk (fun b hb _ => ⟨(h.qs b hb).2.1, fun e => by have := (h.qs b hb).1; omega⟩) (fun _ h => h) hv) hx,
    fun x hx => ?_, h.keep.trans hk, h.ge, h.rlt⟩
  obtain ⟨h1, h2, h3⟩ := h.qs x hx
  exact ⟨h1, Nat.lt_of_lt_of_le h2 hk.size, h3⟩
theorem EnsW.below (h : EnsW rb g w0 w b se q) (hk : Below w.heap.size w w') : EnsW rb g w0 w' b se q := h.read (KeepR.below hk)
theorem EnsW.widen (h : EnsW rb g w0 w b se q) {S : Nat} (hS : w0.heap.size ≤ S) (h1 : g < S) (h2 : ∀ x, se.ownBlock = some x → x < S) : EnsW rb g w0 w b se (fun x => q x ∨ (S ≤ x ∧ x < w.heap.size)) := by
  refine ⟨h.a, h.ents.keep (Keep.refl (fun _ => True) w) (fun _ _ => trivial) (fun _ h => h) fun x cs hx => EnP.mono (fun v cs hv => IsVo.mono (fun b hb => .inl hb) hv) hx, fun b hb => ?_, h.keep, h.ge, h.rlt⟩
  rcases hb with hb | ⟨hb1, hb2⟩
  · exact h.qs b hb
  · exact ⟨by omega, hb2, by omega, fun e => by have := h2 b e; omega⟩
theorem EnsW.setE (h : EnsW rb g w0 w b se q) {v : En} (ho : OwnE 45 46 noE (IsEo q 17 w) (fun x => (w0.heap.size ≤ x ∧ x ≠ g) ∨ x = w.heap.size) w' se' (b.ents ++ [v])) (hg : Grow w se w' se') :
    BkAt 26 g w' b se ∧ EnsW rb g w0 (w'.setCell ⟨g, 35, none⟩ se') { b with ents := b.ents ++ [v] } se' q := by
  have hvo : se.ownBlock ≠ some g := fun e => (h.ents.own e).2 rfl
  have hvb := h.a.blk.lt
  have ha : BkAt 26 g w' b se := h.a.keep hg.1 ⟨hvb, hvo⟩
  have hsz := h.keep.size
  have hge := h.ge
  have hO : ∀ x, (w0.heap.size ≤ x ∧ x ≠ g) ∨ x = w.heap.size → w0.heap.size ≤ x ∧ x ≠ g := fun x hb => hb.elim id fun e => by omega
  have hset : Keep (fun b => b ≠ g) w' (w'.setCell ⟨g, 35, none⟩ se') := (Keep.refl _ w').setCell (fun hk => hk rfl) _
  have hP : ∀ x cs, IsEo q 17 w x cs → IsEo q 17 (w'.setCell ⟨g, 35, none⟩ se') x cs := fun x cs hx => EnP.mono (fun v cs hv =>
    IsVo.keep hset (fun b hb _ => (h.qs b hb).2.2.1) (fun _ h => h) (IsVo.keep (O' := q) hg.1 (fun b hb _ => ⟨(h.qs b hb).2.1, (h.qs b hb).2.2.2⟩) (fun _ h => h) hv)) hx
  refine ⟨ha, ha.setEnts se' _, ho.keep hset (fun x hx => (hO x (ho.own hx)).2) hO hP, fun x hx => ?_, ?_, h.ge, h.rlt⟩
  · obtain ⟨h1, h2, h3, h4⟩ := h.qs x hx
    exact ⟨h1, Nat.lt_of_lt_of_le h2 (Nat.le_trans hg.1.size hset.size), h3, fun e => (hg.2 x e).elim h4 fun h6 => by omega⟩
  · exact (Keep.trans h.keep ((Keep.mono hg.1 fun b hb => ⟨Nat.lt_of_lt_of_le hb.1 hsz, fun e => by have := (h.ents.own e).1; omega⟩))).setCell (p := ⟨g, 35, none⟩) (fun hk => by have := hk.1; simp only at this; omega) _
end
theorem elemE : ElemV Tryz.prog 24 45 46 192 := ElemV.mk' (z := .agg (enC noE zCells).toArray) Tryz.underlying24 (by kernel_rfl) rfl (by omega)
theorem isB_of {O : Nat → Prop} {f : Nat} {w : World} {b : Bk} {cs : List Value} (h : IsBo O f w b cs) : IsB f w b cs := by
  obtain ⟨se, e1, hels, h3⟩ := h
  exact ⟨se, e1, hels.mono (fun _ _ => trivial) fun x cs hx => EnP.mono (fun v cs hv => IsVo.isV hv) hx, h3⟩
/-- What Decode promises. -/
def DecBPost (w : World) (l : List Int) (r : Ending) (w' : World) : Prop :=
  Below w.heap.size w w' ∧ ∃ (b : Bk) (cs : List Value) (e : Int), r = .returned (.tuple #[.agg cs.toArray, .int .i64 e]) ∧ IsBo (fun b => w.heap.size ≤ b) 17 w' b cs ∧
    match readB l with
    | .ok y _ => b = y ∧ e = 0
    | .bad z => b = noB ∧ e = z ∧ z ≠ 0
set_option maxHeartbeats 8000000 in
theorem decode11_any {w : World} {v : Value} {l : List Int} (hs : Sl .u8 w v l) (hb : Byt l) (hl : l.length ≤ 68719476736) :
    Calls Tryz.prog 47 #[v] w (DecBPost w l) := by
  refine enter (args := [v]) Tryz.func47 rfl Tryz.ntmps47 rfl ?_
  have hs0 := SlB.of_sl hs
  obtain ⟨sp, cap, rfl, -⟩ := hs
  refine kgo ?_
  refine WL.alloc (z := .agg (bkC noB (.slice none 0 0)).toArray) rfl rfl rfl rfl (fun _ => by kernel_rfl) fun rg w1 hf1 => ?_
  have hf1' : Fresh w rg w1 26 (bkC noB (.slice none 0 0)) := hf1
  clear hf1
  have hrg := hf1'.eq
  have hz1 := hf1'.size
  refine kgo ?_
  refine WL.build [.slice sp l.length cap, .int .i64 0] rfl rfl rfl rfl rfl (by kernel_rfl) ?_
  refine WL.box rfl rfl rfl rfl rfl fun rb w2 hf2 => ?_
  have hf2' : Fresh w1 rb w2 110 [.slice sp l.length cap, .int .i64 0] := hf2
  clear hf2
  have hrb := hf2'.eq
  have hz2 := hf2'.size
  have hb2 : Below w.heap.size w w2 := hf1'.below.trans (hf2'.below.mono (by omega))
  have g2 : VBlk 26 w2 rg (bkC noB (.slice none 0 0)) := hf1'.blk.below hf2'.below hf1'.blk.lt
  have r2 : RB (rb + 1) w2 rb l 0 := ⟨by omega, hb, sp, cap, hf2'.blk, hs0.keep (Keep.of_below hb2) (fun b hb => hb) |>.mono fun b hb => by omega⟩
  clear hf1' hf2'
  refine kgo ?_
  refine WL.call rfl rfl rfl rfl rfl Tryz.func69 rfl (by kernel_rfl) (number11r_any r2) ?_
  rintro _ w3 ⟨u1, l1, e1, rfl, hu1, r3, hk3, ho1⟩
  refine ⟨_, rfl, ?_⟩
  refine kgo ?_
  refine WL.call rfl rfl rfl rfl rfl Tryz.func69 rfl (by kernel_rfl) (number11r_any r3) ?_
  rintro _ w4 ⟨u2, l2, e2, rfl, hu2, r4, hk4, ho2⟩
  refine ⟨_, rfl, ?_⟩
  refine kgo ?_
  refine WL.call rfl rfl rfl rfl rfl Tryz.func69 rfl (by kernel_rfl) (number11r_any r4) ?_
  rintro _ w5 ⟨u3, l3, e3, rfl, hu3, r5, hk5, ho3⟩
  refine ⟨_, rfl, ?_⟩
  have k5 : KeepR rb w2 w5 := hk3.trans (hk4.trans hk5)
  refine kgo ?_
  refine WL.build (bkC ⟨u1, u2, u3, Dig.Z32, []⟩ (.slice none 0 0)) rfl rfl rfl rfl rfl (by kernel_rfl) ?_
  refine WL.alloc (z := .agg (bkC noB (.slice none 0 0)).toArray) rfl rfl rfl rfl (fun _ => by kernel_rfl) fun g w6 hf6 => ?_
  have hf6' : Fresh w5 g w6 26 (bkC noB (.slice none 0 0)) := hf6
  clear hf6
  have hg := hf6'.eq
  have hz5 := k5.size
  refine kgo ?_
  refine WL.storeRow rfl rfl rfl rfl rfl rfl hf6'.blk rfl rfl (BkP.one (P := fun _ _ => True) (O := fun _ => True) (w := w) (b := ⟨u1, u2, u3, Dig.Z32, []⟩) ⟨_, rfl, Els.nil _ _ _ _ _, rfl, fun x hx => by have := List.eq_of_mem_replicate hx; omega, by show R64 (u1 : Int); omega, by show R64 (u2 : Int); omega, by show R64 (u3 : Int); omega⟩) ?_
  have hb7 : Below w5.heap.size w5 (w6.setRow g (bkC ⟨u1, u2, u3, Dig.Z32, []⟩ (.slice none 0 0)).toArray) := below_setRow hf6'.below (by omega) _
  have a7 : BkAt 26 g (w6.setRow g (bkC ⟨u1, u2, u3, Dig.Z32, []⟩ (.slice none 0 0)).toArray) ⟨u1, u2, u3, Dig.Z32, []⟩ (.slice none 0 0) := ⟨hf6'.blk.setRow _, rfl⟩
  show WL _ _ _ _ _ (w6.setRow g (bkC ⟨u1, u2, u3, Dig.Z32, []⟩ (.slice none 0 0)).toArray)
  generalize w6.setRow g (bkC ⟨u1, u2, u3, Dig.Z32, []⟩ (.slice none 0 0)).toArray = w7 at hb7 a7 ⊢
  clear hf6'
  have r7 := r5.keep (Keep.of_below hb7) fun b hb => by omega
  have k7 : KeepR rb w2 w7 := k5.trans (KeepR.below hb7)
  refine kgo ?_
  refine WC.drawn 4 (fun _ => True) fun w8 hd8 => ?_
  have hS : True := trivial
  have r8 := r7.keep (Keep.of_below (hd8.below w7.heap.size)) fun b hb => by have := a7.blk.lt; omega
  have a8 := a7.below (hd8.below _)
  have k8 : KeepR rb w2 w8 := k7.trans (KeepR.below (hd8.below _))
  (((first | refine WD.free 0 rfl (by kernel_rfl) rfl rfl (fun _ _ _ _ _ h => h) rfl rfl (.inr hS) ?_ | refine WD.skip 0 rfl (by kernel_rfl) rfl rfl (fun _ _ _ _ _ h => h) rfl (.inr hS) ?_); try (first | ((with_reducible refine WD.topT ?_ ?_); omega) | ((with_reducible refine WD.topF ?_ ?_); omega) | ((with_reducible refine WD.top64 ?_ ?_); omega))))
  refine WD.all 1 rfl (by kernel_rfl) rfl rfl (fun _ _ _ _ _ h => h) rfl rfl rfl rfl (.inr hS) ?_
  (((first | refine WD.free 2 rfl (by kernel_rfl) rfl rfl (fun _ _ _ _ _ h => h) rfl rfl (.inr hS) ?_ | refine WD.skip 2 rfl (by kernel_rfl) rfl rfl (fun _ _ _ _ _ h => h) rfl (.inr hS) ?_); try (first | ((with_reducible refine WD.topT ?_ ?_); omega) | ((with_reducible refine WD.topF ?_ ?_); omega) | ((with_reducible refine WD.top64 ?_ ?_); omega))))
  refine WD.one 3 (by kernel_rfl) rfl ?_
  refine WL.call rfl rfl rfl rfl rfl Tryz.func70 rfl (by kernel_rfl) (take_any (n := 32) r8 (by omega)) ?_
  rintro _ w9 ⟨v9, x9, l9, e9, rfl, hv9, hbx9, hx91, hx90, r9, hk9, ho9⟩
  refine ⟨_, rfl, ?_⟩
  have a9 := a8.keep hk9 ⟨a8.blk.lt, by omega⟩
  have k9 : KeepR rb w2 w9 := k8.trans hk9
  refine WL.nil (WQ.dk (.inr hS) ?_)
  refine WD.one 4 (by kernel_rfl) rfl ?_
  have hx9l : x9.length = 32 ∨ x9 = [] := by
    by_cases h0 : e9 = 0
    · exact .inl (hx91 h0)
    · exact .inr (hx90 h0)
  refine WL.copy rfl rfl rfl rfl rfl rfl hv9.sl (by rcases hx9l with h | rfl; omega; simp) a9.blk (by rw [a9.len]; omega) ?_
  refine WL.nil (WQ.dk (.inl rfl) ?_)
  refine WD.done (by kernel_rfl) ?_
  have a10 := a9.copyPrev hx9l
  have hpe : ∃ pp, pp = if x9 = [] then Dig.Z32 else x9 := ⟨_, rfl⟩
  obtain ⟨pp, hpe⟩ := hpe
  simp only [← hpe] at a10
  have hbz : Byt Dig.Z32 := fun x hx => by have := List.eq_of_mem_replicate hx; omega
  have hbpp : Byt pp := by rw [hpe]; split; exact hbz; exact hbx9
  have r10 := r9.keep (rowK w9 g ((bkC ⟨u1, u2, u3, Dig.Z32, []⟩ (.slice none 0 0)).take 3 ++ x9.map (Value.int .u8) ++ (bkC ⟨u1, u2, u3, Dig.Z32, []⟩ (.slice none 0 0)).drop (3 + x9.length)).toArray (· ≠ g) (fun h => h rfl)) fun b hb => by omega
  have k10 : KeepR rb w2 _ := Keep.trans k9 (rowK w9 g ((bkC ⟨u1, u2, u3, Dig.Z32, []⟩ (.slice none 0 0)).take 3 ++ x9.map (Value.int .u8) ++ (bkC ⟨u1, u2, u3, Dig.Z32, []⟩ (.slice none 0 0)).drop (3 + x9.length)).toArray _ (fun h => by have := h.1; have := k9.size; have := hb2.size; omega))
  show WQ _ _ _ _ (w9.setRow g ((bkC ⟨u1, u2, u3, Dig.Z32, []⟩ (.slice none 0 0)).take 3 ++ x9.map (Value.int .u8) ++ (bkC ⟨u1, u2, u3, Dig.Z32, []⟩ (.slice none 0 0)).drop (3 + x9.length)).toArray)
  generalize w9.setRow g ((bkC ⟨u1, u2, u3, Dig.Z32, []⟩ (.slice none 0 0)).take 3 ++ x9.map (Value.int .u8) ++ (bkC ⟨u1, u2, u3, Dig.Z32, []⟩ (.slice none 0 0)).drop (3 + x9.length)).toArray = w10 at a10 r10 k10 ⊢
  refine kgo ?_
  refine WL.call rfl rfl rfl rfl rfl Tryz.func69 rfl (by kernel_rfl) (number11r_any r10) ?_
  rintro _ w11 ⟨n, l4, e4, rfl, hn, r11, hk11, ho4⟩
  refine ⟨_, rfl, ?_⟩
  have s11 : EnsW rb g w2 w11 ⟨u1, u2, u3, pp, []⟩ (.slice none 0 0) (fun _ => False) := ⟨a10.keep hk11 ⟨a10.blk.lt, by omega⟩, OwnE.nil _ _ _ _ _ _, fun _ h => h.elim, k10.trans hk11, by omega, by omega⟩
  have hl1 := ho1.len
  have hl2 := ho2.len
  have hl3 := ho3.len
  have hl9 := ho9.len
  have hl4 := ho4.len
  clear a10 k10 r10 hk11
  repeat (first | ((with_reducible refine WL.topT ?_ ?_); omega) | ((with_reducible refine WL.topF ?_ ?_); omega) | ((with_reducible refine WL.top64 ?_ ?_); omega) | refine WC.seq ?_ | refine WC.region ?_ | refine WL.nil ?_ | refine WC.skip ?_ | refine WC.exit ?_ | refine WC.ret ?_ | refine WQ.then rfl ?_ | refine WQ.thenExit ?_ | refine WQ.thenRet ?_ | refine WQ.blk ?_ | refine WQ.blkRet ?_ | refine WQ.blkHere rfl ?_ | refine WQ.blkOther rfl ?_ | refine WL.pure rfl rfl rfl rfl ?_ | refine WL.on rfl rfl ?_ | refine WL.off rfl rfl rfl ?_ | refine WL.load rfl rfl rfl rfl rfl rfl (by assumption) ?_ | refine WC.condTrue rfl ?_ | refine WC.condFalse rfl ?_)
  refine WC.mid (fun _ : List En × List Int × Int => [(2, .pointer (some ⟨rg, 0, none⟩)), (4, .pointer (some ⟨rb, 0, none⟩)), (5, .pointer (some ⟨g, 0, none⟩))])
    (fun i wr => (∃ se q, EnsW rb g w2 wr ⟨u1, u2, u3, pp, i.1⟩ se q) ∧ RB (rb + 1) wr rb i.2.1 i.2.2 ∧ (i.2.2 = 0 → ∀ en ∈ i.1, (encV 16 en.data).length ≤ 65536) ∧ Out (rdEs n []) l4 e4 i.1 i.2.1 i.2.2) rfl ?_ ?_
  · refine kgo ?_
    refine WC.loop (fun i : Nat × List En × List Int × Int => [(2, .pointer (some ⟨rg, 0, none⟩)), (4, .pointer (some ⟨rb, 0, none⟩)), (5, .pointer (some ⟨g, 0, none⟩)), (6, .int .i64 ((n : Int) - (i.1 : Int)))])
      (fun i wr => i.1 ≤ n ∧ (∃ se q, EnsW rb g w2 wr ⟨u1, u2, u3, pp, i.2.1⟩ se q) ∧ RB (rb + 1) wr rb i.2.2.1 i.2.2.2 ∧ (i.2.2.2 = 0 → i.2.1.length + i.2.2.1.length ≤ l.length) ∧ (i.2.2.2 = 0 → ∀ en ∈ i.2.1, (encV 16 en.data).length ≤ 65536) ∧
        ∀ p l' e', Out (rdEs (n - i.1) i.2.1) i.2.2.1 i.2.2.2 p l' e' → Out (rdEs n []) l4 e4 p l' e') (fun i => n - i.1) (0, [], l4, e4)
      ⟨rfl, rfl, rfl, by rw [show (n : Int) - ((0 : Nat) : Int) = n by omega]; rfl, trivial⟩ ⟨Nat.zero_le _, ⟨_, _, s11⟩, r11, fun _ => by simp only [List.length_nil]; omega, (fun _ en h => absurd h (by simp)), fun _ _ _ h => h⟩ ?_
    rintro ⟨k, es, li, ei⟩ wr ⟨hk, ⟨se, q, hK⟩, hr, hlen, hsm, hcont⟩
    simp only at hk hK hr hlen hsm hcont ⊢
    by_cases hkn : k < n
    rotate_left
    · obtain rfl : k = n := by omega
      refine kgo ?_
      exact WQ.meet (es, li, ei) ⟨rfl, rfl, rfl, trivial⟩ ⟨⟨se, q, hK⟩, hr, hsm, hcont _ _ _ (Out.congr (Out.pure _) (by rw [Nat.sub_self]; rfl))⟩
    obtain ⟨rsp, rcap, hrb1, -⟩ := hr.ex
    refine kgo ?_
    refine WL.load rfl rfl rfl rfl rfl rfl (hrb1.cell 1 (by simp)) ?_
    by_cases hei : ei = 0
    rotate_left
    · refine kgo ?_
      exact WQ.meet (es, li, ei) ⟨rfl, rfl, rfl, trivial⟩ ⟨⟨se, q, hK⟩, hr, hsm, hcont _ _ _ (.ofBad hei)⟩
    have hlen0 := hlen hei
    have hwr := hK.keep.size
    have hgB := hK.a.blk.lt
    refine kgo ?_
    refine WC.drawn 7 (fun wx => BkAt 26 g wx ⟨u1, u2, u3, pp, es⟩ se) fun w12 hd12 => ?_
    have hK5 := hK.below (hd12.below _)
    have hr5 := hr.keep (Keep.of_below (hd12.below wr.heap.size)) fun b hb => by omega
    have hsz5 : wr.heap.size ≤ w12.heap.size := (hd12.below 0).size
    have hS := hK5.a
    (((first | refine WD.free 0 rfl (by kernel_rfl) rfl rfl (fun _ _ _ _ _ h => h) rfl rfl (.inr hS) ?_ | refine WD.skip 0 rfl (by kernel_rfl) rfl rfl (fun _ _ _ _ _ h => h) rfl (.inr hS) ?_); try (first | ((with_reducible refine WD.topT ?_ ?_); omega) | ((with_reducible refine WD.topF ?_ ?_); omega) | ((with_reducible refine WD.top64 ?_ ?_); omega))))
    refine WD.load 1 [5, 6, 7] rfl (by kernel_rfl) rfl rfl (fun _ _ _ _ _ h => h) rfl rfl rfl rfl (fun wx hx => hx.ents) hS ?_
    (((first | refine WD.free 2 rfl (by kernel_rfl) rfl rfl (fun _ _ _ _ _ h => h) rfl rfl (.inr hS) ?_ | refine WD.skip 2 rfl (by kernel_rfl) rfl rfl (fun _ _ _ _ _ h => h) rfl (.inr hS) ?_); try (first | ((with_reducible refine WD.topT ?_ ?_); omega) | ((with_reducible refine WD.topF ?_ ?_); omega) | ((with_reducible refine WD.top64 ?_ ?_); omega))))
    refine WD.one 3 (by kernel_rfl) rfl ?_
    refine WL.call rfl rfl rfl rfl rfl Tryz.func71 rfl (by kernel_rfl) (entry_any hr5 (by omega) (by omega)) ?_
    rintro _ w13 ⟨en, cs, l6, e6, rfl, hv6, hr6, hk6, ⟨ho6, hless⟩, hsm6⟩
    refine ⟨_, rfl, ?_⟩
    have hvb5 := hK5.a.blk.lt
    have hse5 : ∀ x, se.ownBlock = some x → x < w12.heap.size := fun x hx => hK5.ents.lt hx
    have hK6 := hK5.read hk6
    refine WL.nil (WQ.dk (.inr hK6.a) ?_)
    refine WD.one 4 (by kernel_rfl) rfl ?_
    refine WL.lit1 rfl rfl rfl rfl rfl rfl rfl hv6.len ⟨by omega, by omega⟩ (by kernel_rfl) fun g7 w17 hf7 => ?_
    have hK7 := (hK6.below hf7.below).widen (S := w12.heap.size) (by have := hK5.keep.size; omega) hvb5 hse5
    have hr7 := hr6.keep (Keep.of_below hf7.below) fun b hb => by have := hk6.size; omega
    have hv7 : IsEo (fun b => (q b) ∨ (w12.heap.size ≤ b ∧ b < w17.heap.size)) 17 w17 en cs := EnP.mono (fun v cs hv => IsVo.keep (Keep.of_below hf7.below) (fun b _ h => h) (fun b hb => .inr ⟨hb.1, by have := hf7.size; omega⟩) (IsVo.there hv)) hv6
    refine WL.nil (WQ.dk (.inr hK7.a) ?_)
    refine WD.one 5 (by kernel_rfl) rfl ?_
    refine WL.snoc rfl rfl rfl rfl elemE rfl hK7.ents rfl hf7.blk hv6.one hv6.len hv7 (by simp only; omega) (by simp only; omega) fun se8 w18 ho8 hg8 => ?_
    obtain ⟨hb8, hK9⟩ := hK7.setE ho8 hg8
    refine WL.nil (WQ.dk (.inr hb8) ?_)
    have hse8 : se8.oneCell' = true := ho8.one
    refine WD.one 6 (by kernel_rfl) rfl ?_
    refine WL.pure rfl rfl rfl rfl ?_
    refine WL.nil (WQ.dk (.inr hb8) ?_)
    refine WD.one 7 (by kernel_rfl) rfl ?_
    refine WL.store rfl rfl rfl rfl rfl hse8 (by kernel_rfl) hb8.ents (hb8.blk.free 35) ?_
    have hr9 : RB (rb + 1) (w18.setCell ⟨g, 35, none⟩ se8) rb l6 e6 := (hr7.keep hg8.1 fun b hb => ⟨by have := hf7.size; have := hk6.size; omega, fun e => by have := (hK7.ents.own e).1; omega⟩).keep (K := fun b => b ≠ g) ((Keep.refl _ w18).setCell (fun hk => hk rfl) _) fun b hb => by omega
    generalize w18.setCell ⟨g, 35, none⟩ se8 = w19 at hK9 hr9 ⊢
    refine WL.nil (WQ.dk (.inl rfl) ?_)
    refine WD.done (by kernel_rfl) ?_
    refine kgo ?_
    have hni : n - k = (n - (k + 1)) + 1 := by omega
    refine WQ.again (k + 1, es ++ [en], l6, e6) ⟨rfl, rfl, rfl, by show some (Value.int .i64 _) = some (Value.int .i64 _); congr 2; omega, trivial⟩ ⟨hkn, ⟨se8, _, hK9⟩, hr9, fun h => by have := hless h; simp only [List.length_append, List.length_cons, List.length_nil]; omega,
      fun h x hx => (List.mem_append.1 hx).elim (fun h1 => hsm hei x h1) (fun h1 => by rw [List.mem_singleton.1 h1]; exact hsm6 h), fun p l' e' ho => ?_⟩ (by show n - (k + 1) < n - k; omega)
    refine hcont p l' e' ?_
    rw [hni]
    exact Out.bind (f := rdE) (g := fun e r => rdEs (n - (k + 1)) (es ++ [e]) r) ho6 ho
  rintro ⟨es, li, ei⟩ w20 ⟨⟨se, q, hK⟩, hr, hsm, hoE⟩
  simp only at hK hr hsm hoE ⊢
  have hBk : Out rdBk l 0 ⟨u1, u2, u3, pp, es⟩ li ei := by
    refine Out.bind (f := rdN) ho1 ?_
    refine Out.bind (f := rdN) ho2 ?_
    refine Out.bind (f := rdN) ho3 ?_
    by_cases h0 : e9 = 0
    · have hpx : pp = x9 := by rw [hpe, if_neg]; rintro rfl; exact absurd (hx91 h0) (by simp)
      rw [hpx]
      refine Out.bind (f := rdX 32) ho9 ?_
      refine Out.bind (f := rdN) ho4 ?_
      exact Out.bind (f := rdEs n []) hoE (Out.pure _)
    · have h4 := ho4.bad h0
      have h5 := hoE.bad (by omega)
      have h6 : ei = e9 := by omega
      have h7 := hoE.len
      rw [h6]
      exact Out.stop (f := rdX 32) ho9 h0 (by omega)
  have hread := hBk.ok rfl
  have hbE : ∀ {w'} {se : Value} {q}, EnsW rb g w2 w' ⟨u1, u2, u3, pp, es⟩ se q → IsBo (fun x => w2.heap.size ≤ x ∧ x ≠ g) 17 w' ⟨u1, u2, u3, pp, es⟩ (bkC ⟨u1, u2, u3, pp, es⟩ se) := fun {w' se q} h =>
    ⟨se, rfl, h.ents.els.mono (fun _ h => h) fun x cs hx => EnP.mono (fun v cs hv => IsVo.mono (fun b hb => ⟨(h.qs b hb).1, (h.qs b hb).2.2.1⟩) hv) hx, h.a.pl, hbpp, by show R64 (u1 : Int); omega, by show R64 (u2 : Int); omega, by show R64 (u3 : Int); omega⟩
  have hcut := hBk.len
  obtain ⟨rsp, rcap, hrb1, -⟩ := hr.ex
  refine kgo ?_
  refine WL.load rfl rfl rfl rfl rfl rfl (hrb1.cell 0 (by simp)) ?_
  refine kgo ?_
  refine WC.mid (fun _ : Int => [(2, .pointer (some ⟨rg, 0, none⟩)), (4, .pointer (some ⟨rb, 0, none⟩)), (5, .pointer (some ⟨g, 0, none⟩))])
    (fun ex wr => EnsW rb g w2 wr ⟨u1, u2, u3, pp, es⟩ se q ∧ RB (rb + 1) wr rb li ex ∧ ex = (if 0 < li.length then (if ei = 0 then 3 else ei) else ei)) rfl ?_ ?_
  · by_cases hli : 0 < li.length
    · refine WC.condT rfl (by omega) ?_
      refine kgo ?_
      refine WL.call rfl rfl rfl rfl rfl Tryz.func72 rfl (by kernel_rfl) (fail11_any hr 3) ?_
      rintro _ w21 ⟨rfl, hr21, hk21⟩
      refine ⟨_, rfl, ?_⟩
      refine kgo ?_
      exact WQ.meet _ ⟨rfl, rfl, rfl, trivial⟩ ⟨hK.read hk21, hr21, by rw [if_pos hli]⟩
    · refine WC.condF rfl (by omega) ?_
      refine kgo ?_
      exact WQ.meet ei ⟨rfl, rfl, rfl, trivial⟩ ⟨hK, hr, by rw [if_neg hli]⟩
  rintro ex w21 ⟨hK21, hr21, hex⟩
  clear hrb1 hK hr
  obtain ⟨rsp, rcap, hrb1, -⟩ := hr21.ex
  refine kgo ?_
  refine WL.load rfl rfl rfl rfl rfl rfl (hrb1.cell 1 (by simp)) ?_
  refine kgo ?_
  refine WC.mid (fun _ : Int => [(2, .pointer (some ⟨rg, 0, none⟩)), (4, .pointer (some ⟨rb, 0, none⟩)), (5, .pointer (some ⟨g, 0, none⟩))])
    (fun ey wr => EnsW rb g w2 wr ⟨u1, u2, u3, pp, es⟩ se q ∧ RB (rb + 1) wr rb li ey ∧ ey = (if ex = 0 then chkB ⟨u1, u2, u3, pp, es⟩ else ex)) rfl ?_ ?_
  · by_cases hx0 : ex = 0
    · have hei : ei = 0 := by
        by_cases h : 0 < li.length
        · rw [if_pos h] at hex; by_cases h2 : ei = 0; exact h2; rw [if_neg h2] at hex; omega
        · rw [if_neg h] at hex; omega
      have hcl := (hbE hK21).len
      refine WC.condT rfl (by omega) ?_
      refine kgo ?_
      refine WL.loadMid rfl rfl rfl rfl rfl rfl (VBlk.rangeAt hK21.a.blk) hcl ?_
      refine WL.call rfl rfl rfl rfl rfl Tryz.func9 rfl (by kernel_rfl) (check11_any (f := 17) (b := ⟨u1, u2, u3, pp, es⟩) (isB_of (hbE hK21)) (fun en hen _ => by have := hsm hei en hen; omega)) ?_
      rintro _ w22 ⟨rfl, hk22⟩
      refine ⟨_, rfl, ?_⟩
      have hgb := hK21.a.blk.lt
      have hr22 := hr21.keep (Keep.of_below hk22) fun b hb => by have := hr21.rlt; have := hK21.keep.size; omega
      refine WL.call rfl rfl rfl rfl rfl Tryz.func72 rfl (by kernel_rfl) (fail11_any hr22 _) ?_
      rintro _ w23 ⟨rfl, hr23, hk23⟩
      refine ⟨_, rfl, ?_⟩
      refine kgo ?_
      exact WQ.meet _ ⟨rfl, rfl, rfl, trivial⟩ ⟨(hK21.below hk22).read hk23, hr23, rfl⟩
    · refine WC.condF rfl (by omega) ?_
      refine kgo ?_
      exact WQ.meet ex ⟨rfl, rfl, rfl, trivial⟩ ⟨hK21, hr21, by rw [if_neg hx0]⟩
  rintro ey w24 ⟨hK24, hr24, hey⟩
  clear hrb1 hK21 hr21
  obtain ⟨rsp, rcap, hrb1, -⟩ := hr24.ex
  have hout : match readB l with
      | .ok y _ => (⟨u1, u2, u3, pp, es⟩ : Bk) = y ∧ ey = 0
      | .bad z => ey = z ∧ z ≠ 0 := by
    unfold readB
    cases hq : rdBk l with
    | bad z =>
      rw [hq] at hread
      obtain ⟨rfl, hz⟩ := hread
      rw [if_neg hz] at hex
      have : ex = ei := by rw [hex]; split <;> rfl
      rw [this, if_neg hz] at hey
      exact ⟨hey, hz⟩
    | ok y r =>
      rw [hq] at hread
      obtain ⟨rfl, rfl, rfl⟩ := hread
      simp only
      by_cases hli : 0 < li.length
      · rw [if_pos hli] at hex ⊢
        rw [if_pos rfl] at hex
        rw [hex] at hey
        simp at hey
        exact ⟨hey, by omega⟩
      · rw [if_neg hli] at hex ⊢
        rw [hex, if_pos rfl] at hey
        by_cases hc : chkB ⟨u1, u2, u3, pp, es⟩ ≠ 0
        · rw [if_pos hc]; exact ⟨hey, hc⟩
        · rw [if_neg hc]; exact ⟨rfl, by rw [hey]; exact Classical.not_not.1 hc⟩
  have g24 := VBlk.keep g2 hK24.keep ⟨g2.lt, by omega⟩
  have hbel : Below w.heap.size w w24 := hb2.trans (Keep.below (Keep.mono hK24.keep fun b hb => ⟨by have := hb2.size; omega, by omega⟩))
  have hgg := hK24.ge
  refine kgo ?_
  refine WL.load rfl rfl rfl rfl rfl rfl (hrb1.cell 1 (by simp)) ?_
  by_cases hy0 : ey = 0
  · have hcl := (hbE hK24).len
    have hB24 := hbE hK24
    refine kgo ?_
    refine WL.loadMid rfl rfl rfl rfl rfl rfl (VBlk.rangeAt hK24.a.blk) hcl ?_
    refine kgo ?_
    refine WL.storeRow rfl rfl rfl rfl rfl rfl g24 hcl rfl hB24.one ?_
    refine kgo ?_
    refine WQ.retCT rfl rfl rfl rfl hcl (g24.setRow _) ⟨Keep.below (Keep.setRow (Keep.of_below hbel) (fun hk => by omega) _), ⟨u1, u2, u3, pp, es⟩, _, 0, rfl, ?_, ?_⟩
    · obtain ⟨se', e1, hels, h3⟩ := hB24
      have hset := rowK w24 rg (bkC ⟨u1, u2, u3, pp, es⟩ se).toArray (· ≠ rg) (fun h => h rfl)
      exact ⟨se', e1, hels.keep hset (fun b hb _ => by have := hb2.size; omega) (fun b hb => by have := hb2.size; omega) (fun x cs hx => EnP.mono (fun v cs hv => IsVo.keep hset (fun b hb _ => by have := hb2.size; omega) (fun b hb => by have := hb2.size; omega) hv) hx), h3⟩
    · cases hq : readB l with
      | ok y q => rw [hq] at hout; exact ⟨hout.1, rfl⟩
      | bad z => rw [hq] at hout; exact absurd (hout.1.symm.trans hy0) hout.2
  · refine kgo ?_
    refine WC.drawn 6 (fun wx => VBlk 110 wx rb [.slice rsp li.length rcap, .int .i64 ey]) fun w25 hd25 => ?_
    have g25 := g24.below (hd25.below _) g24.lt
    have hbel5 : Below w.heap.size w w25 := hbel.trans ((hd25.below w24.heap.size).mono hbel.size)
    have hS : VBlk 110 w25 rb [.slice rsp li.length rcap, .int .i64 ey] := hrb1.below (hd25.below _) hrb1.lt
    have hB0 : ∀ w', BkP (IsEo (fun b => w.heap.size ≤ b) 17 w') (fun b => w.heap.size ≤ b) w' noB (bkC noB (.slice none 0 0)) := fun w' => ⟨_, rfl, Els.nil _ _ _ _ _, rfl, hbz, by show R64 0; omega, by show R64 0; omega, by show R64 0; omega⟩
    refine WD.build (bkC noB (.slice none 0 0)) 0 rfl (by kernel_rfl) rfl rfl (fun _ _ _ _ _ h => h) rfl rfl rfl (by kernel_rfl) (.inr hS) ?_
    (((first | refine WD.free 1 rfl (by kernel_rfl) rfl rfl (fun _ _ _ _ _ h => h) rfl rfl (.inr hS) ?_ | refine WD.skip 1 rfl (by kernel_rfl) rfl rfl (fun _ _ _ _ _ h => h) rfl (.inr hS) ?_); try (first | ((with_reducible refine WD.topT ?_ ?_); omega) | ((with_reducible refine WD.topF ?_ ?_); omega) | ((with_reducible refine WD.top64 ?_ ?_); omega))); ((first | refine WD.free 2 rfl (by kernel_rfl) rfl rfl (fun _ _ _ _ _ h => h) rfl rfl (.inr hS) ?_ | refine WD.skip 2 rfl (by kernel_rfl) rfl rfl (fun _ _ _ _ _ h => h) rfl (.inr hS) ?_); try (first | ((with_reducible refine WD.topT ?_ ?_); omega) | ((with_reducible refine WD.topF ?_ ?_); omega) | ((with_reducible refine WD.top64 ?_ ?_); omega))); ((first | refine WD.free 3 rfl (by kernel_rfl) rfl rfl (fun _ _ _ _ _ h => h) rfl rfl (.inr hS) ?_ | refine WD.skip 3 rfl (by kernel_rfl) rfl rfl (fun _ _ _ _ _ h => h) rfl (.inr hS) ?_); try (first | ((with_reducible refine WD.topT ?_ ?_); omega) | ((with_reducible refine WD.topF ?_ ?_); omega) | ((with_reducible refine WD.top64 ?_ ?_); omega))))
    refine WD.load 4 [6] rfl (by kernel_rfl) rfl rfl (fun _ _ _ _ _ h => h) rfl rfl rfl rfl (fun wx hx => hx.cell 1 (by simp)) hS ?_
    refine WD.one 5 (by kernel_rfl) rfl ?_
    refine WL.storeRow rfl rfl rfl rfl rfl rfl g25 rfl rfl (hB0 w25).one ?_
    have hS2 : VBlk 110 (w25.setRow rg (bkC noB (.slice none 0 0)).toArray) rb [.slice rsp li.length rcap, .int .i64 ey] := hS.setRow_other _ (by omega)
    have g26 := g25.setRow (bkC noB (.slice none 0 0))
    have hbel6 : Below w.heap.size w (w25.setRow rg (bkC noB (.slice none 0 0)).toArray) := Keep.below (Keep.setRow (Keep.of_below hbel5) (fun hk => by omega) _)
    generalize w25.setRow rg (bkC noB (.slice none 0 0)).toArray = w26 at hS2 g26 hbel6 ⊢
    refine WL.nil (WQ.dk (.inr hS2) ?_)
    refine WD.one 6 (by kernel_rfl) rfl ?_
    refine WL.pure rfl rfl rfl rfl ?_
    refine WL.nil (WQ.dk (.inl rfl) ?_)
    refine WD.done (by kernel_rfl) ?_
    refine kgo ?_
    refine WQ.retCT rfl rfl rfl rfl rfl g26 ⟨hbel6, noB, _, ey, rfl, hB0 _, ?_⟩
    cases hq : readB l with
    | ok y q => rw [hq] at hout; exact absurd hout.2 hy0
    | bad z => rw [hq] at hout; exact ⟨rfl, hout.1, hout.2⟩
end K
end Go.Proofs.YtlamdhekjlnccaaGreatDoor

/- Blocks (chapter 11): the law's small block; entries and blocks are the same. -/
namespace Go.Proofs.YtlamdhekjlnccaaGreatDoor
open Go.RowKit
namespace K
def smallE : En := ⟨5, ⟨#[116]⟩, 1, 0, 0, zV, Dig.Z32, false, 0, 0⟩
def smallB : Bk := ⟨0, 0, 0, Dig.Z32, [smallE]⟩
theorem z32_byt : Byt Dig.Z32 := fun x hx => by have := List.eq_of_mem_replicate hx; omega
theorem small_any {w : World} : Calls Tryz.prog 46 #[] w fun r w' => Below w.heap.size w w' ∧ ∃ cs, r = .returned (.agg cs.toArray) ∧ IsBo (fun b => w.heap.size ≤ b) 1 w' smallB cs := by
  refine enter (args := []) Tryz.func46 rfl Tryz.ntmps46 rfl ?_
  refine kgo ?_
  refine WL.alloc (z := .agg (bkC noB (.slice none 0 0)).toArray) rfl rfl rfl rfl (fun _ => by kernel_rfl) fun rg w1 hf1 => ?_
  have hf1' : Fresh w rg w1 26 (bkC noB (.slice none 0 0)) := hf1
  clear hf1
  have hrg := hf1'.eq
  have hz1 := hf1'.size
  refine kgo ?_
  refine WL.build (enC smallE zCells) rfl rfl rfl rfl rfl (by kernel_rfl) ?_
  refine WL.lit1 (cs := enC smallE zCells) rfl rfl rfl rfl rfl rfl rfl rfl ⟨by omega, by omega⟩ (by kernel_rfl) fun g7 w2 hf7 => ?_
  have hg7 := hf7.eq
  have g2 := hf1'.blk.below hf7.below hf1'.blk.lt
  have hb2 : Below w.heap.size w w2 := hf1'.below.trans (hf7.below.mono (by omega))
  refine WL.build (bkC ⟨0, 0, 0, Dig.Z32, []⟩ (.slice (some ⟨g7, 0, none⟩) 1 1)) rfl rfl rfl rfl rfl (by kernel_rfl) ?_
  have hE : ∀ w', IsEo (fun b => w.heap.size ≤ b) 1 w' smallE (enC smallE zCells) := fun w' => ⟨_, rfl, zV_is _ _ _, rfl, (zV_is (fun _ => True) 0 w).one, rfl, z32_byt, by decide, by decide⟩
  have hels : ∀ w', VBlk 45 w' g7 (enC smallE zCells) → IsBo (fun b => w.heap.size ≤ b) 1 w' smallB (bkC ⟨0, 0, 0, Dig.Z32, []⟩ (.slice (some ⟨g7, 0, none⟩) 1 1)) := fun w' hv => by
    refine ⟨_, rfl, ⟨some ⟨g7, 0, none⟩, 1, rfl, Nat.le_refl _, by omega, (fun h => by cases h), fun _ => ⟨g7, 0, rfl, hv.lt, by omega, fun j hj => ?_⟩⟩, rfl, z32_byt, by show R64 0; omega, by show R64 0; omega, by show R64 0; omega⟩
    have hj1 : j < 1 := hj
    obtain rfl : j = 0 := by omega
    exact ⟨enC smallE zCells, rfl, hE w', VBlk.rangeAt hv⟩
  refine WL.storeRow rfl rfl rfl rfl rfl rfl g2 rfl rfl (hels w2 hf7.blk).one ?_
  refine kgo ?_
  refine WQ.retC rfl rfl rfl rfl (g2.setRow _) ⟨Keep.below (Keep.setRow (Keep.of_below hb2) (fun hk => by omega) _), _, rfl, hels _ (hf7.blk.setRow_other _ (by omega))⟩
set_option maxHeartbeats 4000000 in
/-- The same entries? -/
theorem eqEn_any {f f2 : Nat} {w : World} {e1 e2 : En} {c1 c2 : List Value} (h1 : IsE f w e1 c1) (h2 : IsE f2 w e2 c2) :
    Calls Tryz.prog 49 #[.agg c1.toArray, .agg c2.toArray] w fun r w' => (∃ b, r = .returned (.bool b) ∧ (b = true ↔ e1 = e2)) ∧ Below w.heap.size w w' := by
  obtain ⟨d1, rfl, hv1, hd1, -, hh1, -⟩ := h1
  obtain ⟨d2, rfl, hv2, hd2, -, hh2, -⟩ := h2
  refine enter (args := [.agg (enC e1 d1).toArray, .agg (enC e2 d2).toArray]) Tryz.func49 rfl Tryz.ntmps49 rfl ?_
  refine kgo ?_
  refine WL.box rfl rfl rfl rfl rfl fun g1 w1 hf1 => ?_
  have hf1' : Fresh w g1 w1 45 (enC e1 d1) := hf1
  clear hf1
  refine WL.box rfl rfl rfl rfl rfl fun g2 w2 hf2 => ?_
  have hf2' : Fresh w1 g2 w2 45 (enC e2 d2) := hf2
  clear hf2
  have hw : Below w.heap.size w w2 := hf1'.below.trans (hf2'.below.mono hf1'.below.size)
  have A1 : EnAt _ g1 w2 e1 d1 := ⟨hf1'.blk.below hf2'.below hf1'.blk.lt, hd1, hh1⟩
  have A2 : EnAt _ g2 w2 e2 d2 := ⟨hf2'.blk, hd2, hh2⟩
  clear hf1' hf2'
  have no : ¬ e1 = e2 → (∃ b, Ending.returned (Value.bool false) = .returned (.bool b) ∧ (b = true ↔ e1 = e2)) ∧ Below w.heap.size w w2 := fun h => ⟨⟨false, rfl, by simp [h]⟩, hw⟩
  refine kgo ?_
  refine WL.load rfl rfl rfl rfl rfl rfl A1.kind ?_
  refine kgo ?_
  refine WL.load rfl rfl rfl rfl rfl rfl A2.kind ?_
  by_cases q1 : e1.kind = e2.kind
  rotate_left
  · refine kgo ?_
    exact WQ.ret1 rfl rfl (no fun e => q1 (by rw [e]))
  refine kgo ?_
  refine WL.load rfl rfl rfl rfl rfl rfl A1.text ?_
  refine kgo ?_
  refine WL.load rfl rfl rfl rfl rfl rfl A2.text ?_
  by_cases q2 : e1.text = e2.text
  rotate_left
  · refine WL.on rfl rfl ?_
    refine WL.pureAs (.bool false) rfl rfl rfl rfl (by simp [bytes_ne q2]) ?_
    refine kgo ?_
    exact WQ.ret1 rfl rfl (no fun e => q2 (by rw [e]))
  refine WL.on rfl rfl ?_
  refine WL.pureAs (.bool true) rfl rfl rfl rfl (by simp [q2]) ?_
  refine kgo ?_
  refine WL.load rfl rfl rfl rfl rfl rfl A1.table ?_
  refine kgo ?_
  refine WL.load rfl rfl rfl rfl rfl rfl A2.table ?_
  by_cases q3 : e1.table = e2.table
  rotate_left
  · refine kgo ?_
    exact WQ.ret1 rfl rfl (no fun e => q3 (by rw [e]))
  refine kgo ?_
  refine WL.load rfl rfl rfl rfl rfl rfl A1.doc ?_
  refine kgo ?_
  refine WL.load rfl rfl rfl rfl rfl rfl A2.doc ?_
  by_cases q4 : e1.doc = e2.doc
  rotate_left
  · refine kgo ?_
    exact WQ.ret1 rfl rfl (no fun e => q4 (by rw [e]))
  refine kgo ?_
  refine WL.load rfl rfl rfl rfl rfl rfl A1.ver ?_
  refine kgo ?_
  refine WL.load rfl rfl rfl rfl rfl rfl A2.ver ?_
  by_cases q5 : e1.ver = e2.ver
  rotate_left
  · refine kgo ?_
    exact WQ.ret1 rfl rfl (no fun e => q5 (by rw [e]))
  refine kgo ?_
  refine WL.loadMid rfl rfl rfl rfl rfl rfl A1.hash (by simp [hh1]) ?_
  refine kgo ?_
  refine WL.loadMid rfl rfl rfl rfl rfl rfl A2.hash (by simp [hh2]) ?_
  refine WL.on rfl rfl ?_
  refine WL.eqlH rfl rfl rfl rfl rfl rfl hh1 hh2 ?_
  by_cases q6 : e1.hash = e2.hash
  rotate_left
  · refine WL.as 43 (.bool false) rfl (congrArg Value.bool (decide_eq_false q6)) ?_
    refine kgo ?_
    exact WQ.ret1 rfl rfl (no fun e => q6 (by rw [e]))
  refine WL.as 43 (.bool true) rfl (congrArg Value.bool (decide_eq_true q6)) ?_
  refine kgo ?_
  refine WL.load rfl rfl rfl rfl rfl rfl A1.gone ?_
  refine kgo ?_
  refine WL.load rfl rfl rfl rfl rfl rfl A2.gone ?_
  by_cases q7 : e1.gone = e2.gone
  rotate_left
  · cases b1 : e1.gone <;> cases b2 : e2.gone
    · exact absurd (b1.trans b2.symm) q7
    · refine kgo ?_
      exact WQ.ret1 rfl rfl (no fun e => q7 (by rw [e]))
    · refine kgo ?_
      exact WQ.ret1 rfl rfl (no fun e => q7 (by rw [e]))
    · exact absurd (b1.trans b2.symm) q7
  have hb : ∃ b, e1.gone = b ∧ e2.gone = b := ⟨_, rfl, q7.symm⟩
  refine WL.on rfl rfl ?_
  refine WL.pureAs (.bool true) rfl rfl rfl rfl (by simp [q7]) ?_
  refine kgo ?_
  refine WL.loadMid rfl rfl rfl rfl rfl rfl A1.at' rfl ?_
  refine kgo ?_
  refine WL.loadMid rfl rfl rfl rfl rfl rfl A2.at' rfl ?_
  refine WL.on rfl rfl ?_
  refine WL.eqlA rfl rfl rfl rfl rfl rfl ?_
  by_cases q8 : e1.ab = e2.ab ∧ e1.ae = e2.ae
  rotate_left
  · refine WL.as 57 (.bool false) rfl (congrArg Value.bool (decide_eq_false q8)) ?_
    refine kgo ?_
    exact WQ.ret1 rfl rfl (no fun e => q8 (by rw [e]; exact ⟨rfl, rfl⟩))
  refine WL.as 57 (.bool true) rfl (congrArg Value.bool (decide_eq_true q8)) ?_
  refine kgo ?_
  refine WL.loadMid rfl rfl rfl rfl rfl rfl A1.data hd1 ?_
  refine kgo ?_
  refine WL.loadMid rfl rfl rfl rfl rfl rfl A2.data hd2 ?_
  refine WL.on rfl rfl ?_
  refine WL.call rfl rfl rfl rfl rfl Tryz.func75 rfl (by kernel_rfl) (equal_any f (hv1.below hw) (hv2.below hw)) ?_
  rintro _ w3 ⟨⟨b, rfl, hb⟩, hk3⟩
  refine ⟨_, rfl, ?_⟩
  refine kgo ?_
  refine WQ.ret1 rfl rfl ⟨⟨b, rfl, hb.trans ⟨fun h => ?_, fun e => by rw [e]⟩⟩, hw.trans (hk3.mono hw.size)⟩
  obtain ⟨a1, a2, a3, a4, a5, a6, a7, a8, a9, a10⟩ := e1
  obtain ⟨b1, b2, b3, b4, b5, b6, b7, b8, b9, b10⟩ := e2
  simp only at q1 q2 q3 q4 q5 q6 q7 q8 h
  obtain ⟨q8, q9⟩ := q8
  subst q1 q2 q3 q4 q5 q6 q7 q8 q9 h
  rfl
end K
end Go.Proofs.YtlamdhekjlnccaaGreatDoor

/- Blocks (chapter 11): the law's entries and blocks. -/
namespace Go.Proofs.YtlamdhekjlnccaaGreatDoor
open Go.RowKit
namespace K
theorem entries_any {f f2 : Nat} {w : World} {e1 e2 : En} {c1 c2 : List Value} (h1 : IsE f w e1 c1) (h2 : IsE f2 w e2 c2) :
    Calls Tryz.prog 19 #[.agg c1.toArray, .agg c2.toArray] w fun r w' => (∃ b, r = .returned (.bool b) ∧ (b = true ↔ e1 = e2)) ∧ Below w.heap.size w w' := by
  have hl1 := h1.len
  have hl2 := h2.len
  refine enter (args := [.agg c1.toArray, .agg c2.toArray]) Tryz.func19 rfl Tryz.ntmps19 rfl ?_
  refine kgo ?_
  refine WL.box rfl rfl rfl rfl rfl fun g1 w1 hf1 => ?_
  have hf1' : Fresh w g1 w1 45 c1 := hf1
  clear hf1
  refine WL.box rfl rfl rfl rfl rfl fun g2 w2 hf2 => ?_
  have hf2' : Fresh w1 g2 w2 45 c2 := hf2
  clear hf2
  have hw : Below w.heap.size w w2 := hf1'.below.trans (hf2'.below.mono hf1'.below.size)
  have A1 := hf1'.blk.below hf2'.below hf1'.blk.lt
  have A2 := hf2'.blk
  refine kgo ?_
  refine WL.loadMid rfl rfl rfl rfl rfl rfl (VBlk.rangeAt A1) hl1 ?_
  refine WL.loadMid rfl rfl rfl rfl rfl rfl (VBlk.rangeAt A2) hl2 ?_
  refine WL.call rfl rfl rfl rfl rfl Tryz.func49 rfl (by kernel_rfl) (eqEn_any (h1.below hw) (h2.below hw)) ?_
  rintro _ w3 ⟨⟨b, rfl, hb⟩, hk3⟩
  refine ⟨_, rfl, ?_⟩
  refine kgo ?_
  exact WQ.ret1 rfl rfl ⟨⟨b, rfl, hb⟩, hw.trans (hk3.mono hw.size)⟩
set_option maxHeartbeats 4000000 in
theorem blocks_any {f f2 : Nat} {w : World} {x y : Bk} {c1 c2 : List Value} (h1 : IsB f w x c1) (h2 : IsB f2 w y c2) :
    Calls Tryz.prog 15 #[.agg c1.toArray, .agg c2.toArray] w fun r w' => (∃ b, r = .returned (.bool b) ∧ (b = true ↔ x = y)) ∧ Below w.heap.size w w' := by
  obtain ⟨s1, rfl, hE1, hp1, -, -⟩ := h1
  obtain ⟨s2, rfl, hE2, hp2, -, -⟩ := h2
  have hcb : x.ents.length ≤ 9223372036854775807 := by obtain ⟨_, c, -, h1, h2, -⟩ := hE1; omega
  obtain ⟨sp1, cap1, rfl⟩ := hE1.slice
  obtain ⟨sp2, cap2, rfl⟩ := hE2.slice
  refine enter (args := [.agg (bkC x (.slice sp1 x.ents.length cap1)).toArray, .agg (bkC y (.slice sp2 y.ents.length cap2)).toArray]) Tryz.func15 rfl Tryz.ntmps15 rfl ?_
  refine kgo ?_
  refine WL.box rfl rfl rfl rfl rfl fun g1 w1 hf1 => ?_
  have hf1' : Fresh w g1 w1 26 (bkC x (.slice sp1 x.ents.length cap1)) := hf1
  clear hf1
  refine WL.box rfl rfl rfl rfl rfl fun g2 w2 hf2 => ?_
  have hf2' : Fresh w1 g2 w2 26 (bkC y (.slice sp2 y.ents.length cap2)) := hf2
  clear hf2
  have hb2 : Below w.heap.size w w2 := hf1'.below.trans (hf2'.below.mono hf1'.below.size)
  have hz2 := hb2.size
  have B1 : BkAt 26 g1 w2 x (.slice sp1 x.ents.length cap1) := ⟨hf1'.blk.below hf2'.below hf1'.blk.lt, hp1⟩
  have B2 : BkAt 26 g2 w2 y (.slice sp2 y.ents.length cap2) := ⟨hf2'.blk, hp2⟩
  clear hf1' hf2'
  have no : ∀ {wx : World}, Below w.heap.size w wx → ¬ x = y → (∃ b, Ending.returned (Value.bool false) = .returned (.bool b) ∧ (b = true ↔ x = y)) ∧ Below w.heap.size w wx := fun h1 h2 => ⟨⟨false, rfl, by simp [h2]⟩, h1⟩
  refine kgo ?_
  refine WL.load rfl rfl rfl rfl rfl rfl B1.index ?_
  refine kgo ?_
  refine WL.load rfl rfl rfl rfl rfl rfl B2.index ?_
  by_cases q1 : x.index = y.index
  rotate_left
  · refine kgo ?_
    exact WQ.ret1 rfl rfl (no hb2 fun e => q1 (by rw [e]))
  refine kgo ?_
  refine WL.load rfl rfl rfl rfl rfl rfl B1.time ?_
  refine kgo ?_
  refine WL.load rfl rfl rfl rfl rfl rfl B2.time ?_
  by_cases q2 : x.time = y.time
  rotate_left
  · refine kgo ?_
    exact WQ.ret1 rfl rfl (no hb2 fun e => q2 (by rw [e]))
  refine kgo ?_
  refine WL.load rfl rfl rfl rfl rfl rfl B1.txn ?_
  refine kgo ?_
  refine WL.load rfl rfl rfl rfl rfl rfl B2.txn ?_
  by_cases q3 : x.txn = y.txn
  rotate_left
  · refine kgo ?_
    exact WQ.ret1 rfl rfl (no hb2 fun e => q3 (by rw [e]))
  refine kgo ?_
  refine WL.loadMid rfl rfl rfl rfl rfl rfl B1.prev (by simp [hp1]) ?_
  refine kgo ?_
  refine WL.loadMid rfl rfl rfl rfl rfl rfl B2.prev (by simp [hp2]) ?_
  refine WL.on rfl rfl ?_
  refine WL.neqH rfl rfl rfl rfl rfl rfl hp1 hp2 ?_
  by_cases q4 : x.prev = y.prev
  rotate_left
  · refine WL.as 30 (.bool true) rfl (by simp [q4]) ?_
    refine kgo ?_
    exact WQ.ret1 rfl rfl (no hb2 fun e => q4 (by rw [e]))
  refine WL.as 30 (.bool false) rfl (by simp [q4]) ?_
  refine kgo ?_
  refine WL.load rfl rfl rfl rfl rfl rfl B1.ents ?_
  refine kgo ?_
  refine WL.load rfl rfl rfl rfl rfl rfl B2.ents ?_
  by_cases q5 : x.ents.length = y.ents.length
  rotate_left
  · refine kgo ?_
    exact WQ.ret1 rfl rfl (no hb2 fun e => q5 (by rw [e]))
  refine kgo ?_
  refine WC.loop (fun i : Nat => [(2, .pointer (some ⟨g1, 0, none⟩)), (3, .pointer (some ⟨g2, 0, none⟩)), (5, .int .i64 i)]) (fun i wx => i ≤ x.ents.length ∧ x.ents.take i = y.ents.take i ∧ Below w2.heap.size w2 wx) (fun i => x.ents.length - i) 0 ⟨rfl, rfl, rfl, trivial⟩ ⟨Nat.zero_le _, by simp, Below.refl _ _⟩ ?_
  rintro i wr ⟨hi, ht, hbr⟩
  have R1 := B1.below hbr
  have R2 := B2.below hbr
  refine kgo ?_
  refine WL.load rfl rfl rfl rfl rfl rfl R1.ents ?_
  by_cases hik : i < x.ents.length
  rotate_left
  · obtain rfl : i = x.ents.length := by omega
    refine kgo ?_
    refine WQ.ret1 rfl rfl ⟨⟨true, rfl, ⟨fun _ => ?_, fun _ => rfl⟩⟩, hb2.trans (hbr.mono hz2)⟩
    rw [List.take_length, q5, List.take_length] at ht
    obtain ⟨a1, a2, a3, a4, a5⟩ := x
    obtain ⟨b1, b2, b3, b4, b5⟩ := y
    simp only at q1 q2 q3 q4 ht
    subst q1 q2 q3 q4 ht
    rfl
  obtain ⟨b1, o1, cap1', cs1, hs1, hlt1, hl1, hv1, ha1⟩ := hE1.at hik
  obtain ⟨b2, o2, cap2', cs2, hs2, hlt2, hl2, hv2, ha2⟩ := hE2.at (j := i) (by omega)
  injection hs1 with hs1 _ hs1'
  injection hs2 with hs2 _ hs2'
  subst hs1; subst hs1'; subst hs2; subst hs2'
  have hbw : Below w.heap.size w wr := hb2.trans (hbr.mono hz2)
  have ha1' : ∀ {wx : World}, wx.heap = wr.heap → wx.rangeAt b1 (o1 + i * 46) cs1 := fun hx j u hu => (heap_cell hx _).trans ((hbw.cell (p := ⟨b1, o1 + i * 46 + j, none⟩) hlt1).trans (ha1 j u hu))
  have ha2' : ∀ {wx : World}, wx.heap = wr.heap → wx.rangeAt b2 (o2 + i * 46) cs2 := fun hx j u hu => (heap_cell hx _).trans ((hbw.cell (p := ⟨b2, o2 + i * 46 + j, none⟩) hlt2).trans (ha2 j u hu))
  refine kgo ?_
  refine WC.drawn 10 (fun wx => wx.heap = wr.heap) fun w3 hd => ?_
  have hS : w3.heap = wr.heap := hd.heap
  have hb3 : Below w2.heap.size w2 w3 := hbr.trans (hd.below _)
  (((first | refine WD.free 0 rfl (by kernel_rfl) rfl rfl (fun _ _ _ _ _ h => h) rfl rfl (.inr hS) ?_ | refine WD.skip 0 rfl (by kernel_rfl) rfl rfl (fun _ _ _ _ _ h => h) rfl (.inr hS) ?_); try (first | ((with_reducible refine WD.topT ?_ ?_); omega) | ((with_reducible refine WD.topF ?_ ?_); omega) | ((with_reducible refine WD.top64 ?_ ?_); omega))))
  refine WD.load 1 [3, 4, 10, 11] rfl (by kernel_rfl) rfl rfl (fun _ _ _ _ _ h => h) rfl rfl rfl rfl (fun wx hx => (heap_cell hx _).trans R1.ents) hS ?_
  (((first | refine WD.free 2 rfl (by kernel_rfl) rfl rfl (fun _ _ _ _ _ h => h) rfl rfl (.inr hS) ?_ | refine WD.skip 2 rfl (by kernel_rfl) rfl rfl (fun _ _ _ _ _ h => h) rfl (.inr hS) ?_); try (first | ((with_reducible refine WD.topT ?_ ?_); omega) | ((with_reducible refine WD.topF ?_ ?_); omega) | ((with_reducible refine WD.top64 ?_ ?_); omega))))
  refine WD.idx 3 i (o1 + i * 46) rfl (by kernel_rfl) rfl rfl (fun _ _ _ _ _ h => h) rfl rfl rfl rfl rfl rfl hik rfl (.inr hS) ?_
  refine WD.loadMid 4 [10, 11] rfl (by kernel_rfl) rfl rfl (fun _ _ _ _ _ h => h) rfl rfl rfl rfl (fun wx hx => ha1' hx) hl1 hS ?_
  (((first | refine WD.free 5 rfl (by kernel_rfl) rfl rfl (fun _ _ _ _ _ h => h) rfl rfl (.inr hS) ?_ | refine WD.skip 5 rfl (by kernel_rfl) rfl rfl (fun _ _ _ _ _ h => h) rfl (.inr hS) ?_); try (first | ((with_reducible refine WD.topT ?_ ?_); omega) | ((with_reducible refine WD.topF ?_ ?_); omega) | ((with_reducible refine WD.top64 ?_ ?_); omega))))
  refine WD.load 6 [8, 9, 10, 11] rfl (by kernel_rfl) rfl rfl (fun _ _ _ _ _ h => h) rfl rfl rfl rfl (fun wx hx => (heap_cell hx _).trans R2.ents) hS ?_
  (((first | refine WD.free 7 rfl (by kernel_rfl) rfl rfl (fun _ _ _ _ _ h => h) rfl rfl (.inr hS) ?_ | refine WD.skip 7 rfl (by kernel_rfl) rfl rfl (fun _ _ _ _ _ h => h) rfl (.inr hS) ?_); try (first | ((with_reducible refine WD.topT ?_ ?_); omega) | ((with_reducible refine WD.topF ?_ ?_); omega) | ((with_reducible refine WD.top64 ?_ ?_); omega))))
  refine WD.idx 8 i (o2 + i * 46) rfl (by kernel_rfl) rfl rfl (fun _ _ _ _ _ h => h) rfl rfl rfl rfl rfl rfl (by omega) rfl (.inr hS) ?_
  refine WD.loadMid 9 [10, 11] rfl (by kernel_rfl) rfl rfl (fun _ _ _ _ _ h => h) rfl rfl rfl rfl (fun wx hx => ha2' hx) hl2 hS ?_
  refine WD.one 10 (by kernel_rfl) rfl ?_
  have hbw3 : Below w.heap.size w w3 := hb2.trans (hb3.mono hz2)
  refine WL.call rfl rfl rfl rfl rfl Tryz.func19 rfl (by kernel_rfl) (entries_any (IsE.below hbw3 hv1) (IsE.below hbw3 hv2)) ?_
  rintro _ w4 ⟨⟨b, rfl, hb⟩, hb4⟩
  refine ⟨_, rfl, ?_⟩
  have hb4' : Below w2.heap.size w2 w4 := hb3.trans (hb4.mono hb3.size)
  refine WL.nil (WQ.dk (.inl rfl) ?_)
  refine WD.one 11 (by kernel_rfl) rfl ?_
  refine WL.pure rfl rfl rfl rfl ?_
  refine WL.nil (WQ.dk (.inl rfl) ?_)
  refine WD.done (by kernel_rfl) ?_
  refine kgo ?_
  have hg1 : x.ents.getD i noE = x.ents[i] := by simp [hik]
  have hg2 : y.ents.getD i noE = y.ents[i] := by simp [show i < y.ents.length by omega]
  refine WC.condB rfl (fun hne => ?_) fun heq => ?_
  · refine kgo ?_
    refine WQ.ret1 rfl rfl (no (hb2.trans (hb4'.mono hz2)) fun e => ?_)
    have := hb.2 (by rw [e])
    simp [this] at hne
  · refine kgo ?_
    refine WQ.again (i + 1) ⟨rfl, rfl, rfl, trivial⟩ ⟨hik, take_snoc_eq ht hik (by omega) ?_, hb4'⟩ (by show x.ents.length - (i + 1) < x.ents.length - i; omega)
    rw [← hg1, ← hg2]
    exact hb.1 (by simpa using heq)
end K
end Go.Proofs.YtlamdhekjlnccaaGreatDoor

/- How great values are: the laws' great, heavy (chapter 7). -/
namespace Go.Proofs.YtlamdhekjlnccaaGreatDoor
open Go.RowKit
namespace K

set_option maxHeartbeats 4000000 in
theorem great_any : ∀ (f : Nat) {w0 w : World} {v : V} {cs : List Value} {pb n : Nat}, IsV f w0 v cs → Sml f v → Below w0.heap.size w0 w → w0.heap.size ≤ pb → VBlk 3 w pb [.int .i64 n] → n ≤ 140737488355328 →
    Calls Tryz.prog 20 #[.agg cs.toArray, .pointer (some ⟨pb, 0, none⟩)] w fun e w' => e = .returned (.bool (decide (3000 < grt 3000 f v n))) ∧ VBlk 3 w' pb [.int .i64 (grt 3000 f v n)] ∧ Keep (fun b => b < w.heap.size ∧ b ≠ pb) w w'
  | 0, _, _, _, _, _, _, h, _, _, _, _, _ => h.elim
  | f + 1, w0, w, v, cs, pb, n, hv, hs, hbel, hpb, hblk, hn => by
    have ih := @great_any f
    obtain ⟨sn, sk, rfl, -, -, -, htz, ⟨np, nc, rfl, nl, nc2, -, -⟩, ⟨sp, cap, rfl, hcap1, hcap2, hrow⟩⟩ := hv
    obtain ⟨hsn, hsk, hsm⟩ := hs
    have hgr : grt 3000 (f + 1) v n = grtK 3000 (grt 3000 f) v.kids (n + 1 + v.t.size / 20 + v.names.length) := rfl
    rw [hgr]
    refine enter (args := [.agg (six v (.slice np v.names.length nc) (.slice sp v.kids.length cap)).toArray, .pointer (some ⟨pb, 0, none⟩)]) Tryz.func20 rfl Tryz.ntmps20 rfl ?_
    refine kgo ?_
    refine WL.box rfl rfl rfl rfl rfl fun g w1 hf => ?_
    have hf' : Fresh w g w1 41 (six v (.slice np v.names.length nc) (.slice sp v.kids.length cap)) := hf
    clear hf
    have hpw := hblk.lt
    have hne : g ≠ pb := by rw [hf'.eq]; omega
    have hblk1 : VBlk 3 w1 pb [.int .i64 n] := hblk.below hf'.below hpw
    have hkeep1 : Keep (fun b => b < w.heap.size ∧ b ≠ pb) w w1 := (Keep.of_below hf'.below).mono fun _ h => h.1
    refine kgo ?_
    refine WC.drawn 15 (fun wx => VBlk 3 wx pb [.int .i64 n] ∧ VBlk 41 wx g (six v (.slice np v.names.length nc) (.slice sp v.kids.length cap))) fun w2 hd2 => ?_
    have hS : VBlk 3 w2 pb [.int .i64 n] ∧ VBlk 41 w2 g (six v (.slice np v.names.length nc) (.slice sp v.kids.length cap)) := ⟨hblk1.below (hd2.below _) hblk1.lt, hf'.blk.below (hd2.below _) hf'.blk.lt⟩
    (((first | refine WD.free 0 rfl (by kernel_rfl) rfl rfl (fun _ _ _ _ _ h => h) rfl rfl (.inr hS) ?_ | refine WD.skip 0 rfl (by kernel_rfl) rfl rfl (fun _ _ _ _ _ h => h) rfl (.inr hS) ?_); try (first | ((with_reducible refine WD.topT ?_ ?_); omega) | ((with_reducible refine WD.topF ?_ ?_); omega) | ((with_reducible refine WD.top64 ?_ ?_); omega))); ((first | refine WD.free 1 rfl (by kernel_rfl) rfl rfl (fun _ _ _ _ _ h => h) rfl rfl (.inr hS) ?_ | refine WD.skip 1 rfl (by kernel_rfl) rfl rfl (fun _ _ _ _ _ h => h) rfl (.inr hS) ?_); try (first | ((with_reducible refine WD.topT ?_ ?_); omega) | ((with_reducible refine WD.topF ?_ ?_); omega) | ((with_reducible refine WD.top64 ?_ ?_); omega))); ((first | refine WD.free 2 rfl (by kernel_rfl) rfl rfl (fun _ _ _ _ _ h => h) rfl rfl (.inr hS) ?_ | refine WD.skip 2 rfl (by kernel_rfl) rfl rfl (fun _ _ _ _ _ h => h) rfl (.inr hS) ?_); try (first | ((with_reducible refine WD.topT ?_ ?_); omega) | ((with_reducible refine WD.topF ?_ ?_); omega) | ((with_reducible refine WD.top64 ?_ ?_); omega))))
    refine WD.load 3 [4, 9, 13, 15] rfl (by kernel_rfl) rfl rfl (fun _ _ _ _ _ h => h) rfl rfl rfl rfl (fun wx hx => hx.1.cell 0 (by simp)) hS ?_
    (((first | refine WD.free 4 rfl (by kernel_rfl) rfl rfl (fun _ _ _ _ _ h => h) rfl rfl (.inr hS) ?_ | refine WD.skip 4 rfl (by kernel_rfl) rfl rfl (fun _ _ _ _ _ h => h) rfl (.inr hS) ?_); try (first | ((with_reducible refine WD.topT ?_ ?_); omega) | ((with_reducible refine WD.topF ?_ ?_); omega) | ((with_reducible refine WD.top64 ?_ ?_); omega))); ((first | refine WD.free 5 rfl (by kernel_rfl) rfl rfl (fun _ _ _ _ _ h => h) rfl rfl (.inr hS) ?_ | refine WD.skip 5 rfl (by kernel_rfl) rfl rfl (fun _ _ _ _ _ h => h) rfl (.inr hS) ?_); try (first | ((with_reducible refine WD.topT ?_ ?_); omega) | ((with_reducible refine WD.topF ?_ ?_); omega) | ((with_reducible refine WD.top64 ?_ ?_); omega))))
    refine WD.load 6 [7, 8, 9, 13, 15] rfl (by kernel_rfl) rfl rfl (fun _ _ _ _ _ h => h) rfl rfl rfl rfl (fun wx hx => hx.2.cell 3 (by simp)) hS ?_
    (((first | refine WD.free 7 rfl (by kernel_rfl) rfl rfl (fun _ _ _ _ _ h => h) rfl rfl (.inr hS) ?_ | refine WD.skip 7 rfl (by kernel_rfl) rfl rfl (fun _ _ _ _ _ h => h) rfl (.inr hS) ?_); try (first | ((with_reducible refine WD.topT ?_ ?_); omega) | ((with_reducible refine WD.topF ?_ ?_); omega) | ((with_reducible refine WD.top64 ?_ ?_); omega))); ((first | refine WD.free 8 rfl (by kernel_rfl) rfl rfl (fun _ _ _ _ _ h => h) rfl rfl (.inr hS) ?_ | refine WD.skip 8 rfl (by kernel_rfl) rfl rfl (fun _ _ _ _ _ h => h) rfl (.inr hS) ?_); try (first | ((with_reducible refine WD.topT ?_ ?_); omega) | ((with_reducible refine WD.topF ?_ ?_); omega) | ((with_reducible refine WD.top64 ?_ ?_); omega))); ((first | refine WD.free 9 rfl (by kernel_rfl) rfl rfl (fun _ _ _ _ _ h => h) rfl rfl (.inr hS) ?_ | refine WD.skip 9 rfl (by kernel_rfl) rfl rfl (fun _ _ _ _ _ h => h) rfl (.inr hS) ?_); try (first | ((with_reducible refine WD.topT ?_ ?_); omega) | ((with_reducible refine WD.topF ?_ ?_); omega) | ((with_reducible refine WD.top64 ?_ ?_); omega))); ((first | refine WD.free 10 rfl (by kernel_rfl) rfl rfl (fun _ _ _ _ _ h => h) rfl rfl (.inr hS) ?_ | refine WD.skip 10 rfl (by kernel_rfl) rfl rfl (fun _ _ _ _ _ h => h) rfl (.inr hS) ?_); try (first | ((with_reducible refine WD.topT ?_ ?_); omega) | ((with_reducible refine WD.topF ?_ ?_); omega) | ((with_reducible refine WD.top64 ?_ ?_); omega))))
    refine WD.load 11 [12, 13, 15] rfl (by kernel_rfl) rfl rfl (fun _ _ _ _ _ h => h) rfl rfl rfl rfl (fun wx hx => hx.2.cell 4 (by simp)) hS ?_
    (((first | refine WD.free 12 rfl (by kernel_rfl) rfl rfl (fun _ _ _ _ _ h => h) rfl rfl (.inr hS) ?_ | refine WD.skip 12 rfl (by kernel_rfl) rfl rfl (fun _ _ _ _ _ h => h) rfl (.inr hS) ?_); try (first | ((with_reducible refine WD.topT ?_ ?_); omega) | ((with_reducible refine WD.topF ?_ ?_); omega) | ((with_reducible refine WD.top64 ?_ ?_); omega))); ((first | refine WD.free 13 rfl (by kernel_rfl) rfl rfl (fun _ _ _ _ _ h => h) rfl rfl (.inr hS) ?_ | refine WD.skip 13 rfl (by kernel_rfl) rfl rfl (fun _ _ _ _ _ h => h) rfl (.inr hS) ?_); try (first | ((with_reducible refine WD.topT ?_ ?_); omega) | ((with_reducible refine WD.topF ?_ ?_); omega) | ((with_reducible refine WD.top64 ?_ ?_); omega))); ((first | refine WD.free 14 rfl (by kernel_rfl) rfl rfl (fun _ _ _ _ _ h => h) rfl rfl (.inr hS) ?_ | refine WD.skip 14 rfl (by kernel_rfl) rfl rfl (fun _ _ _ _ _ h => h) rfl (.inr hS) ?_); try (first | ((with_reducible refine WD.topT ?_ ?_); omega) | ((with_reducible refine WD.topF ?_ ?_); omega) | ((with_reducible refine WD.top64 ?_ ?_); omega))))
    refine WD.one 15 (by kernel_rfl) rfl ?_
    have e : IntKind.i64.wrap ((v.t.size : Int).tdiv 20) = ((v.t.size / 20 : Nat) : Int) := by rw [Int.tdiv_eq_ediv_of_nonneg (by omega), IntKind.wrap_i64]; omega
    have e2 : IntKind.i64.wrap (IntKind.i64.wrap ((n : Int) + 1 + IntKind.i64.wrap ((v.t.size : Int).tdiv 20)) + (v.names.length : Int)) = ((n + 1 + v.t.size / 20 + v.names.length : Nat) : Int) := by
      rw [e, show IntKind.i64.wrap ((n : Int) + 1 + ((v.t.size / 20 : Nat) : Int)) = (n : Int) + 1 + ((v.t.size / 20 : Nat) : Int) from IntWalk.i64_in _ (by omega), IntWalk.i64_in _ (by omega)]; omega
    generalize n + 1 + v.t.size / 20 + v.names.length = n1 at e2 ⊢
    refine WL.store (v := .int .i64 n1) rfl rfl rfl rfl (congrArg (fun z => some (Value.int .i64 z)) e2) rfl (by kernel_rfl) (hS.1.cell 0 (by simp)) (hS.1.free 0) ?_
    have hb2 : VBlk 3 (w2.setCell ⟨pb, 0, none⟩ (.int .i64 n1)) pb [.int .i64 n1] := hS.1.set 0 (.int .i64 n1)
    have hg2 : VBlk 41 (w2.setCell ⟨pb, 0, none⟩ (.int .i64 n1)) g (six v (.slice np v.names.length nc) (.slice sp v.kids.length cap)) := hS.2.other _ _ hne
    have hk2 : Keep (fun b => b < w.heap.size ∧ b ≠ pb) w (w2.setCell ⟨pb, 0, none⟩ (.int .i64 n1)) := (hkeep1.trans ((Keep.of_below (hd2.below w1.heap.size)).mono fun b hb => Nat.lt_of_lt_of_le hb.1 hf'.below.size)).setCell (fun h => h.2 rfl) _
    generalize w2.setCell ⟨pb, 0, none⟩ (.int .i64 n1) = w3 at hb2 hg2 hk2
    refine WL.nil (WQ.dk (.inl rfl) ?_)
    refine WD.done (by kernel_rfl) ?_
    refine kgo ?_
    generalize hRR : grtK 3000 (grt 3000 f) v.kids n1 = RR
    have hgw : g < w3.heap.size := hg2.lt
    refine WC.loop (fun i : Nat => [(1, .pointer (some ⟨pb, 0, none⟩)), (2, .pointer (some ⟨g, 0, none⟩)), (5, .int .i64 i)])
      (fun i w' => i ≤ v.kids.length ∧ Keep (fun b => b < w3.heap.size ∧ b ≠ pb) w3 w' ∧ ∃ x : Nat, VBlk 3 w' pb [.int .i64 x] ∧ grtK 3000 (grt 3000 f) (v.kids.drop i) x = RR) (fun i => v.kids.length - i) 0
      ⟨rfl, rfl, rfl, trivial⟩ ⟨Nat.zero_le _, Keep.refl _ _, n1, hb2, hRR⟩ ?_
    rintro i wr ⟨hi, hkr, x, hbx, hx⟩
    have hgr2 : VBlk 41 wr g (six v (.slice np v.names.length nc) (.slice sp v.kids.length cap)) := hg2.keep hkr ⟨hgw, hne⟩
    have hkw : Keep (fun b => b < w.heap.size ∧ b ≠ pb) w wr := hk2.trans (hkr.mono fun b hb => ⟨Nat.lt_of_lt_of_le hb.1 hk2.size, hb.2⟩)
    have hlast : ∀ {wz : World} {xz : Nat}, VBlk 3 wz pb [.int .i64 xz] → Keep (fun b => b < w.heap.size ∧ b ≠ pb) w wz → xz = RR → (Ending.returned (.bool (decide ((3000 : Int) < (xz : Int)))) = .returned (.bool (decide (3000 < RR))) ∧ VBlk 3 wz pb [.int .i64 (RR)] ∧ Keep (fun b => b < w.heap.size ∧ b ≠ pb) w wz) :=
      fun h1 h2 h3 => ⟨by rw [← h3]; congr 2; simp only [decide_eq_decide]; omega, by rw [← h3]; exact h1, h2⟩
    refine kgo ?_
    refine WL.load rfl rfl rfl rfl rfl rfl (hgr2.cell 5 (by simp)) ?_
    by_cases hik : i < v.kids.length
    · have hdr : v.kids.drop i = v.kids.getD i noV :: v.kids.drop (i + 1) := by
        rw [List.drop_eq_getElem_cons hik]
        simp [hik]
      rw [hdr] at hx
      refine kgo ?_
      refine WL.load rfl rfl rfl rfl rfl rfl (hbx.cell 0 (by simp)) ?_
      by_cases hx2 : x ≤ 3000
      · obtain ⟨kb, ko, rfl, hkb, hcells⟩ := hrow (by omega)
        obtain ⟨c, hc6, hci, hcr⟩ := hcells i hik
        have hbelr : Below w0.heap.size w0 wr := (hbel.trans ((hkw.mono fun b hb => ⟨Nat.lt_of_lt_of_le hb hbel.size, Nat.ne_of_lt (Nat.lt_of_lt_of_le hb hpb)⟩ : Keep (fun b => b < w0.heap.size) w wr).below))
        have hcr' : wr.rangeAt kb (ko + i * 6) c := fun j u hu => by rw [hbelr.cell (p := ⟨kb, ko + i * 6 + j, none⟩) hkb]; exact hcr j u hu
        unfold grtK at hx
        rw [if_pos hx2] at hx
        refine kgo ?_
        refine WL.load rfl rfl rfl rfl rfl rfl (hgr2.cell 5 (by simp)) ?_
        refine kgo ?_
        refine WL.idx i (ko + i * 6) rfl rfl rfl rfl rfl rfl rfl rfl hik rfl ?_
        refine WL.loadMid rfl rfl rfl rfl rfl rfl hcr' hc6 ?_
        refine kgo ?_
        refine WL.call rfl rfl rfl rfl rfl Tryz.func20 rfl (by kernel_rfl) (ih (n := x) hci (hsm _ (by rw [List.getD_eq_getElem?_getD, List.getElem?_eq_getElem hik]; exact List.getElem_mem hik)) hbelr hpb hbx (by omega)) ?_
        rintro e w4 ⟨rfl, hb4, hk4⟩
        refine ⟨_, rfl, ?_⟩
        refine kgo ?_
        exact WQ.again (i + 1) ⟨rfl, rfl, rfl, trivial⟩ ⟨hik, hkr.trans (hk4.mono fun b hb => ⟨Nat.lt_of_lt_of_le hb.1 hkr.size, hb.2⟩), _, hb4, hx⟩ (by show v.kids.length - (i + 1) < v.kids.length - i; omega)
      · unfold grtK at hx
        rw [if_neg hx2] at hx
        refine kgo ?_
        refine WL.load rfl rfl rfl rfl rfl rfl (hbx.cell 0 (by simp)) ?_
        refine WL.pure rfl rfl rfl rfl ?_
        refine WL.pure rfl rfl rfl rfl ?_
        refine kgo ?_
        exact WQ.ret1 rfl rfl ⟨congrArg (fun b => Ending.returned (Value.bool b)) (decide_eq_true (by omega)).symm, (hlast hbx hkw hx).2⟩
    · obtain rfl : i = v.kids.length := by omega
      rw [List.drop_length] at hx
      unfold grtK at hx
      refine kgo ?_
      refine WL.load rfl rfl rfl rfl rfl rfl (hbx.cell 0 (by simp)) ?_
      refine WL.pure rfl rfl rfl rfl ?_
      refine WL.pure rfl rfl rfl rfl ?_
      refine kgo ?_
      exact WQ.ret1 rfl rfl (hlast hbx hkw hx)
end K
end Go.Proofs.YtlamdhekjlnccaaGreatDoor

/- Blocks (chapter 11): the law's heavy. -/
namespace Go.Proofs.YtlamdhekjlnccaaGreatDoor
open Go.RowKit
namespace K
theorem enC_dataAt {w : World} {b o : Nat} {e : En} {dc : List Value} (hd : dc.length = 6) (h : w.rangeAt b o (enC e dc)) : w.rangeAt b (o + 5) dc := by
  intro j u hu
  have hj : j < 6 := by
    rcases Nat.lt_or_ge j dc.length with h1 | h1
    · omega
    · rw [List.getElem?_eq_none h1] at hu; cases hu
  have := h (5 + j) u (by unfold enC; rw [Nat.add_comm 5 j]; simp only [List.getElem?_cons_succ]; rw [List.getElem?_append_left (by omega)]; exact hu)
  rw [Nat.add_assoc]; exact this
set_option maxHeartbeats 4000000 in
theorem heavy_grt {f : Nat} {w : World} {b : Bk} {cs : List Value} (h : IsB f w b cs) (hs : ∀ e ∈ b.ents, Sml f e.data) :
    Calls Tryz.prog 5 #[.agg cs.toArray] w fun r w' => Below w.heap.size w w' ∧ ∃ b', r = .returned (.bool b') ∧ (b' = false → b.ents.length ≤ 3000 ∧ ∀ e ∈ b.ents, ∃ n, ¬ 3000 < grt 3000 f e.data n) := by
  obtain ⟨s1, rfl, hE1, hp1, -, -⟩ := h
  have hcb : b.ents.length ≤ 9223372036854775807 := by obtain ⟨_, c, -, h1, h2, -⟩ := hE1; omega
  obtain ⟨sp1, cap1, rfl⟩ := hE1.slice
  refine enter (args := [.agg (bkC b (.slice sp1 b.ents.length cap1)).toArray]) Tryz.func5 rfl Tryz.ntmps5 rfl ?_
  refine kgo ?_
  refine WL.box rfl rfl rfl rfl rfl fun g w1 hf1 => ?_
  have hf1' : Fresh w g w1 26 (bkC b (.slice sp1 b.ents.length cap1)) := hf1
  clear hf1
  have hg := hf1'.eq
  have hz1 := hf1'.size
  refine kgo ?_
  refine WL.alloc (z := .int .i64 0) rfl rfl rfl rfl (fun _ => by kernel_rfl) fun pb w2 hf2 => ?_
  have hf2' : Fresh w1 pb w2 3 [.int .i64 0] := hf2
  clear hf2
  have hpb := hf2'.eq
  have hb2 : Below w.heap.size w w2 := hf1'.below.trans (hf2'.below.mono (by omega))
  have B2 : BkAt 26 g w2 b (.slice sp1 b.ents.length cap1) := ⟨hf1'.blk.below hf2'.below hf1'.blk.lt, hp1⟩
  refine kgo ?_
  refine WL.store (v := .int .i64 0) rfl rfl rfl rfl rfl rfl (by kernel_rfl) (hf2'.blk.cell 0 (by simp)) (hf2'.blk.free 0) ?_
  have P3 : VBlk 3 (w2.setCell ⟨pb, 0, none⟩ (.int .i64 0)) pb [.int .i64 0] := hf2'.blk.set 0 (.int .i64 0)
  have hk3 : Keep (fun b => b < w1.heap.size) w2 (w2.setCell ⟨pb, 0, none⟩ (.int .i64 0)) := cellK _ _ _ _ _ (by omega)
  have B3 := B2.keep hk3 (by omega)
  have hb3 : Below w.heap.size w (w2.setCell ⟨pb, 0, none⟩ (.int .i64 0)) := hb2.trans (Keep.below (Keep.mono hk3 fun b hb => by have := hf2'.size; omega)) |> fun h => h
  generalize w2.setCell ⟨pb, 0, none⟩ (.int .i64 0) = w3 at P3 B3 hb3 ⊢
  clear hk3 hf1' hf2' hb2 B2
  refine kgo ?_
  refine WC.loop (fun i : Nat => [(1, .pointer (some ⟨g, 0, none⟩)), (3, .pointer (some ⟨pb, 0, none⟩)), (4, .int .i64 i)])
    (fun i wx => i ≤ b.ents.length ∧ BkAt 26 g wx b (.slice sp1 b.ents.length cap1) ∧ Below w.heap.size w wx ∧ (∃ x : Nat, x ≤ 3000 ∧ i ≤ x ∧ VBlk 3 wx pb [.int .i64 x]) ∧ ∀ e ∈ b.ents.take i, ∃ n, ¬ 3000 < grt 3000 f e.data n)
    (fun i => b.ents.length - i) 0 ⟨rfl, rfl, rfl, trivial⟩ ⟨Nat.zero_le _, B3, hb3, ⟨0, by omega, by omega, P3⟩, by simp⟩ ?_
  rintro i wr ⟨hi, R, hbr, ⟨x, hx, hix, P⟩, hall⟩
  refine kgo ?_
  refine WL.load rfl rfl rfl rfl rfl rfl R.ents ?_
  by_cases hik : i < b.ents.length
  rotate_left
  · obtain rfl : i = b.ents.length := by omega
    refine kgo ?_
    refine WL.load rfl rfl rfl rfl rfl rfl (P.cell 0 (by simp)) ?_
    refine kgo ?_
    exact WQ.ret1 rfl rfl ⟨hbr, _, rfl, fun _ => ⟨by omega, by rw [List.take_length] at hall; exact hall⟩⟩
  obtain ⟨b1, o1, cap1', cs1, hs1, hlt1, hl1, hv1, ha1⟩ := hE1.at hik
  injection hs1 with hs1 _ hs1'
  subst hs1; subst hs1'
  have hmem : b.ents.getD i noE ∈ b.ents := by simp [hik]
  have hsm := hs _ hmem
  have hts := take_snoc b.ents noE hik
  generalize b.ents.getD i noE = e at hv1 hsm hts
  obtain ⟨dc, rfl, hv, hdl, -, hh, -, htz, -⟩ := hv1
  have ha1' : ∀ {wx : World}, wx.heap = wr.heap → wx.rangeAt b1 (o1 + i * 46) (enC e dc) := fun hx j u hu => (heap_cell hx _).trans ((hbr.cell (p := ⟨b1, o1 + i * 46 + j, none⟩) hlt1).trans (ha1 j u hu))
  refine kgo ?_
  refine WC.drawn 11 (fun wx => wx.heap = wr.heap) fun w4 hd => ?_
  have hS : w4.heap = wr.heap := hd.heap
  refine WD.load 0 [1, 10, 11] rfl (by kernel_rfl) rfl rfl (fun _ _ _ _ _ h => h) rfl rfl rfl rfl (fun wx hx => (heap_cell hx _).trans (P.cell 0 (by simp))) hS ?_
  (((first | refine WD.free 1 rfl (by kernel_rfl) rfl rfl (fun _ _ _ _ _ h => h) rfl rfl (.inr hS) ?_ | refine WD.skip 1 rfl (by kernel_rfl) rfl rfl (fun _ _ _ _ _ h => h) rfl (.inr hS) ?_); try (first | ((with_reducible refine WD.topT ?_ ?_); omega) | ((with_reducible refine WD.topF ?_ ?_); omega) | ((with_reducible refine WD.top64 ?_ ?_); omega))); ((first | refine WD.free 2 rfl (by kernel_rfl) rfl rfl (fun _ _ _ _ _ h => h) rfl rfl (.inr hS) ?_ | refine WD.skip 2 rfl (by kernel_rfl) rfl rfl (fun _ _ _ _ _ h => h) rfl (.inr hS) ?_); try (first | ((with_reducible refine WD.topT ?_ ?_); omega) | ((with_reducible refine WD.topF ?_ ?_); omega) | ((with_reducible refine WD.top64 ?_ ?_); omega))))
  refine WD.load 3 [5, 6, 7, 8, 9, 10, 11] rfl (by kernel_rfl) rfl rfl (fun _ _ _ _ _ h => h) rfl rfl rfl rfl (fun wx hx => (heap_cell hx _).trans R.ents) hS ?_
  (((first | refine WD.free 4 rfl (by kernel_rfl) rfl rfl (fun _ _ _ _ _ h => h) rfl rfl (.inr hS) ?_ | refine WD.skip 4 rfl (by kernel_rfl) rfl rfl (fun _ _ _ _ _ h => h) rfl (.inr hS) ?_); try (first | ((with_reducible refine WD.topT ?_ ?_); omega) | ((with_reducible refine WD.topF ?_ ?_); omega) | ((with_reducible refine WD.top64 ?_ ?_); omega))))
  refine WD.idx 5 i (o1 + i * 46) rfl (by kernel_rfl) rfl rfl (fun _ _ _ _ _ h => h) rfl rfl rfl rfl rfl rfl hik rfl (.inr hS) ?_
  (((first | refine WD.free 6 rfl (by kernel_rfl) rfl rfl (fun _ _ _ _ _ h => h) rfl rfl (.inr hS) ?_ | refine WD.skip 6 rfl (by kernel_rfl) rfl rfl (fun _ _ _ _ _ h => h) rfl (.inr hS) ?_); try (first | ((with_reducible refine WD.topT ?_ ?_); omega) | ((with_reducible refine WD.topF ?_ ?_); omega) | ((with_reducible refine WD.top64 ?_ ?_); omega))))
  refine WD.load 7 [8, 9, 10, 11] rfl (by kernel_rfl) rfl rfl (fun _ _ _ _ _ h => h) rfl rfl rfl rfl (fun wx hx => ha1' hx 1 (.string e.text) rfl) hS ?_
  (((first | refine WD.free 8 rfl (by kernel_rfl) rfl rfl (fun _ _ _ _ _ h => h) rfl rfl (.inr hS) ?_ | refine WD.skip 8 rfl (by kernel_rfl) rfl rfl (fun _ _ _ _ _ h => h) rfl (.inr hS) ?_); try (first | ((with_reducible refine WD.topT ?_ ?_); omega) | ((with_reducible refine WD.topF ?_ ?_); omega) | ((with_reducible refine WD.top64 ?_ ?_); omega))); ((first | refine WD.free 9 rfl (by kernel_rfl) rfl rfl (fun _ _ _ _ _ h => h) rfl rfl (.inr hS) ?_ | refine WD.skip 9 rfl (by kernel_rfl) rfl rfl (fun _ _ _ _ _ h => h) rfl (.inr hS) ?_); try (first | ((with_reducible refine WD.topT ?_ ?_); omega) | ((with_reducible refine WD.topF ?_ ?_); omega) | ((with_reducible refine WD.top64 ?_ ?_); omega))); ((first | refine WD.free 10 rfl (by kernel_rfl) rfl rfl (fun _ _ _ _ _ h => h) rfl rfl (.inr hS) ?_ | refine WD.skip 10 rfl (by kernel_rfl) rfl rfl (fun _ _ _ _ _ h => h) rfl (.inr hS) ?_); try (first | ((with_reducible refine WD.topT ?_ ?_); omega) | ((with_reducible refine WD.topF ?_ ?_); omega) | ((with_reducible refine WD.top64 ?_ ?_); omega))))
  refine WD.one 11 (by kernel_rfl) rfl ?_
  have e1 : IntKind.i64.wrap ((e.text.size : Int).tdiv 20) = ((e.text.size / 20 : Nat) : Int) := by rw [Int.tdiv_eq_ediv_of_nonneg (by omega), IntKind.wrap_i64]; omega
  have e2 : IntKind.i64.wrap ((x : Int) + 5 + IntKind.i64.wrap ((e.text.size : Int).tdiv 20)) = ((x + 5 + e.text.size / 20 : Nat) : Int) := by
    rw [e1, IntWalk.i64_in _ (by omega)]; omega
  have hx1 : x + 5 + e.text.size / 20 ≤ 140737488355328 := by omega
  have hx2 : i + 1 ≤ x + 5 + e.text.size / 20 := by omega
  generalize x + 5 + e.text.size / 20 = x1 at e2 hx1 hx2
  have P4 : VBlk 3 w4 pb [.int .i64 x] := P.below (hd.below _) P.lt
  refine WL.store (v := .int .i64 x1) rfl rfl rfl rfl (congrArg (fun z => some (Value.int .i64 z)) e2) rfl (by kernel_rfl) (P4.cell 0 (by simp)) (P4.free 0) ?_
  have P5 : VBlk 3 (w4.setCell ⟨pb, 0, none⟩ (.int .i64 x1)) pb [.int .i64 x1] := P4.set 0 (.int .i64 x1)
  have R5 := (R.below (hd.below _)).keep (cellK w4 pb 0 (.int .i64 x1) (· ≠ pb) (fun h => h rfl)) (by show g ≠ pb; omega)
  have hb4 : Below w.heap.size w w4 := hbr.trans ((hd.below wr.heap.size).mono hbr.size)
  have hb5 : Below w.heap.size w (w4.setCell ⟨pb, 0, none⟩ (.int .i64 x1)) := hb4.trans (Keep.below (cellK w4 pb 0 (.int .i64 x1) (fun b => b < w.heap.size) (by omega)))
  generalize w4.setCell ⟨pb, 0, none⟩ (.int .i64 x1) = w5 at P5 R5 hb5 ⊢
  refine WL.nil (WQ.dk (.inl rfl) ?_)
  refine WD.done (by kernel_rfl) ?_
  have hd5 : w5.rangeAt b1 (o1 + i * 46 + 5) dc := enC_dataAt hdl fun j u hu => (hb5.cell (p := ⟨b1, o1 + i * 46 + j, none⟩) hlt1).trans (ha1 j u hu)
  refine kgo ?_
  refine WL.load rfl rfl rfl rfl rfl rfl R5.ents ?_
  refine kgo ?_
  refine WL.idx i (o1 + i * 46) rfl rfl rfl rfl rfl rfl rfl rfl hik rfl ?_
  refine kgo ?_
  refine WL.loadMid rfl rfl rfl rfl rfl rfl hd5 hdl ?_
  refine WL.call rfl rfl rfl rfl rfl Tryz.func20 rfl (by kernel_rfl) (great_any f hv hsm hb5 (by omega) P5 hx1) ?_
  rintro _ w6 ⟨rfl, P6, hk6⟩
  refine ⟨_, rfl, ?_⟩
  have hb6 : Below w.heap.size w w6 := hb5.trans (Keep.below (Keep.mono hk6 fun b hb => ⟨Nat.lt_of_lt_of_le hb hb5.size, by omega⟩))
  have R6 := R5.keep hk6 ⟨R5.blk.lt, by omega⟩
  by_cases hgr : 3000 < grt 3000 f e.data x1
  · refine kgo ?_
    exact WQ.ret1 rfl rfl ⟨hb6, true, rfl, fun h => by cases h⟩
  · refine kgo ?_
    refine WQ.again (i + 1) ⟨rfl, rfl, rfl, trivial⟩ ⟨hik, R6, hb6, ⟨_, by omega, Nat.le_trans hx2 (grt_le f e.data x1), P6⟩, fun y hy => ?_⟩ (by show b.ents.length - (i + 1) < b.ents.length - i; omega)
    rw [hts] at hy
    rcases List.mem_append.1 hy with h1 | h1
    · exact hall y h1
    · rw [List.mem_singleton.1 h1]; exact ⟨_, hgr⟩
theorem heavy_any {f : Nat} {w : World} {b : Bk} {cs : List Value} (h : IsB f w b cs) (hs : ∀ e ∈ b.ents, Sml f e.data) :
    Calls Tryz.prog 5 #[.agg cs.toArray] w fun r w' => Below w.heap.size w w' ∧ ∃ b', r = .returned (.bool b') ∧ (b' = false → ∀ e ∈ b.ents, chk 16 e.data = 0 → (encV 16 e.data).length ≤ 70368744177664) :=
  Calls.mono (heavy_grt h hs) fun _ _ ⟨h1, b', h2, h3⟩ => ⟨h1, b', h2, fun hb e he => by
    obtain ⟨n, hn⟩ := (h3 hb).2 e he
    exact enc_len (hs e he) hn⟩
end K
end Go.Proofs.YtlamdhekjlnccaaGreatDoor

/- Blocks (chapter 11): the law's known. -/
namespace Go.Proofs.YtlamdhekjlnccaaGreatDoor
open Go.RowKit
namespace K
theorem form_small : formE smallE := by
  unfold formE
  rw [if_neg (by decide), if_neg (by decide), if_neg (by decide), if_neg (by decide), if_pos (show smallE.kind = 5 ∨ smallE.kind = 7 from Or.inl rfl)]
  exact ⟨by decide, by decide, by decide, by decide, rfl, rfl, rfl, rfl, rfl, rfl, rfl, rfl⟩
theorem chkE_small : chkE smallE = 0 := by
  unfold chkE
  rw [if_pos form_small, if_pos (Or.inl (by decide))]
theorem chkB_small : chkB smallB = 0 := by
  have hl : ¬ 262144 < (layB true smallB).length := by decide +kernel
  unfold chkB
  rw [if_pos (by decide), if_neg (by simp [smallB, firstBad, chkE_small]), if_neg hl]
theorem chkB_noB : chkB noB = 1 := by
  unfold chkB
  rw [if_neg (by decide)]
set_option maxHeartbeats 4000000 in
theorem known_any {w : World} : Calls Tryz.prog 16 #[] w fun r w' => r = .returned (.bool true) ∧ Below w.heap.size w w' := by
  have hsm : ∀ e ∈ smallB.ents, chk 16 e.data = 0 → (encV 16 e.data).length ≤ 70368744177664 := fun e he _ => by
    have : e = smallE := List.mem_singleton.1 he
    rw [this]
    have : (encV 16 smallE.data).length ≤ 65536 := by decide
    omega
  have henc : encB true smallB = (layB true smallB, 0) := by unfold encB; rw [if_neg (by rw [chkB_small]; omega)]
  refine enter (args := []) Tryz.func16 rfl Tryz.ntmps16 rfl ?_
  refine kgo ?_
  refine WL.call rfl rfl rfl rfl rfl Tryz.func46 rfl (by kernel_rfl) small_any ?_
  rintro _ w1 ⟨hb1, c1, rfl, h1⟩
  refine ⟨_, rfl, ?_⟩
  have hB1 := isB_of h1
  have hrng : RngB smallB := ⟨fun e he => (BkP.hashes hB1 e he).2, rfl⟩
  refine WL.call rfl rfl rfl rfl rfl Tryz.func45 rfl (by kernel_rfl) (encode11_any true hB1 hsm) ?_
  rintro _ w2 ⟨v2, rfl, hv2, hb2, -⟩
  refine ⟨_, rfl, ?_⟩
  rw [henc] at hv2 ⊢
  simp only at hv2 ⊢
  have hlay : (layB true smallB).length ≤ 262144 := by decide +kernel
  have hbyt : Byt (layB true smallB) := by
    show ∀ c ∈ layB true smallB, 0 ≤ c ∧ c ≤ 255
    decide +kernel
  refine kgo ?_
  refine WL.call rfl rfl rfl rfl rfl Tryz.func47 rfl (by kernel_rfl) (decode11_any hv2.sl hbyt (by omega)) ?_
  rintro _ w3 ⟨hb3, y, c3, e3, rfl, h3, hout⟩
  refine ⟨_, rfl, ?_⟩
  rw [readB_enc chkB_small hrng] at hout
  obtain ⟨rfl, rfl⟩ := hout
  have hl3 := h3.len
  have hw3 : Below w.heap.size w w3 := hb1.trans ((hb2.mono hb1.size).trans (hb3.mono (Nat.le_trans hb1.size hb2.size)))
  refine kgo ?_
  refine WL.alloc (z := .agg (bkC noB (.slice none 0 0)).toArray) rfl rfl rfl rfl (fun _ => by kernel_rfl) fun g w4 hf => ?_
  have hf' : Fresh w3 g w4 26 (bkC noB (.slice none 0 0)) := hf
  clear hf
  have hg := hf'.eq
  refine kgo ?_
  refine WL.storeRow rfl rfl rfl rfl rfl rfl hf'.blk hl3 rfl h3.one ?_
  have hb5 : Below w3.heap.size w3 (w4.setRow g c3.toArray) := below_setRow hf'.below (by omega) _
  have g5 : VBlk 26 (w4.setRow g c3.toArray) g c3 := hf'.blk.setRow c3
  generalize w4.setRow g c3.toArray = w5 at hb5 g5 ⊢
  clear hf'
  refine kgo ?_
  refine WC.drawn 9 (fun wx => VBlk 26 wx g c3) fun w6 hd => ?_
  have hS := g5.below (hd.below _) g5.lt
  have hb6 : Below w3.heap.size w3 w6 := hb5.trans ((hd.below w5.heap.size).mono hb5.size)
  (((first | refine WD.free 0 rfl (by kernel_rfl) rfl rfl (fun _ _ _ _ _ h => h) rfl rfl (.inr hS) ?_ | refine WD.skip 0 rfl (by kernel_rfl) rfl rfl (fun _ _ _ _ _ h => h) rfl (.inr hS) ?_); try (first | ((with_reducible refine WD.topT ?_ ?_); omega) | ((with_reducible refine WD.topF ?_ ?_); omega) | ((with_reducible refine WD.top64 ?_ ?_); omega))); ((first | refine WD.free 1 rfl (by kernel_rfl) rfl rfl (fun _ _ _ _ _ h => h) rfl rfl (.inr hS) ?_ | refine WD.skip 1 rfl (by kernel_rfl) rfl rfl (fun _ _ _ _ _ h => h) rfl (.inr hS) ?_); try (first | ((with_reducible refine WD.topT ?_ ?_); omega) | ((with_reducible refine WD.topF ?_ ?_); omega) | ((with_reducible refine WD.top64 ?_ ?_); omega))); ((first | refine WD.free 2 rfl (by kernel_rfl) rfl rfl (fun _ _ _ _ _ h => h) rfl rfl (.inr hS) ?_ | refine WD.skip 2 rfl (by kernel_rfl) rfl rfl (fun _ _ _ _ _ h => h) rfl (.inr hS) ?_); try (first | ((with_reducible refine WD.topT ?_ ?_); omega) | ((with_reducible refine WD.topF ?_ ?_); omega) | ((with_reducible refine WD.top64 ?_ ?_); omega))); ((first | refine WD.free 3 rfl (by kernel_rfl) rfl rfl (fun _ _ _ _ _ h => h) rfl rfl (.inr hS) ?_ | refine WD.skip 3 rfl (by kernel_rfl) rfl rfl (fun _ _ _ _ _ h => h) rfl (.inr hS) ?_); try (first | ((with_reducible refine WD.topT ?_ ?_); omega) | ((with_reducible refine WD.topF ?_ ?_); omega) | ((with_reducible refine WD.top64 ?_ ?_); omega))); ((first | refine WD.free 4 rfl (by kernel_rfl) rfl rfl (fun _ _ _ _ _ h => h) rfl rfl (.inr hS) ?_ | refine WD.skip 4 rfl (by kernel_rfl) rfl rfl (fun _ _ _ _ _ h => h) rfl (.inr hS) ?_); try (first | ((with_reducible refine WD.topT ?_ ?_); omega) | ((with_reducible refine WD.topF ?_ ?_); omega) | ((with_reducible refine WD.top64 ?_ ?_); omega))); ((first | refine WD.free 5 rfl (by kernel_rfl) rfl rfl (fun _ _ _ _ _ h => h) rfl rfl (.inr hS) ?_ | refine WD.skip 5 rfl (by kernel_rfl) rfl rfl (fun _ _ _ _ _ h => h) rfl (.inr hS) ?_); try (first | ((with_reducible refine WD.topT ?_ ?_); omega) | ((with_reducible refine WD.topF ?_ ?_); omega) | ((with_reducible refine WD.top64 ?_ ?_); omega))); ((first | refine WD.free 6 rfl (by kernel_rfl) rfl rfl (fun _ _ _ _ _ h => h) rfl rfl (.inr hS) ?_ | refine WD.skip 6 rfl (by kernel_rfl) rfl rfl (fun _ _ _ _ _ h => h) rfl (.inr hS) ?_); try (first | ((with_reducible refine WD.topT ?_ ?_); omega) | ((with_reducible refine WD.topF ?_ ?_); omega) | ((with_reducible refine WD.top64 ?_ ?_); omega))))
  refine WD.loadMid 7 [9, 10, 11, 12, 13, 14, 15, 16] rfl (by kernel_rfl) rfl rfl (fun _ _ _ _ _ h => h) rfl rfl rfl rfl (fun wx hx => VBlk.rangeAt hx) hl3 hS ?_
  refine WD.one 8 (by kernel_rfl) rfl ?_
  refine WL.on rfl rfl ?_
  refine WL.call rfl rfl rfl rfl rfl Tryz.func46 rfl (by kernel_rfl) small_any ?_
  rintro _ w7 ⟨hb7, c7, rfl, h7⟩
  refine ⟨_, rfl, ?_⟩
  have hb7' : Below w3.heap.size w3 w7 := hb6.trans (hb7.mono hb6.size)
  refine WL.nil (WQ.dk (.inr (hS.below hb7 hS.lt)) ?_)
  refine WD.one 9 (by kernel_rfl) rfl ?_
  refine WL.on rfl rfl ?_
  refine WL.call rfl rfl rfl rfl rfl Tryz.func15 rfl (by kernel_rfl) (blocks_any (IsB.below hb7' (isB_of h3)) (isB_of h7)) ?_
  rintro _ w8 ⟨⟨bb, rfl, hbb⟩, hb8⟩
  refine ⟨_, rfl, ?_⟩
  obtain rfl : bb = true := hbb.2 rfl
  have hb8' : Below w3.heap.size w3 w8 := hb7'.trans (hb8.mono hb7'.size)
  refine WL.nil (WQ.dk (.inl rfl) ?_)
  (((first | refine WD.free 10 rfl (by kernel_rfl) rfl rfl (fun _ _ _ _ _ h => h) rfl rfl (.inl rfl) ?_ | refine WD.skip 10 rfl (by kernel_rfl) rfl rfl (fun _ _ _ _ _ h => h) rfl (.inl rfl) ?_); try (first | ((with_reducible refine WD.topT ?_ ?_); omega) | ((with_reducible refine WD.topF ?_ ?_); omega) | ((with_reducible refine WD.top64 ?_ ?_); omega))); ((first | refine WD.free 11 rfl (by kernel_rfl) rfl rfl (fun _ _ _ _ _ h => h) rfl rfl (.inl rfl) ?_ | refine WD.skip 11 rfl (by kernel_rfl) rfl rfl (fun _ _ _ _ _ h => h) rfl (.inl rfl) ?_); try (first | ((with_reducible refine WD.topT ?_ ?_); omega) | ((with_reducible refine WD.topF ?_ ?_); omega) | ((with_reducible refine WD.top64 ?_ ?_); omega))))
  refine WD.one 12 (by kernel_rfl) rfl ?_
  refine WL.on rfl rfl ?_
  refine WL.build (bkC noB (.slice none 0 0)) rfl rfl rfl rfl rfl (by kernel_rfl) ?_
  refine WL.nil (WQ.dk (.inl rfl) ?_)
  refine WD.one 13 (by kernel_rfl) rfl ?_
  refine WL.on rfl rfl ?_
  have hB0 : IsB 17 w8 noB (bkC noB (.slice none 0 0)) := ⟨_, rfl, Els.nil _ _ _ _ _, rfl, z32_byt, by show R64 0; omega, by show R64 0; omega, by show R64 0; omega⟩
  refine WL.call rfl rfl rfl rfl rfl Tryz.func9 rfl (by kernel_rfl) (check11_any hB0 (fun e he => by cases he)) ?_
  rintro _ w9 ⟨rfl, hb9⟩
  refine ⟨_, rfl, ?_⟩
  rw [chkB_noB]
  refine WL.nil (WQ.dk (.inl rfl) ?_)
  (((first | refine WD.free 14 rfl (by kernel_rfl) rfl rfl (fun _ _ _ _ _ h => h) rfl rfl (.inl rfl) ?_ | refine WD.skip 14 rfl (by kernel_rfl) rfl rfl (fun _ _ _ _ _ h => h) rfl (.inl rfl) ?_); try (first | ((with_reducible refine WD.topT ?_ ?_); omega) | ((with_reducible refine WD.topF ?_ ?_); omega) | ((with_reducible refine WD.top64 ?_ ?_); omega))); ((first | refine WD.free 15 rfl (by kernel_rfl) rfl rfl (fun _ _ _ _ _ h => h) rfl rfl (.inl rfl) ?_ | refine WD.skip 15 rfl (by kernel_rfl) rfl rfl (fun _ _ _ _ _ h => h) rfl (.inl rfl) ?_); try (first | ((with_reducible refine WD.topT ?_ ?_); omega) | ((with_reducible refine WD.topF ?_ ?_); omega) | ((with_reducible refine WD.top64 ?_ ?_); omega))))
  refine WD.one 16 (by kernel_rfl) rfl ?_
  refine WL.pure rfl rfl rfl rfl ?_
  refine WL.nil (WQ.dk (.inl rfl) ?_)
  refine WD.done (by kernel_rfl) ?_
  refine kgo ?_
  exact WQ.ret1 rfl rfl ⟨rfl, hw3.trans ((hb8'.trans (hb9.mono hb8'.size)).mono hw3.size)⟩
end K
end Go.Proofs.YtlamdhekjlnccaaGreatDoor

/- The document's Uvarint (chapter 1). -/
namespace Go.Proofs.YtlamdhekjlnccaaGreatDoor
open Go.RowKit
namespace K

theorem ruvarint_any (u : Nat) (hu : u < 18446744073709551616) (w : World) :
    Calls Tryz.prog 55 #[.int .u64 u] w fun e w' => ∃ b, e = .returned b ∧ Bu w' b (uvB u) ∧ Below w.heap.size w w' ∧ ∀ g, b.ownBlock = some g → w.heap.size ≤ g := by
  refine enter (args := [.int .u64 u]) Tryz.func55 rfl Tryz.ntmps55 rfl ?_
  have h1 : u < 2 * 128 ^ 9 := by omega
  have h2 : uvB u = [] ++ uvF (9 + 1) u := by rw [List.nil_append]; rfl
  refine kgo ?_
  refine WC.loop (fun i : Nat × Nat × List Int × Value => [(0, .int .u64 i.2.1), (3, i.2.2.2)])
    (fun i w' => i.2.1 < 2 * 128 ^ i.1 ∧ i.1 ≤ 9 ∧ uvB u = i.2.2.1 ++ uvF (i.1 + 1) i.2.1 ∧ i.2.2.1.length ≤ 9 ∧ Bu w' i.2.2.2 i.2.2.1 ∧ Grow w (.slice none 0 0) w' i.2.2.2) (fun i => i.1) (9, u, [], .slice none 0 0) ⟨rfl, rfl, trivial⟩ ⟨h1, Nat.le_refl 9, h2, Nat.zero_le 9, Bu.nil w, Grow.refl _ _⟩ ?_
  rintro ⟨f, c, A, v⟩ wr ⟨hc, hf, hA, hl, hb, hg⟩
  simp only at hc hf hA hl hb hg ⊢
  have hle : (128 : Nat) ^ f ≤ 128 ^ 9 := Nat.pow_le_pow_right (by decide) hf
  by_cases h : c < 128
  · have hw : IntKind.u8.wrap (c : Int) = (c : Int) := by rw [IntKind.wrap_u8]; omega
    have hfin : uvF (f + 1) c = [(c : Int)] := by rw [uvF, if_pos h]
    refine kgo ?_
    refine WL.push rfl rfl rfl rfl rfl rfl rfl rfl rfl rfl rfl (fun _ => rfl) rfl hb (by simp only [List.length_cons, List.length_nil]; omega) fun b2 w2 hb2 hg2 => ?_
    refine kgo ?_
    have hg3 := hg.trans hg2
    refine WQ.ret1 rfl rfl ⟨b2, rfl, ?_, hg3.old (Nat.le_refl _) (fun g h => by cases h), hg3.own (Nat.le_refl _) (fun g h => by cases h)⟩
    rw [hw] at hb2
    rw [hA, hfin]
    exact hb2
  · obtain ⟨f, rfl⟩ : ∃ f', f = f' + 1 := ⟨f - 1, by
      cases f with
      | zero => simp at hc; omega
      | succ f => rfl⟩
    have hbig : uvF (f + 1 + 1) c = ((c % 128 + 128 : Nat) : Int) :: uvF (f + 1) (c / 128) := uvF_big (by omega)
    have hw : bits .or .u8 (IntKind.u8.wrap (bits .and .u64 (c : Int) 127)) 128 = ((c % 128 + 128 : Nat) : Int) := by
      have := or128 (c % 128) (by omega)
      rw [and127 c (by omega), show IntKind.u8.wrap ((c % 128 : Nat) : Int) = ((c % 128 : Nat) : Int) by rw [IntKind.wrap_u8]; omega, this]; omega
    refine kgo ?_
    refine WL.push rfl rfl rfl rfl rfl rfl rfl rfl rfl rfl rfl (fun _ => rfl) rfl hb (by simp only [List.length_cons, List.length_nil]; omega) fun b2 w2 hb2 hg2 => ?_
    rw [hw] at hb2
    refine kgo ?_
    refine WQ.again (f, c / 128, A ++ [((c % 128 + 128 : Nat) : Int)], b2) ⟨congrArg (fun z => some (Value.int .u64 z)) (shr7 c), rfl, trivial⟩
      ⟨by rw [Nat.pow_succ] at hc; show c / 128 < 2 * 128 ^ f; omega, by show f ≤ 9; omega, by show uvB u = A ++ [((c % 128 + 128 : Nat) : Int)] ++ uvF (f + 1) (c / 128); rw [hA, hbig]; simp, ?_, hb2, hg.trans hg2⟩ (by show f < f + 1; omega)
    show (A ++ [((c % 128 + 128 : Nat) : Int)]).length ≤ 9
    have := congrArg List.length hA
    rw [List.length_append, hbig, List.length_cons] at this
    have h10 : (uvB u).length ≤ 10 := uvF_len 10 u
    have h1 : 1 ≤ (uvF (f + 1) (c / 128)).length := by unfold uvF; split <;> simp
    rw [List.length_append]; simp only [List.length_cons, List.length_nil]; omega
end K
end Go.Proofs.YtlamdhekjlnccaaGreatDoor

/- The document's blocks (chapter 11): u, Bytes. -/
namespace Go.Proofs.YtlamdhekjlnccaaGreatDoor
open Go.RowKit
namespace K
theorem ru_any (u : Nat) (hu : u < 18446744073709551616) (w : World) :
    Calls Tryz.prog 68 #[.int .u64 u] w fun e w' => ∃ b, e = .returned b ∧ Bu w' b (uvB u) ∧ Below w.heap.size w w' ∧ ∀ g, b.ownBlock = some g → w.heap.size ≤ g := by
  refine enter (args := [.int .u64 u]) Tryz.func68 rfl Tryz.ntmps68 rfl ?_
  refine kgo ?_
  refine WL.call rfl rfl rfl rfl rfl Tryz.func55 rfl (by kernel_rfl) (ruvarint_any u hu w) ?_
  rintro _ w2 ⟨b, rfl, h1, h2, h3⟩
  refine ⟨_, rfl, ?_⟩
  refine kgo ?_
  exact WQ.ret1 rfl rfl ⟨b, rfl, h1, h2, h3⟩
theorem u64_in {x : Int} (h : 0 ≤ x) (h2 : x ≤ 9223372036854775807) : IntKind.u64.wrap x = ((x.toNat : Nat) : Int) := by rw [IntKind.wrap_u64]; omega
theorem u64_nat {x : Nat} (h2 : x ≤ 9223372036854775807) : IntKind.u64.wrap (x : Int) = ((x : Nat) : Int) := by rw [IntKind.wrap_u64]; omega
set_option maxHeartbeats 4000000 in
theorem rBytes_any {f : Nat} {w : World} {e : En} {cs : List Value} (h : IsE f w e cs) (hf : formE e) : Calls Tryz.prog 44 #[.agg cs.toArray] w (NewBu w (layE e)) := by
  obtain ⟨dc, rfl, hv, hdl, hone, hh, hby, -, -⟩ := h
  obtain ⟨hk, hta, hdo, hve, htx, hab, hae, -, -⟩ := formE_rng hf
  refine enter (args := [.agg (enC e dc).toArray]) Tryz.func44 rfl Tryz.ntmps44 rfl ?_
  refine kgo ?_
  refine WL.box rfl rfl rfl rfl rfl fun g wz hf1 => ?_
  have hf1' : Fresh w g wz 45 (enC e dc) := hf1
  clear hf1
  have A1 : EnAt 45 g wz e dc := ⟨hf1'.blk, hdl, hh⟩
  have hwz := hf1'.below
  clear hf1'
  have e8 : IntKind.u8.wrap e.kind = e.kind := by rw [IntKind.wrap_u8]; omega
  refine kgo ?_
  refine WL.load rfl rfl rfl rfl rfl rfl A1.kind ?_
  refine kgo ?_
  refine WL.lit rfl rfl rfl rfl rfl rfl rfl fun b0 w0 hb0 hk0 ho0 => ?_
  rw [e8] at hb0
  have a0 : Apart wz w0 b0 := ⟨hk0, ho0⟩
  have n0 : [e.kind].length ≤ 1 := Nat.le_refl _
  refine kgo ?_
  refine WL.load rfl rfl rfl rfl rfl rfl (A1.below a0.below).table ?_
  refine kgo ?_
  refine WL.call rfl rfl rfl rfl rfl Tryz.func68 rfl (by kernel_rfl) (by rw [u64_in (x := e.table) (by omega) (by omega)]; exact ru_any e.table.toNat (by omega) w0) ?_
  rintro _ x1 ⟨v1, rfl, hv1, hk1, -⟩
  refine ⟨_, rfl, ?_⟩
  have l1 := uvB_len (e.table.toNat)
  refine WL.app rfl rfl rfl rfl rfl (hb0.below hk1) rfl hv1.sl (by omega) fun b1 w1 hb1 hg1 => ?_
  have a1 : Apart wz w1 b1 := a0.grow (((Grow.refl w0 b0).below hk1).trans hg1)
  have n1 : ([e.kind] ++ uvB e.table.toNat).length ≤ 11 := by rw [List.length_append]; omega
  refine kgo ?_
  refine WL.load rfl rfl rfl rfl rfl rfl (A1.below a1.below).doc ?_
  refine kgo ?_
  refine WL.call rfl rfl rfl rfl rfl Tryz.func68 rfl (by kernel_rfl) (by rw [u64_in (x := e.doc) (by omega) (by omega)]; exact ru_any e.doc.toNat (by omega) w1) ?_
  rintro _ x2 ⟨v2, rfl, hv2, hk2, -⟩
  refine ⟨_, rfl, ?_⟩
  have l2 := uvB_len (e.doc.toNat)
  refine WL.app rfl rfl rfl rfl rfl (hb1.below hk2) rfl hv2.sl (by omega) fun b2 w2 hb2 hg2 => ?_
  have a2 : Apart wz w2 b2 := a1.grow (((Grow.refl w1 b1).below hk2).trans hg2)
  have n2 : ([e.kind] ++ uvB e.table.toNat ++ uvB e.doc.toNat).length ≤ 21 := by rw [List.length_append]; omega
  refine kgo ?_
  refine WL.load rfl rfl rfl rfl rfl rfl (A1.below a2.below).ver ?_
  refine kgo ?_
  refine WL.call rfl rfl rfl rfl rfl Tryz.func68 rfl (by kernel_rfl) (by rw [u64_in (x := e.ver) (by omega) (by omega)]; exact ru_any e.ver.toNat (by omega) w2) ?_
  rintro _ x3 ⟨v3, rfl, hv3, hk3, -⟩
  refine ⟨_, rfl, ?_⟩
  have l3 := uvB_len (e.ver.toNat)
  refine WL.app rfl rfl rfl rfl rfl (hb2.below hk3) rfl hv3.sl (by omega) fun b3 w3 hb3 hg3 => ?_
  have a3 : Apart wz w3 b3 := a2.grow (((Grow.refl w2 b2).below hk3).trans hg3)
  have n3 : ([e.kind] ++ uvB e.table.toNat ++ uvB e.doc.toNat ++ uvB e.ver.toNat).length ≤ 31 := by rw [List.length_append]; omega
  refine kgo ?_
  refine WL.load rfl rfl rfl rfl rfl rfl (A1.below a3.below).text ?_
  refine kgo ?_
  refine WL.call rfl rfl rfl rfl rfl Tryz.func68 rfl (by kernel_rfl) (by rw [u64_nat (x := e.text.size) (by omega)]; exact ru_any e.text.size (by omega) w3) ?_
  rintro _ x4 ⟨v4, rfl, hv4, hk4, -⟩
  refine ⟨_, rfl, ?_⟩
  have l4 := uvB_len (e.text.size)
  refine WL.app rfl rfl rfl rfl rfl (hb3.below hk4) rfl hv4.sl (by omega) fun b4 w4 hb4 hg4 => ?_
  have a4 : Apart wz w4 b4 := a3.grow (((Grow.refl w3 b3).below hk4).trans hg4)
  have n4 : ([e.kind] ++ uvB e.table.toNat ++ uvB e.doc.toNat ++ uvB e.ver.toNat ++ uvB e.text.size).length ≤ 41 := by rw [List.length_append]; omega
  refine kgo ?_
  refine WL.load rfl rfl rfl rfl rfl rfl (A1.below a4.below).text ?_
  refine WL.appS rfl rfl rfl rfl rfl hb4 rfl (by omega) fun b5 w5 hb5 hg5 => ?_
  have a5 : Apart wz w5 b5 := a4.grow hg5
  have n5 : ([e.kind] ++ uvB e.table.toNat ++ uvB e.doc.toNat ++ uvB e.ver.toNat ++ uvB e.text.size ++ bytesI e.text).length ≤ 5000 := by rw [List.length_append, bytesI_len]; omega
  refine kgo ?_
  refine WL.load rfl rfl rfl rfl rfl rfl (A1.below a5.below).ab ?_
  refine kgo ?_
  refine WL.call rfl rfl rfl rfl rfl Tryz.func68 rfl (by kernel_rfl) (by rw [u64_in (x := e.ab) (by omega) (by omega)]; exact ru_any e.ab.toNat (by omega) w5) ?_
  rintro _ x6 ⟨v6, rfl, hv6, hk6, -⟩
  refine ⟨_, rfl, ?_⟩
  have l6 := uvB_len (e.ab.toNat)
  refine WL.app rfl rfl rfl rfl rfl (hb5.below hk6) rfl hv6.sl (by omega) fun b6 w6 hb6 hg6 => ?_
  have a6 : Apart wz w6 b6 := a5.grow (((Grow.refl w5 b5).below hk6).trans hg6)
  have n6 : ([e.kind] ++ uvB e.table.toNat ++ uvB e.doc.toNat ++ uvB e.ver.toNat ++ uvB e.text.size ++ bytesI e.text ++ uvB e.ab.toNat).length ≤ 5010 := by rw [List.length_append]; omega
  refine kgo ?_
  refine WL.load rfl rfl rfl rfl rfl rfl (A1.below a6.below).ae ?_
  refine kgo ?_
  refine WL.call rfl rfl rfl rfl rfl Tryz.func68 rfl (by kernel_rfl) (by rw [u64_in (x := e.ae) (by omega) (by omega)]; exact ru_any e.ae.toNat (by omega) w6) ?_
  rintro _ x7 ⟨v7, rfl, hv7, hk7, -⟩
  refine ⟨_, rfl, ?_⟩
  have l7 := uvB_len (e.ae.toNat)
  refine WL.app rfl rfl rfl rfl rfl (hb6.below hk7) rfl hv7.sl (by omega) fun b7 w7 hb7 hg7 => ?_
  have a7 : Apart wz w7 b7 := a6.grow (((Grow.refl w6 b6).below hk7).trans hg7)
  have n7 : ([e.kind] ++ uvB e.table.toNat ++ uvB e.doc.toNat ++ uvB e.ver.toNat ++ uvB e.text.size ++ bytesI e.text ++ uvB e.ab.toNat ++ uvB e.ae.toNat).length ≤ 5020 := by rw [List.length_append]; omega
  have hb7' : Bu w7 b7 (e.kind :: (uvB e.table.toNat ++ (uvB e.doc.toNat ++ (uvB e.ver.toNat ++ (uvB e.text.size ++ (byI e.text ++ (uvB e.ab.toNat ++ uvB e.ae.toNat))))))) := by simpa [List.append_assoc, bytesI, byI] using hb7
  have A7 := A1.below a7.below
  have own : ∀ {wx : World} {bx : Value}, Apart wz wx bx → Below w.heap.size w wx ∧ ∀ g, bx.ownBlock = some g → w.heap.size ≤ g := fun h => ⟨hwz.trans (h.below.mono hwz.size), fun g hg => Nat.le_trans hwz.size (h.own g hg)⟩
  refine kgo ?_
  refine WL.load rfl rfl rfl rfl rfl rfl A7.kind ?_
  by_cases k2 : e.kind = 2
  · refine kgo ?_
    refine WL.all rfl rfl rfl rfl rfl rfl ?_
    refine WL.app rfl rfl rfl rfl rfl hb7 rfl (hash_sl A7.hash hh A7.blk.lt) (by omega) fun b8 w8 hb8 hg8 => ?_
    refine kgo ?_
    refine WQ.ret1 rfl rfl ⟨b8, rfl, ?_, own (a7.grow hg8)⟩
    unfold layE
    rw [if_pos k2]
    simpa [List.append_assoc, bytesI, byI] using hb8
  · refine kgo ?_
    refine WQ.ret1 rfl rfl ⟨b7, rfl, ?_, own a7⟩
    unfold layE
    rw [if_neg k2, List.append_nil]
    exact hb7'
end K
end Go.Proofs.YtlamdhekjlnccaaGreatDoor

/- Blocks (chapter 11): what digests go on; the entries' digest. -/
namespace Go.Proofs.YtlamdhekjlnccaaGreatDoor
open Go.RowKit
namespace K
/-- The digest of one and of bytes. -/
def chainP (la l : List Int) : List Int := Dig.sumL (2 :: (la ++ l))
theorem chainP_len (la l : List Int) : (chainP la l).length = 32 := Dig.sumL_length _
theorem pchain_any {w : World} {la l : List Int} {v : Value} (ha : la.length = 32) (hv : Sl .u8 w v l) (hn : l.length ≤ 17592186044416) :
    Calls Tryz.prog 52 #[.agg (hashC la).toArray, v] w fun e w' => e = .returned (.agg (hashC (chainP la l)).toArray) ∧ Below w.heap.size w w' := by
  refine enter (args := [.agg (hashC la).toArray, v]) Tryz.func52 rfl Tryz.ntmps52 rfl ?_
  have hla : (hashC la).length = 32 := by rw [List.length_map]; exact ha
  refine kgo ?_
  refine WL.box rfl rfl rfl rfl rfl fun g w1 hf => ?_
  have hf' : Fresh w g w1 23 (hashC la) := hf
  clear hf
  refine WL.alloc (z := .agg (hashC Dig.Z32).toArray) rfl rfl rfl rfl (Dig.zero25) fun c w2 hf2 => ?_
  have hf2' : Fresh w1 c w2 23 (hashC Dig.Z32) := hf2
  clear hf2
  have he1 := hf'.eq
  have he2 := hf2'.eq
  have hz1 := hf'.size
  have hz2 := hf2'.size
  have hw2 : Below w.heap.size w w2 := hf'.below.trans (hf2'.below.mono hf'.below.size)
  have A2 := hf'.blk.below hf2'.below hf'.blk.lt
  have C2 := hf2'.blk
  clear hf' hf2'
  refine kgo ?_
  refine WL.lit rfl rfl rfl rfl rfl rfl rfl fun b3 w3 hb3 hk3 ho3 => ?_
  have a3 : Apart w2 w3 b3 := ⟨hk3, ho3⟩
  have A3 := A2.below hk3 A2.lt
  refine kgo ?_
  refine WL.all rfl rfl rfl rfl rfl rfl ?_
  refine WL.app rfl rfl rfl rfl rfl hb3 rfl (hash_sl (VBlk.rangeAt A3) ha A3.lt) (by simp only [List.length_cons, List.length_nil]; omega) fun b4 w4 hb4 hg4 => ?_
  have a4 := a3.grow hg4
  have n4 : ([2] ++ la).length = 33 := by rw [List.length_append]; simp only [List.length_cons, List.length_nil]; omega
  refine kgo ?_
  refine WL.app rfl rfl rfl rfl rfl hb4 rfl (hv.of_below (hw2.trans (a4.below.mono hw2.size))) (by omega) fun b5 w5 hb5 hg5 => ?_
  have a5 := a4.grow hg5
  refine WL.call rfl rfl rfl rfl rfl Tryz.func37 rfl (by kernel_rfl) (Dig.progSum_s b5 _ w5 hb5.sl (by rw [List.length_append]; omega)) ?_
  rintro _ w6 ⟨rfl, hk6⟩
  refine ⟨_, rfl, ?_⟩
  have hk26 : Below w2.heap.size w2 w6 := a5.below.trans (hk6.mono a5.below.size)
  have C6 := C2.below hk26 C2.lt
  have e1 : [2] ++ la ++ l = 2 :: (la ++ l) := by simp
  rw [e1]
  have hlen : (hashC (Dig.sumL (2 :: (la ++ l)))).length = 32 := by rw [List.length_map]; exact Dig.sumL_length _
  refine WL.storeRow rfl rfl rfl rfl rfl rfl C6 hlen (by rfl) (Ones.int _ _) ?_
  refine kgo ?_
  exact WQ.retC rfl rfl rfl hlen (C6.setRow _) ⟨rfl, Keep.below (Keep.setRow (Keep.of_below (hw2.trans (hk26.mono hw2.size))) (fun hk => by omega) _)⟩
theorem pentriesOf_any {w : World} {la : List Int} {n : Nat} (ha : la.length = 32) (hn : n ≤ 1000000) :
    Calls Tryz.prog 26 #[.agg (hashC la).toArray, .int .i64 n] w fun e w' => e = .returned (.agg (hashC (chainP la (uvB n))).toArray) ∧ Below w.heap.size w w' := by
  refine enter (args := [.agg (hashC la).toArray, .int .i64 n]) Tryz.func26 rfl Tryz.ntmps26 rfl ?_
  have hla : (hashC la).length = 32 := by rw [List.length_map]; exact ha
  have hun := uvB_len n
  refine kgo ?_
  refine WL.box rfl rfl rfl rfl rfl fun g w1 hf => ?_
  have hf' : Fresh w g w1 23 (hashC la) := hf
  clear hf
  refine WL.alloc (z := .agg (hashC Dig.Z32).toArray) rfl rfl rfl rfl (Dig.zero25) fun c w2 hf2 => ?_
  have hf2' : Fresh w1 c w2 23 (hashC Dig.Z32) := hf2
  clear hf2
  have he1 := hf'.eq
  have he2 := hf2'.eq
  have hz1 := hf'.size
  have hz2 := hf2'.size
  have hw2 : Below w.heap.size w w2 := hf'.below.trans (hf2'.below.mono hf'.below.size)
  have A2 := hf'.blk.below hf2'.below hf'.blk.lt
  have C2 := hf2'.blk
  clear hf' hf2'
  refine kgo ?_
  refine WC.drawn 5 (fun wx => VBlk 23 wx g (hashC la)) fun w3 hd3 => ?_
  have hk3 : Below w2.heap.size w2 w3 := hd3.below _
  have hS : VBlk 23 w3 g (hashC la) := A2.below hk3 A2.lt
  refine WD.loadMid 0 [5, 6] rfl (by kernel_rfl) rfl rfl (fun _ _ _ _ _ h => h) rfl rfl rfl rfl (fun wx hx => VBlk.rangeAt hx) hla hS ?_
  (((first | refine WD.free 1 rfl (by kernel_rfl) rfl rfl (fun _ _ _ _ _ h => h) rfl rfl (.inr hS) ?_ | refine WD.skip 1 rfl (by kernel_rfl) rfl rfl (fun _ _ _ _ _ h => h) rfl (.inr hS) ?_); try (first | ((with_reducible refine WD.topT ?_ ?_); omega) | ((with_reducible refine WD.topF ?_ ?_); omega) | ((with_reducible refine WD.top64 ?_ ?_); omega))); ((first | refine WD.free 2 rfl (by kernel_rfl) rfl rfl (fun _ _ _ _ _ h => h) rfl rfl (.inr hS) ?_ | refine WD.skip 2 rfl (by kernel_rfl) rfl rfl (fun _ _ _ _ _ h => h) rfl (.inr hS) ?_); try (first | ((with_reducible refine WD.topT ?_ ?_); omega) | ((with_reducible refine WD.topF ?_ ?_); omega) | ((with_reducible refine WD.top64 ?_ ?_); omega))); ((first | refine WD.free 3 rfl (by kernel_rfl) rfl rfl (fun _ _ _ _ _ h => h) rfl rfl (.inr hS) ?_ | refine WD.skip 3 rfl (by kernel_rfl) rfl rfl (fun _ _ _ _ _ h => h) rfl (.inr hS) ?_); try (first | ((with_reducible refine WD.topT ?_ ?_); omega) | ((with_reducible refine WD.topF ?_ ?_); omega) | ((with_reducible refine WD.top64 ?_ ?_); omega))))
  refine WD.one 4 (by kernel_rfl) rfl ?_
  refine WL.call rfl rfl rfl rfl rfl Tryz.func53 rfl (by kernel_rfl) (by rw [show (bif false then (if (0 : Int) > (n : Int) then (n : Int) else 0) else (if (n : Int) > 0 then (n : Int) else 0)) = (if (n : Int) > 0 then (n : Int) else 0) from rfl, max0 (n : Int) (by show R64 _; omega), Int.toNat_natCast]; exact uvarint_any n (by omega) w3) ?_
  rintro _ w4 ⟨b4, rfl, hb4, hk4, -⟩
  refine ⟨_, rfl, ?_⟩
  refine WL.nil (WQ.dk (.inr (hS.below hk4 hS.lt)) ?_)
  refine WD.one 5 (by kernel_rfl) rfl ?_
  refine WL.call rfl rfl rfl rfl rfl Tryz.func52 rfl (by kernel_rfl) (pchain_any ha hb4.sl (by omega)) ?_
  rintro _ w5 ⟨rfl, hk5⟩
  refine ⟨_, rfl, ?_⟩
  refine WL.nil (WQ.dk (.inl rfl) ?_)
  have hk25 : Below w2.heap.size w2 w5 := (hk3.trans (hk4.mono hk3.size)).trans (hk5.mono (Nat.le_trans hk3.size hk4.size))
  have C5 := C2.below hk25 C2.lt
  have hlen : (hashC (chainP la (uvB n))).length = 32 := by rw [List.length_map]; exact Dig.sumL_length _
  refine WD.one 6 (by kernel_rfl) rfl ?_
  refine WL.storeRow rfl rfl rfl rfl rfl rfl C5 hlen (by rfl) (Ones.int _ _) ?_
  refine WL.nil (WQ.dk (.inl rfl) ?_)
  refine WD.done (by kernel_rfl) ?_
  refine kgo ?_
  exact WQ.retC rfl rfl rfl hlen (C5.setRow _) ⟨rfl, Keep.below (Keep.setRow (Keep.of_below (hw2.trans (hk25.mono hw2.size))) (fun hk => by omega) _)⟩
theorem rchain_any {w : World} {la l : List Int} {v : Value} (ha : la.length = 32) (hv : Sl .u8 w v l) (hn : l.length ≤ 17592186044416) :
    Calls Tryz.prog 54 #[.agg (hashC la).toArray, v] w fun e w' => e = .returned (.agg (hashC (chainP la l)).toArray) ∧ Below w.heap.size w w' := by
  refine enter (args := [.agg (hashC la).toArray, v]) Tryz.func54 rfl Tryz.ntmps54 rfl ?_
  have hla : (hashC la).length = 32 := by rw [List.length_map]; exact ha
  refine kgo ?_
  refine WL.box rfl rfl rfl rfl rfl fun g w1 hf => ?_
  have hf' : Fresh w g w1 23 (hashC la) := hf
  clear hf
  refine WL.alloc (z := .agg (hashC Dig.Z32).toArray) rfl rfl rfl rfl (Dig.zero25) fun c w2 hf2 => ?_
  have hf2' : Fresh w1 c w2 23 (hashC Dig.Z32) := hf2
  clear hf2
  have he1 := hf'.eq
  have he2 := hf2'.eq
  have hz1 := hf'.size
  have hz2 := hf2'.size
  have hw2 : Below w.heap.size w w2 := hf'.below.trans (hf2'.below.mono hf'.below.size)
  have A2 := hf'.blk.below hf2'.below hf'.blk.lt
  have C2 := hf2'.blk
  clear hf' hf2'
  refine kgo ?_
  refine WL.lit rfl rfl rfl rfl rfl rfl rfl fun b3 w3 hb3 hk3 ho3 => ?_
  have a3 : Apart w2 w3 b3 := ⟨hk3, ho3⟩
  have A3 := A2.below hk3 A2.lt
  refine kgo ?_
  refine WL.all rfl rfl rfl rfl rfl rfl ?_
  refine WL.app rfl rfl rfl rfl rfl hb3 rfl (hash_sl (VBlk.rangeAt A3) ha A3.lt) (by simp only [List.length_cons, List.length_nil]; omega) fun b4 w4 hb4 hg4 => ?_
  have a4 := a3.grow hg4
  have n4 : ([2] ++ la).length = 33 := by rw [List.length_append]; simp only [List.length_cons, List.length_nil]; omega
  refine kgo ?_
  refine WL.app rfl rfl rfl rfl rfl hb4 rfl (hv.of_below (hw2.trans (a4.below.mono hw2.size))) (by omega) fun b5 w5 hb5 hg5 => ?_
  have a5 := a4.grow hg5
  refine WL.call rfl rfl rfl rfl rfl Tryz.func39 rfl (by kernel_rfl) (Dig.refSum_s b5 _ w5 hb5.sl (by rw [List.length_append]; omega)) ?_
  rintro _ w6 ⟨rfl, hk6⟩
  refine ⟨_, rfl, ?_⟩
  have hk26 : Below w2.heap.size w2 w6 := a5.below.trans (hk6.mono a5.below.size)
  have C6 := C2.below hk26 C2.lt
  have e1 : [2] ++ la ++ l = 2 :: (la ++ l) := by simp
  rw [e1]
  have hlen : (hashC (Dig.sumL (2 :: (la ++ l)))).length = 32 := by rw [List.length_map]; exact Dig.sumL_length _
  refine WL.storeRow rfl rfl rfl rfl rfl rfl C6 hlen (by rfl) (Ones.int _ _) ?_
  refine kgo ?_
  exact WQ.retC rfl rfl rfl hlen (C6.setRow _) ⟨rfl, Keep.below (Keep.setRow (Keep.of_below (hw2.trans (hk26.mono hw2.size))) (fun hk => by omega) _)⟩
theorem rentriesOf_any {w : World} {la : List Int} {n : Nat} (ha : la.length = 32) (hn : n ≤ 1000000) :
    Calls Tryz.prog 28 #[.agg (hashC la).toArray, .int .i64 n] w fun e w' => e = .returned (.agg (hashC (chainP la (uvB n))).toArray) ∧ Below w.heap.size w w' := by
  refine enter (args := [.agg (hashC la).toArray, .int .i64 n]) Tryz.func28 rfl Tryz.ntmps28 rfl ?_
  have hla : (hashC la).length = 32 := by rw [List.length_map]; exact ha
  have hun := uvB_len n
  refine kgo ?_
  refine WL.box rfl rfl rfl rfl rfl fun g w1 hf => ?_
  have hf' : Fresh w g w1 23 (hashC la) := hf
  clear hf
  refine WL.alloc (z := .agg (hashC Dig.Z32).toArray) rfl rfl rfl rfl (Dig.zero25) fun c w2 hf2 => ?_
  have hf2' : Fresh w1 c w2 23 (hashC Dig.Z32) := hf2
  clear hf2
  have he1 := hf'.eq
  have he2 := hf2'.eq
  have hz1 := hf'.size
  have hz2 := hf2'.size
  have hw2 : Below w.heap.size w w2 := hf'.below.trans (hf2'.below.mono hf'.below.size)
  have A2 := hf'.blk.below hf2'.below hf'.blk.lt
  have C2 := hf2'.blk
  clear hf' hf2'
  refine kgo ?_
  refine WC.drawn 4 (fun wx => VBlk 23 wx g (hashC la)) fun w3 hd3 => ?_
  have hk3 : Below w2.heap.size w2 w3 := hd3.below _
  have hS : VBlk 23 w3 g (hashC la) := A2.below hk3 A2.lt
  refine WD.loadMid 0 [4, 5] rfl (by kernel_rfl) rfl rfl (fun _ _ _ _ _ h => h) rfl rfl rfl rfl (fun wx hx => VBlk.rangeAt hx) hla hS ?_
  (((first | refine WD.free 1 rfl (by kernel_rfl) rfl rfl (fun _ _ _ _ _ h => h) rfl rfl (.inr hS) ?_ | refine WD.skip 1 rfl (by kernel_rfl) rfl rfl (fun _ _ _ _ _ h => h) rfl (.inr hS) ?_); try (first | ((with_reducible refine WD.topT ?_ ?_); omega) | ((with_reducible refine WD.topF ?_ ?_); omega) | ((with_reducible refine WD.top64 ?_ ?_); omega))); ((first | refine WD.free 2 rfl (by kernel_rfl) rfl rfl (fun _ _ _ _ _ h => h) rfl rfl (.inr hS) ?_ | refine WD.skip 2 rfl (by kernel_rfl) rfl rfl (fun _ _ _ _ _ h => h) rfl (.inr hS) ?_); try (first | ((with_reducible refine WD.topT ?_ ?_); omega) | ((with_reducible refine WD.topF ?_ ?_); omega) | ((with_reducible refine WD.top64 ?_ ?_); omega))))
  refine WD.one 3 (by kernel_rfl) rfl ?_
  refine WL.call rfl rfl rfl rfl rfl Tryz.func55 rfl (by kernel_rfl) (by rw [u64_nat (x := n) (by omega)]; exact ruvarint_any n (by omega) w3) ?_
  rintro _ w4 ⟨b4, rfl, hb4, hk4, -⟩
  refine ⟨_, rfl, ?_⟩
  refine WL.nil (WQ.dk (.inr (hS.below hk4 hS.lt)) ?_)
  refine WD.one 4 (by kernel_rfl) rfl ?_
  refine WL.call rfl rfl rfl rfl rfl Tryz.func54 rfl (by kernel_rfl) (rchain_any ha hb4.sl (by omega)) ?_
  rintro _ w5 ⟨rfl, hk5⟩
  refine ⟨_, rfl, ?_⟩
  refine WL.nil (WQ.dk (.inl rfl) ?_)
  have hk25 : Below w2.heap.size w2 w5 := (hk3.trans (hk4.mono hk3.size)).trans (hk5.mono (Nat.le_trans hk3.size hk4.size))
  have C5 := C2.below hk25 C2.lt
  have hlen : (hashC (chainP la (uvB n))).length = 32 := by rw [List.length_map]; exact Dig.sumL_length _
  refine WD.one 5 (by kernel_rfl) rfl ?_
  refine WL.storeRow rfl rfl rfl rfl rfl rfl C5 hlen (by rfl) (Ones.int _ _) ?_
  refine WL.nil (WQ.dk (.inl rfl) ?_)
  refine WD.done (by kernel_rfl) ?_
  refine kgo ?_
  exact WQ.retC rfl rfl rfl hlen (C5.setRow _) ⟨rfl, Keep.below (Keep.setRow (Keep.of_below (hw2.trans (hk25.mono hw2.size))) (fun hk => by omega) _)⟩
end K
end Go.Proofs.YtlamdhekjlnccaaGreatDoor

/- Maps that a program has made, seen as functions from keys to elements. -/
namespace Go.Proofs.YtlamdhekjlnccaaGreatDoor
open Go.RowKit Go.Maps

/-- An element reads as itself. -/
def heldR (v : Value) : Option (DataW Value × List MemPlace) := some (.held v, [])
/-- What an element reads as where there may be none. -/
def orD (x : Option Value) (z : DataW Value) : DataW Value := match x with | some v => .held v | none => z

/-- Block b of w is a map of at most n entries: at the key mk x it holds what F x says. -/
def MF {κ : Type} (P : Program) (k : TypeId) (mk : κ → Value) (w : World) (b n : Nat) (F : κ → Option Value) : Prop :=
  ∃ D, w.ownsMap P k heldR b n D ∧ ∀ x kl, keyOf P k (mk x) = some kl → ∀ z, D.atKey kl z = orD (F x) z

/-- F, but d at one key. -/
def mfPut {κ : Type} [DecidableEq κ] (F : κ → Option Value) (key : κ) (d : Value) : κ → Option Value := fun x => if x = key then some d else F x
/-- F without one key. -/
def mfDel {κ : Type} [DecidableEq κ] (F : κ → Option Value) (key : κ) : κ → Option Value := fun x => if x = key then none else F x
theorem mfPut_same {κ : Type} [DecidableEq κ] (F : κ → Option Value) (key : κ) (d : Value) : mfPut F key d key = some d := by simp [mfPut]
theorem mfPut_other {κ : Type} [DecidableEq κ] (F : κ → Option Value) {key x : κ} (d : Value) (h : x ≠ key) : mfPut F key d x = F x := by simp [mfPut, h]
theorem mfDel_same {κ : Type} [DecidableEq κ] (F : κ → Option Value) (key : κ) : mfDel F key key = none := by simp [mfDel]
theorem mfDel_other {κ : Type} [DecidableEq κ] (F : κ → Option Value) {key x : κ} (h : x ≠ key) : mfDel F key x = F x := by simp [mfDel, h]

section
variable {κ : Type} {P : Program} {k : TypeId} {mk : κ → Value} {w : World} {b n : Nat} {F : κ → Option Value}

theorem MF.lt (h : MF P k mk w b n F) : b < w.heap.size := by obtain ⟨D, h, _⟩ := h; exact h.lt
theorem MF.made (P : Program) (k : TypeId) (mk : κ → Value) (w : World) : MF P k mk (w.alloc (.map #[] 0)) w.heap.size 0 (fun _ => none) :=
  ⟨_, World.ownsMap_made w P k heldR, fun _ _ _ _ => rfl⟩
theorem MF.mono (h : MF P k mk w b n F) {n' : Nat} (hn : n ≤ n') : MF P k mk w b n' F := by obtain ⟨D, h, hF⟩ := h; exact ⟨D, h.mono hn, hF⟩
theorem MF.of_block {w' : World} (h : MF P k mk w b n F) (hb : w'.heap[b]? = w.heap[b]?) : MF P k mk w' b n F := by
  obtain ⟨D, ⟨es, clock, h1, h2⟩, hF⟩ := h
  exact ⟨D, ⟨es, clock, hb.trans h1, h2⟩, hF⟩
theorem MF.keep {K : Nat → Prop} {w' : World} (h : MF P k mk w b n F) (hk : Keep K w w') (hb : K b) : MF P k mk w' b n F := h.of_block (hk.block b hb)
theorem MF.below {B : Nat} {w' : World} (h : MF P k mk w b n F) (hk : Below B w w') (hb : b < B) : MF P k mk w' b n F := h.of_block (hk.block b hb)
theorem MF.alloc (h : MF P k mk w b n F) (o : Obj) : MF P k mk (w.alloc o) b n F := h.of_block (Below.heap_alloc w o b h.lt)
theorem MF.other (h : MF P k mk w b n F) (a : Addr) (v : Value) (hb : b ≠ a.block) : MF P k mk (w.setCell a v) b n F := h.of_block (Below.heap_setCell w a v b hb)
theorem MF.setRow_other (h : MF P k mk w b n F) {g : Nat} (cs : Array Value) (hb : b ≠ g) : MF P k mk (w.setRow g cs) b n F := h.of_block (Go.setRow_other w g b cs hb)
theorem MF.drewN (h : MF P k mk w b n F) (m : Nat) : MF P k mk (w.drewN m) b n F := h
theorem MF.congr (h : MF P k mk w b n F) {F' : κ → Option Value} (hF : ∀ x, F' x = F x) : MF P k mk w b n F' := by
  obtain ⟨D, h, h'⟩ := h
  exact ⟨D, h, fun key kl hk z => by rw [hF key]; exact h' key kl hk z⟩

/-- What a read of the map gives. -/
theorem MF.look {t e : TypeId} (h : MF P k mk w b n F) (K : Keyed P k) (ht : P.underlying t = some (.map k e)) {z : Value} (hz : (zeroValue e).run P w = .ok z w)
    {key : κ} {kl : Lit} (hkey : keyOf P k (mk key) = some kl) : (Instr.lookup t (.map (some b)) (mk key) false).run P w = .ok ((F key).getD z) w := by
  obtain ⟨D, h, hF⟩ := h
  obtain ⟨v, ps, h1, h2⟩ := h.lookup K ht hz (zd := .held z) (zp := []) rfl hkey
  rw [hF key kl hkey] at h2
  rw [h1]
  cases hx : F key with
  | none => rw [hx] at h2; simp [orD, heldR] at h2; simp [h2.1]
  | some y => rw [hx] at h2; simp [orD, heldR] at h2; simp [h2.1]

/-- What a read with 'ok' gives. -/
theorem MF.look2 {t e : TypeId} (h : MF P k mk w b n F) (K : Keyed P k) (ht : P.underlying t = some (.map k e)) {z : Value} (hz : (zeroValue e).run P w = .ok z w)
    {key : κ} {kl : Lit} (hkey : keyOf P k (mk key) = some kl) : (Instr.lookup t (.map (some b)) (mk key) true).run P w = .ok (.tuple #[(F key).getD z, .bool (F key).isSome]) w := by
  obtain ⟨D, h, hF⟩ := h
  obtain ⟨v, ps, h1, h2⟩ := h.look_ok K ht hz (zd := .held z) (zp := []) rfl hkey
  have h3 := hF key kl hkey
  rw [h3] at h2
  rw [h1]
  cases hx : F key with
  | none =>
    rw [hx] at h2 h3; simp [orD, heldR] at h2
    rw [Maps.has_false_of_atKey (fun z => h3 z)]; simp [h2.1]
  | some y =>
    rw [hx] at h2 h3; simp [orD, heldR] at h2
    rw [Maps.has_true_of_atKey (fun z => h3 z)]; simp [h2.1]

theorem turned_keep {w w' : World} {b : Nat} (h : w.mapTurned w' b) : Keep (fun x => x ≠ b) w w' := by
  have g := h.grown
  refine ⟨g.os, g.tape, g.output, g.size, fun i hi => ?_⟩
  obtain ⟨es, clock, es', clock', hb, rfl⟩ := h
  exact ChangeMaps.heap_setBlock_other hb _ hi

/-- The map behind a store. -/
theorem MF.put [DecidableEq κ] {t e : TypeId} (hmk : ∀ x y, mk x = mk y → x = y) (h : MF P k mk w b n F) (K : Keyed P k) (ht : P.underlying t = some (.map k e)) (hn : n < maxLen) {key : κ} (val : Value) {kl : Lit}
    (hkey : keyOf P k (mk key) = some kl) : ∃ w', (Instr.mapUpdate t (.map (some b)) (mk key) val).run P w = .ok () w' ∧ MF P k mk w' b (n + 1) (mfPut F key val) ∧ Keep (fun x => x ≠ b) w w' := by
  obtain ⟨D, h, hF⟩ := h
  obtain ⟨w', h1, h2, h3⟩ := h.store K ht hn hkey (val := val) (d := .held val) (ps := []) rfl
  refine ⟨w', h1, ⟨_, h2, fun key' kl' hk' z => ?_⟩, turned_keep h3⟩
  by_cases e : key' = key
  · subst e
    rw [hkey] at hk'; cases hk'
    rw [mfPut_same, atKey_put_same h.isMap (K.key hkey)]; rfl
  · rw [mfPut_other _ _ e, atKey_put_other (fun e' => e (hmk _ _ (K.inj hk' (by rw [hkey, e']))))]
    exact hF key' kl' hk' z

/-- The map behind a delete. -/
theorem MF.del [DecidableEq κ] {t e : TypeId} (hmk : ∀ x y, mk x = mk y → x = y) (h : MF P k mk w b n F) (K : Keyed P k) (ht : P.underlying t = some (.map k e)) {key : κ} {kl : Lit} (hkey : keyOf P k (mk key) = some kl) (ty : TypeId) :
    ∃ w', (Builtin.delete_ #[t, k] ty #[.map (some b), mk key]).run P w = .ok (.tuple #[]) w' ∧ MF P k mk w' b n (mfDel F key) ∧ Keep (fun x => x ≠ b) w w' := by
  obtain ⟨D, h, hF⟩ := h
  obtain ⟨w', h1, h2, h3⟩ := h.drop K ht hkey ty
  refine ⟨w', h1, ⟨_, h2, fun key' kl' hk' z => ?_⟩, turned_keep h3⟩
  by_cases e : key' = key
  · subst e
    rw [hkey] at hk'; cases hk'
    rw [mfDel_same, atKey_del_same]; rfl
  · rw [mfDel_other _ e, atKey_del_other (fun e' => e (hmk _ _ (K.inj hk' (by rw [hkey, e']))))]
    exact hF key' kl' hk' z

end
/-- A delete, as one step of a region that draws its order. -/
theorem step_del {P : Program} {ops : Array Oper} {o : Oper} {a : Act} {w w' : World} {K : Act → World → Prop} {Q : Exit → Act → World → Prop} {F : Prop} (hg : o.guard = none) (m x : Operand) (t k : TypeId)
    (hop : o.op = Op.call { callee := Callee.builtin Builtin.delete, args := #[m, x], argTypes := #[t, k] }) (mv xv : Value) (hm : a.eval m = mv) (hx : a.eval x = xv)
    (hrun : (Builtin.delete_ #[t, k] o.type #[mv, xv]).run P w = .ok (.tuple #[]) w') (h : K (a.put o.dst (.tuple #[])) w') : if Region.wanted o (yielded ops a.tmps) = true then Oper.wp P o a w K Q else F := by
  rw [if_pos (by simp [Region.wanted, hg])]
  unfold Oper.wp
  simp [execOp, hop, resolve, invoke, builtin, hm, hx, hrun, Result.andThen]
  exact h
/-- A store into a map, as one step. -/
theorem step_upd {P : Program} {ops : Array Oper} {o : Oper} {a : Act} {w w' : World} {K : Act → World → Prop} {Q : Exit → Act → World → Prop} {F : Prop} (hg : o.guard = none) (m x v : Operand) (t : TypeId)
    (hop : o.op = Op.mapUpdate t m x v) (mv xv vv : Value) (hm : a.eval m = mv) (hx : a.eval x = xv) (hv : a.eval v = vv)
    (hrun : (Instr.mapUpdate t mv xv vv).run P w = .ok () w') (h : K (a.put o.dst undef) w') : if Region.wanted o (yielded ops a.tmps) = true then Oper.wp P o a w K Q else F := by
  rw [if_pos (by simp [Region.wanted, hg])]
  unfold Oper.wp
  simp [execOp, hop, hm, hx, hv, hrun, Result.andThen]
  exact h

end Go.Proofs.YtlamdhekjlnccaaGreatDoor

/- Trees of digests, with no program in sight: halves, roots, what a tree's map holds. -/
namespace Go.Proofs.YtlamdhekjlnccaaGreatDoor
open Go.RowKit
namespace Mk

/-- A digest. -/
abbrev H := List Int

/-- The greatest power of two below n (n above 1). -/
def half (n : Nat) : Nat := 2 ^ Nat.log2 (n - 1)
theorem half_pos (n : Nat) : 0 < half n := Nat.pow_pos (by decide)
theorem half_lt {n : Nat} (h : 2 ≤ n) : half n < n := by
  have := Nat.log2_self_le (n := n - 1) (by omega)
  unfold half; omega
theorem half_ge {n : Nat} (h : 2 ≤ n) : n ≤ 2 * half n := by
  have := Nat.lt_log2_self (n := n - 1)
  unfold half
  rw [Nat.pow_succ] at this
  omega
theorem half_eq {n j : Nat} (h1 : 2 ^ j < n) (h2 : n ≤ 2 ^ (j + 1)) : half n = 2 ^ j := by
  have hp : 0 < 2 ^ j := Nat.pow_pos (by decide)
  have : Nat.log2 (n - 1) = j := (Nat.log2_eq_iff (by omega)).2 ⟨by omega, by omega⟩
  unfold half; rw [this]
theorem half_pow (j : Nat) : half (2 ^ (j + 1)) = 2 ^ j := by
  have hp : 0 < 2 ^ j := Nat.pow_pos (by decide)
  exact half_eq (by rw [Nat.pow_succ]; omega) (Nat.le_refl _)

/-- n digests from one on. -/
def seg (l : List H) (f n : Nat) : List H := (l.drop f).take n
theorem seg_len {l : List H} {f n : Nat} (h : f + n ≤ l.length) : (seg l f n).length = n := by
  unfold seg; rw [List.length_take, List.length_drop]; omega
theorem seg_all (l : List H) : seg l 0 l.length = l := by simp [seg]
theorem seg_left {l : List H} {f n : Nat} (h : f + n ≤ l.length) (r : List H) : seg (l ++ r) f n = seg l f n := by
  unfold seg
  rw [List.drop_append_of_le_length (by omega), List.take_append_of_le_length (by rw [List.length_drop]; omega)]
theorem seg_take {l : List H} {f n k : Nat} (h : k ≤ n) : (seg l f n).take k = seg l f k := by
  unfold seg; rw [List.take_take, Nat.min_eq_left h]
theorem seg_drop {l : List H} {f n k : Nat} : (seg l f n).drop k = seg l (f + k) (n - k) := by
  unfold seg; rw [List.drop_take, List.drop_drop]
theorem seg_take_of {l : List H} {f n m : Nat} (h : f + n ≤ m) : seg (l.take m) f n = seg l f n := by
  unfold seg; rw [List.drop_take, List.take_take, Nat.min_eq_left (by omega)]
theorem seg_one {l : List H} {f : Nat} (h : f < l.length) : seg l f 1 = [l.getD f []] := by
  unfold seg
  rw [List.drop_eq_getElem_cons h, List.take_succ_cons, List.take_zero]
  simp [h]

section
variable (node : H → H → H) (none : H)
/-- The root of leaves. -/
def root (l : List H) : H :=
  if _ : 2 ≤ l.length then node (root (l.take (half l.length))) (root (l.drop (half l.length))) else match l with | [] => none | a :: _ => a
termination_by l.length
decreasing_by
  · rename_i h; rw [List.length_take]; have := half_lt h; omega
  · rename_i h; rw [List.length_drop]; have := half_pos l.length; omega
end

section
variable {node : H → H → H} {none : H}
theorem root_nil : root node none [] = none := by rw [root]; simp
theorem root_one (a : H) : root node none [a] = a := by rw [root]; simp
theorem root_two {l : List H} (h : 2 ≤ l.length) : root node none l = node (root node none (l.take (half l.length))) (root node none (l.drop (half l.length))) := by rw [root, dif_pos h]
theorem root_seg {l : List H} {f n : Nat} (h : 2 ≤ n) (hl : f + n ≤ l.length) : root node none (seg l f n) = node (root node none (seg l f (half n))) (root node none (seg l (f + half n) (n - half n))) := by
  have e := seg_len hl
  rw [root_two (by omega), e, seg_take (by have := half_lt h; omega), seg_drop]
theorem root_seg1 {l : List H} {f : Nat} (h : f < l.length) : root node none (seg l f 1) = l.getD f [] := by rw [seg_one h, root_one]
theorem root_double {l : List H} {f j : Nat} (hl : f + 2 ^ (j + 1) ≤ l.length) : root node none (seg l f (2 ^ (j + 1))) = node (root node none (seg l f (2 ^ j))) (root node none (seg l (f + 2 ^ j) (2 ^ j))) := by
  have hp : 0 < 2 ^ j := Nat.pow_pos (by decide)
  have e : 2 ^ (j + 1) - 2 ^ j = 2 ^ j := by rw [Nat.pow_succ]; omega
  rw [root_seg (by rw [Nat.pow_succ]; omega) hl, half_pow, e]

/-- A digest's value. -/
def hv (h : H) : Value := .agg (h.map (Value.int .u8)).toArray
theorem hv_inj {a b : H} (h : hv a = hv b) : a = b := by
  unfold hv at h
  injection h with h
  have h2 : a.map (Value.int .u8) = b.map (Value.int .u8) := by simpa using h
  exact (List.map_inj_right (fun x y e => by injection e)).1 h2

variable (node none) in
/-- What the map of a tree of leaves holds: by level and place. -/
def wholeF (l : List H) (x : Int × Int) : Option Value :=
  if 0 ≤ x.1 ∧ 0 ≤ x.2 ∧ (x.2.toNat + 1) * 2 ^ x.1.toNat ≤ l.length then some (hv (root node none (seg l (x.2.toNat * 2 ^ x.1.toNat) (2 ^ x.1.toNat)))) else Option.none
theorem wholeF_nil (x : Int × Int) : wholeF node none [] x = Option.none := by
  unfold wholeF
  rw [if_neg]
  rintro ⟨-, -, h⟩
  have : 0 < (x.2.toNat + 1) * 2 ^ x.1.toNat := Nat.mul_pos (by omega) (Nat.pow_pos (by decide))
  simp at h; omega
theorem wholeF_at {l : List H} {j p : Nat} (h : (p + 1) * 2 ^ j ≤ l.length) : wholeF node none l ((j : Int), (p : Int)) = some (hv (root node none (seg l (p * 2 ^ j) (2 ^ j)))) := by
  unfold wholeF
  rw [if_pos ⟨by simp, by simp, by simpa using h⟩]
  simp
/-- One more leaf: what was whole is as it was. -/
theorem wholeF_old {l : List H} {h : H} {x : Int × Int} (hx : ¬ (0 ≤ x.1 ∧ 0 ≤ x.2 ∧ (x.2.toNat + 1) * 2 ^ x.1.toNat = l.length + 1)) : wholeF node none (l ++ [h]) x = wholeF node none l x := by
  unfold wholeF
  by_cases h1 : 0 ≤ x.1 ∧ 0 ≤ x.2 ∧ (x.2.toNat + 1) * 2 ^ x.1.toNat ≤ l.length
  · obtain ⟨a, b, c⟩ := h1
    have c2 : (x.2.toNat + 1) * 2 ^ x.1.toNat ≤ (l ++ [h]).length := by rw [List.length_append]; omega
    rw [if_pos (show 0 ≤ x.1 ∧ 0 ≤ x.2 ∧ (x.2.toNat + 1) * 2 ^ x.1.toNat ≤ l.length from ⟨a, b, c⟩), if_pos ⟨a, b, c2⟩]
    rw [seg_left]
    have : x.2.toNat * 2 ^ x.1.toNat + 2 ^ x.1.toNat = (x.2.toNat + 1) * 2 ^ x.1.toNat := by rw [Nat.add_mul, Nat.one_mul]
    omega
  · rw [if_neg h1, if_neg]
    rintro ⟨a, b, c⟩
    simp only [List.length_append, List.length_cons, List.length_nil] at c
    exact (by
      by_cases e : (x.2.toNat + 1) * 2 ^ x.1.toNat = l.length + 1
      · exact hx ⟨a, b, e⟩
      · exact h1 ⟨a, b, by omega⟩)

variable (node none) in
/-- The map while a leaf comes in: up to the level j it is as it will be. -/
def stepF (l : List H) (h : H) (j : Nat) (x : Int × Int) : Option Value := if x.1 ≤ j then wholeF node none (l ++ [h]) x else wholeF node none l x
theorem stepF_zero {l : List H} {h : H} (x : Int × Int) : mfPut (wholeF node none l) (((0 : Nat) : Int), (l.length : Int)) (hv h) x = stepF node none l h 0 x := by
  unfold stepF mfPut
  by_cases e : x = (((0 : Nat) : Int), (l.length : Int))
  · subst e
    rw [if_pos rfl, if_pos (by simp), wholeF_at (by simp)]
    have e1 : l.length * 2 ^ 0 = l.length := by simp
    have e2 : 2 ^ 0 = 1 := rfl
    rw [e1, e2, root_seg1 (by simp)]
    simp
  · rw [if_neg e]
    by_cases h0 : x.1 ≤ ((0 : Nat) : Int)
    · rw [if_pos h0, wholeF_old]
      rintro ⟨a, b, c⟩
      apply e
      have e0 : x.1 = 0 := by omega
      rw [e0] at c
      simp at c
      exact Prod.ext (by simpa using e0) (by show x.2 = _; omega)
    · rw [if_neg h0]
/-- The leaves' count is p places of the level j, and full: the next level's place is full too. -/
theorem stepF_succ {l : List H} {h : H} {j p : Nat} (hp : (2 * p + 1 + 1) * 2 ^ j = l.length + 1) (x : Int × Int) :
    mfPut (stepF node none l h j) (((j + 1 : Nat) : Int), (p : Int)) (hv (root node none (seg (l ++ [h]) (p * 2 ^ (j + 1)) (2 ^ (j + 1))))) x = stepF node none l h (j + 1) x := by
  have hp2 : (p + 1) * 2 ^ (j + 1) = l.length + 1 := by
    rw [← hp, Nat.pow_succ, Nat.mul_comm (2 ^ j) 2, ← Nat.mul_assoc]
    congr 1; omega
  show (if x = (((j + 1 : Nat) : Int), (p : Int)) then some (hv (root node none (seg (l ++ [h]) (p * 2 ^ (j + 1)) (2 ^ (j + 1))))) else stepF node none l h j x) = _
  unfold stepF
  by_cases e : x = (((j + 1 : Nat) : Int), (p : Int))
  · subst e
    rw [if_pos rfl, if_pos (by simp), wholeF_at (by simp; omega)]
  · rw [if_neg e]
    by_cases h0 : x.1 ≤ (j : Int)
    · rw [if_pos h0, if_pos (by omega)]
    · rw [if_neg h0]
      by_cases h1 : x.1 ≤ ((j + 1 : Nat) : Int)
      · rw [if_pos h1, wholeF_old]
        rintro ⟨a, b, c⟩
        apply e
        have e0 : x.1 = ((j + 1 : Nat) : Int) := by omega
        rw [e0] at c
        have e1 : ((j + 1 : Nat) : Int).toNat = j + 1 := by omega
        rw [e1, ← hp2] at c
        have := Nat.eq_of_mul_eq_mul_right (Nat.pow_pos (by decide) : 0 < 2 ^ (j + 1)) c
        exact Prod.ext e0 (by show x.2 = _; omega)
      · rw [if_neg h1]
/-- At an even place it is done. -/
theorem stepF_done {l : List H} {h : H} {j p : Nat} (hp : (2 * p + 1) * 2 ^ j = l.length + 1) (x : Int × Int) : stepF node none l h j x = wholeF node none (l ++ [h]) x := by
  unfold stepF
  by_cases h0 : x.1 ≤ (j : Int)
  · rw [if_pos h0]
  · rw [if_neg h0, wholeF_old]
    rintro ⟨a, b, c⟩
    obtain ⟨m, hm⟩ : ∃ m, x.1.toNat = j + 1 + m := ⟨x.1.toNat - (j + 1), by omega⟩
    rw [hm, ← hp] at c
    have e : 2 ^ (j + 1 + m) = 2 ^ j * (2 * 2 ^ m) := by
      rw [Nat.pow_add, Nat.pow_succ]; simp [Nat.mul_assoc]
    rw [e, Nat.mul_comm (2 * p + 1), Nat.mul_left_comm] at c
    have := Nat.eq_of_mul_eq_mul_left (Nat.pow_pos (by decide) : 0 < 2 ^ j) c
    have : (x.2.toNat + 1) * (2 * 2 ^ m) = 2 * ((x.2.toNat + 1) * 2 ^ m) := by rw [Nat.mul_left_comm]
    omega

/-- A place that a half may have. -/
def Al (f n : Nat) : Prop := ∃ e, n ≤ 2 ^ e ∧ 2 ^ e ∣ f
theorem al_zero (n : Nat) : Al 0 n := ⟨n, Nat.le_of_lt Nat.lt_two_pow_self, Nat.dvd_zero _⟩
theorem al_left {f n : Nat} (h : Al f n) (h2 : 2 ≤ n) : Al f (half n) := by
  obtain ⟨e, h1, hd⟩ := h
  exact ⟨e, Nat.le_trans (Nat.le_of_lt (half_lt h2)) h1, hd⟩
theorem al_right {f n : Nat} (h : Al f n) (h2 : 2 ≤ n) : Al (f + half n) (n - half n) := by
  obtain ⟨e, h1, hd⟩ := h
  have h3 : Nat.log2 (n - 1) < e := by
    have := Nat.log2_self_le (n := n - 1) (by omega)
    exact (Nat.pow_lt_pow_iff_right (a := 2) (by decide)).1 (by omega)
  refine ⟨Nat.log2 (n - 1), ?_, ?_⟩
  · have := half_ge h2
    show n - half n ≤ half n
    omega
  · refine Nat.dvd_add (Nat.dvd_trans (Nat.pow_dvd_pow 2 (Nat.le_of_lt h3)) hd) (Nat.dvd_refl _)
theorem al_pow {f j : Nat} (h : Al f (2 ^ j)) : 2 ^ j ∣ f := by
  obtain ⟨e, h1, hd⟩ := h
  exact Nat.dvd_trans (Nat.pow_dvd_pow 2 ((Nat.pow_le_pow_iff_right (by decide)).1 h1)) hd
end
end Mk
end Go.Proofs.YtlamdhekjlnccaaGreatDoor
