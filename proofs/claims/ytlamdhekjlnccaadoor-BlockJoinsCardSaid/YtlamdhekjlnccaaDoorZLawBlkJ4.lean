/-
  For every block and every digest the law BlockJoins answers true, and the arguments read as they did. The library's table lies as the program's text lays it: that is the card's tie; no other condition.
-/
import Derived.Test.YtlamdhekjlnccaaDoorZLawBlkJ3
import Derived.Maps.OwnSet
import Derived.DeepKeys5
import Derived.Shelf.Strconv.Itoa0
import Derived.Shelf.Spec.TrailingZeros
import Derived.Test.YtlamdhekjlnccaaDoorProg
import Derived.Lib.ItoaNum
import Derived.StillTailTactics
import Derived.IntWalk
import Derived.Deep.MidRow
import Derived.Great.BuildSlice
import Derived.Deep.Slices
import Derived.LaidMore
import Derived.Stop.Joined
import Derived.MakeChecks
import Derived.SizedLaws
import Derived.DataOpen
import Derived.ChangeMaps5
import Derived.Test.YtlamdhekjlnccaaDoorTie
import Derived.Test.YtlamdhekjlnccaaDoorCards
import Derived.SevenTiedAt
/- Blocks (chapter 11): what digests go on; the entries' digest. -/
namespace Go.Proofs.YtlamdhekjlnccaaDoor
open Go.RowKit
namespace K
/-- The digest of one and of bytes. -/
def chainP (la l : List Int) : List Int := Dig.sumL (2 :: (la ++ l))
theorem chainP_len (la l : List Int) : (chainP la l).length = 32 := Dig.sumL_length _
theorem pchain_any {w : World} {la l : List Int} {v : Value} (ha : la.length = 32) (hv : Sl .u8 w v l) (hn : l.length ≤ 17592186044416) :
    Calls Tryd.prog 45 #[.agg (hashC la).toArray, v] w fun e w' => e = .returned (.agg (hashC (chainP la l)).toArray) ∧ Below w.heap.size w w' := by
  refine enter (args := [.agg (hashC la).toArray, v]) Tryd.func45 rfl Tryd.ntmps45 rfl ?_
  have hla : (hashC la).length = 32 := by rw [List.length_map]; exact ha
  refine kgo ?_
  refine WL.box rfl rfl rfl rfl rfl fun g w1 hf => ?_
  have hf' : Fresh w g w1 23 (hashC la) := hf
  clear hf
  refine WL.alloc (z := .agg (hashC Dig.Z32).toArray) rfl rfl rfl rfl (Dig.zero25) fun c w2 hf2 => ?_
  have hf2' : Fresh w1 c w2 23 (hashC Dig.Z32) := hf2
  clear hf2
  have he1 := hf'.eq
  have he2 := hf2'.eq
  have hz1 := hf'.size
  have hz2 := hf2'.size
  have hw2 : Below w.heap.size w w2 := hf'.below.trans (hf2'.below.mono hf'.below.size)
  have A2 := hf'.blk.below hf2'.below hf'.blk.lt
  have C2 := hf2'.blk
  clear hf' hf2'
  refine kgo ?_
  refine WL.lit rfl rfl rfl rfl rfl rfl rfl fun b3 w3 hb3 hk3 ho3 => ?_
  have a3 : Apart w2 w3 b3 := ⟨hk3, ho3⟩
  have A3 := A2.below hk3 A2.lt
  refine kgo ?_
  refine WL.all rfl rfl rfl rfl rfl rfl ?_
  refine WL.app rfl rfl rfl rfl rfl hb3 rfl (hash_sl (VBlk.rangeAt A3) ha A3.lt) (by simp only [List.length_cons, List.length_nil]; omega) fun b4 w4 hb4 hg4 => ?_
  have a4 := a3.grow hg4
  have n4 : ([2] ++ la).length = 33 := by rw [List.length_append]; simp only [List.length_cons, List.length_nil]; omega
  refine kgo ?_
  refine WL.app rfl rfl rfl rfl rfl hb4 rfl (hv.of_below (hw2.trans (a4.below.mono hw2.size))) (by omega) fun b5 w5 hb5 hg5 => ?_
  have a5 := a4.grow hg5
  refine WL.call rfl rfl rfl rfl rfl Tryd.func32 rfl (by kernel_rfl) (Dig.progSum_s b5 _ w5 hb5.sl (by rw [List.length_append]; omega)) ?_
  rintro _ w6 ⟨rfl, hk6⟩
  refine ⟨_, rfl, ?_⟩
  have hk26 : Below w2.heap.size w2 w6 := a5.below.trans (hk6.mono a5.below.size)
  have C6 := C2.below hk26 C2.lt
  have e1 : [2] ++ la ++ l = 2 :: (la ++ l) := by simp
  rw [e1]
  have hlen : (hashC (Dig.sumL (2 :: (la ++ l)))).length = 32 := by rw [List.length_map]; exact Dig.sumL_length _
  refine WL.storeRow rfl rfl rfl rfl rfl rfl C6 hlen (by rfl) (Ones.int _ _) ?_
  refine kgo ?_
  exact WQ.retC rfl rfl rfl hlen (C6.setRow _) ⟨rfl, Keep.below (Keep.setRow (Keep.of_below (hw2.trans (hk26.mono hw2.size))) (fun hk => by omega) _)⟩
theorem pentriesOf_any {w : World} {la : List Int} {n : Nat} (ha : la.length = 32) (hn : n ≤ 1000000) :
    Calls Tryd.prog 23 #[.agg (hashC la).toArray, .int .i64 n] w fun e w' => e = .returned (.agg (hashC (chainP la (uvB n))).toArray) ∧ Below w.heap.size w w' := by
  refine enter (args := [.agg (hashC la).toArray, .int .i64 n]) Tryd.func23 rfl Tryd.ntmps23 rfl ?_
  have hla : (hashC la).length = 32 := by rw [List.length_map]; exact ha
  have hun := uvB_len n
  refine kgo ?_
  refine WL.box rfl rfl rfl rfl rfl fun g w1 hf => ?_
  have hf' : Fresh w g w1 23 (hashC la) := hf
  clear hf
  refine WL.alloc (z := .agg (hashC Dig.Z32).toArray) rfl rfl rfl rfl (Dig.zero25) fun c w2 hf2 => ?_
  have hf2' : Fresh w1 c w2 23 (hashC Dig.Z32) := hf2
  clear hf2
  have he1 := hf'.eq
  have he2 := hf2'.eq
  have hz1 := hf'.size
  have hz2 := hf2'.size
  have hw2 : Below w.heap.size w w2 := hf'.below.trans (hf2'.below.mono hf'.below.size)
  have A2 := hf'.blk.below hf2'.below hf'.blk.lt
  have C2 := hf2'.blk
  clear hf' hf2'
  refine kgo ?_
  refine WC.drawn 5 (fun wx => VBlk 23 wx g (hashC la)) fun w3 hd3 => ?_
  have hk3 : Below w2.heap.size w2 w3 := hd3.below _
  have hS : VBlk 23 w3 g (hashC la) := A2.below hk3 A2.lt
  refine WD.loadMid 0 [5, 6] rfl (by kernel_rfl) rfl rfl (fun _ _ _ _ _ h => h) rfl rfl rfl rfl (fun wx hx => VBlk.rangeAt hx) hla hS ?_
  (((first | refine WD.free 1 rfl (by kernel_rfl) rfl rfl (fun _ _ _ _ _ h => h) rfl rfl (.inr hS) ?_ | refine WD.skip 1 rfl (by kernel_rfl) rfl rfl (fun _ _ _ _ _ h => h) rfl (.inr hS) ?_); try (first | ((with_reducible refine WD.topT ?_ ?_); omega) | ((with_reducible refine WD.topF ?_ ?_); omega) | ((with_reducible refine WD.top64 ?_ ?_); omega))); ((first | refine WD.free 2 rfl (by kernel_rfl) rfl rfl (fun _ _ _ _ _ h => h) rfl rfl (.inr hS) ?_ | refine WD.skip 2 rfl (by kernel_rfl) rfl rfl (fun _ _ _ _ _ h => h) rfl (.inr hS) ?_); try (first | ((with_reducible refine WD.topT ?_ ?_); omega) | ((with_reducible refine WD.topF ?_ ?_); omega) | ((with_reducible refine WD.top64 ?_ ?_); omega))); ((first | refine WD.free 3 rfl (by kernel_rfl) rfl rfl (fun _ _ _ _ _ h => h) rfl rfl (.inr hS) ?_ | refine WD.skip 3 rfl (by kernel_rfl) rfl rfl (fun _ _ _ _ _ h => h) rfl (.inr hS) ?_); try (first | ((with_reducible refine WD.topT ?_ ?_); omega) | ((with_reducible refine WD.topF ?_ ?_); omega) | ((with_reducible refine WD.top64 ?_ ?_); omega))))
  refine WD.one 4 (by kernel_rfl) rfl ?_
  refine WL.call rfl rfl rfl rfl rfl Tryd.func46 rfl (by kernel_rfl) (by rw [show (bif false then (if (0 : Int) > (n : Int) then (n : Int) else 0) else (if (n : Int) > 0 then (n : Int) else 0)) = (if (n : Int) > 0 then (n : Int) else 0) from rfl, max0 (n : Int) (by show R64 _; omega), Int.toNat_natCast]; exact uvarint_any n (by omega) w3) ?_
  rintro _ w4 ⟨b4, rfl, hb4, hk4, -⟩
  refine ⟨_, rfl, ?_⟩
  refine WL.nil (WQ.dk (.inr (hS.below hk4 hS.lt)) ?_)
  refine WD.one 5 (by kernel_rfl) rfl ?_
  refine WL.call rfl rfl rfl rfl rfl Tryd.func45 rfl (by kernel_rfl) (pchain_any ha hb4.sl (by omega)) ?_
  rintro _ w5 ⟨rfl, hk5⟩
  refine ⟨_, rfl, ?_⟩
  refine WL.nil (WQ.dk (.inl rfl) ?_)
  have hk25 : Below w2.heap.size w2 w5 := (hk3.trans (hk4.mono hk3.size)).trans (hk5.mono (Nat.le_trans hk3.size hk4.size))
  have C5 := C2.below hk25 C2.lt
  have hlen : (hashC (chainP la (uvB n))).length = 32 := by rw [List.length_map]; exact Dig.sumL_length _
  refine WD.one 6 (by kernel_rfl) rfl ?_
  refine WL.storeRow rfl rfl rfl rfl rfl rfl C5 hlen (by rfl) (Ones.int _ _) ?_
  refine WL.nil (WQ.dk (.inl rfl) ?_)
  refine WD.done (by kernel_rfl) ?_
  refine kgo ?_
  exact WQ.retC rfl rfl rfl hlen (C5.setRow _) ⟨rfl, Keep.below (Keep.setRow (Keep.of_below (hw2.trans (hk25.mono hw2.size))) (fun hk => by omega) _)⟩
theorem rchain_any {w : World} {la l : List Int} {v : Value} (ha : la.length = 32) (hv : Sl .u8 w v l) (hn : l.length ≤ 17592186044416) :
    Calls Tryd.prog 25 #[.agg (hashC la).toArray, v] w fun e w' => e = .returned (.agg (hashC (chainP la l)).toArray) ∧ Below w.heap.size w w' := by
  refine enter (args := [.agg (hashC la).toArray, v]) Tryd.func25 rfl Tryd.ntmps25 rfl ?_
  have hla : (hashC la).length = 32 := by rw [List.length_map]; exact ha
  refine kgo ?_
  refine WL.box rfl rfl rfl rfl rfl fun g w1 hf => ?_
  have hf' : Fresh w g w1 23 (hashC la) := hf
  clear hf
  refine WL.alloc (z := .agg (hashC Dig.Z32).toArray) rfl rfl rfl rfl (Dig.zero25) fun c w2 hf2 => ?_
  have hf2' : Fresh w1 c w2 23 (hashC Dig.Z32) := hf2
  clear hf2
  have he1 := hf'.eq
  have he2 := hf2'.eq
  have hz1 := hf'.size
  have hz2 := hf2'.size
  have hw2 : Below w.heap.size w w2 := hf'.below.trans (hf2'.below.mono hf'.below.size)
  have A2 := hf'.blk.below hf2'.below hf'.blk.lt
  have C2 := hf2'.blk
  clear hf' hf2'
  refine kgo ?_
  refine WL.lit rfl rfl rfl rfl rfl rfl rfl fun b3 w3 hb3 hk3 ho3 => ?_
  have a3 : Apart w2 w3 b3 := ⟨hk3, ho3⟩
  have A3 := A2.below hk3 A2.lt
  refine kgo ?_
  refine WL.all rfl rfl rfl rfl rfl rfl ?_
  refine WL.app rfl rfl rfl rfl rfl hb3 rfl (hash_sl (VBlk.rangeAt A3) ha A3.lt) (by simp only [List.length_cons, List.length_nil]; omega) fun b4 w4 hb4 hg4 => ?_
  have a4 := a3.grow hg4
  have n4 : ([2] ++ la).length = 33 := by rw [List.length_append]; simp only [List.length_cons, List.length_nil]; omega
  refine kgo ?_
  refine WL.app rfl rfl rfl rfl rfl hb4 rfl (hv.of_below (hw2.trans (a4.below.mono hw2.size))) (by omega) fun b5 w5 hb5 hg5 => ?_
  have a5 := a4.grow hg5
  refine WL.call rfl rfl rfl rfl rfl Tryd.func27 rfl (by kernel_rfl) (Dig.refSum_s b5 _ w5 hb5.sl (by rw [List.length_append]; omega)) ?_
  rintro _ w6 ⟨rfl, hk6⟩
  refine ⟨_, rfl, ?_⟩
  have hk26 : Below w2.heap.size w2 w6 := a5.below.trans (hk6.mono a5.below.size)
  have C6 := C2.below hk26 C2.lt
  have e1 : [2] ++ la ++ l = 2 :: (la ++ l) := by simp
  rw [e1]
  have hlen : (hashC (Dig.sumL (2 :: (la ++ l)))).length = 32 := by rw [List.length_map]; exact Dig.sumL_length _
  refine WL.storeRow rfl rfl rfl rfl rfl rfl C6 hlen (by rfl) (Ones.int _ _) ?_
  refine kgo ?_
  exact WQ.retC rfl rfl rfl hlen (C6.setRow _) ⟨rfl, Keep.below (Keep.setRow (Keep.of_below (hw2.trans (hk26.mono hw2.size))) (fun hk => by omega) _)⟩
theorem rentriesOf_any {w : World} {la : List Int} {n : Nat} (ha : la.length = 32) (hn : n ≤ 1000000) :
    Calls Tryd.prog 8 #[.agg (hashC la).toArray, .int .i64 n] w fun e w' => e = .returned (.agg (hashC (chainP la (uvB n))).toArray) ∧ Below w.heap.size w w' := by
  refine enter (args := [.agg (hashC la).toArray, .int .i64 n]) Tryd.func8 rfl Tryd.ntmps8 rfl ?_
  have hla : (hashC la).length = 32 := by rw [List.length_map]; exact ha
  have hun := uvB_len n
  refine kgo ?_
  refine WL.box rfl rfl rfl rfl rfl fun g w1 hf => ?_
  have hf' : Fresh w g w1 23 (hashC la) := hf
  clear hf
  refine WL.alloc (z := .agg (hashC Dig.Z32).toArray) rfl rfl rfl rfl (Dig.zero25) fun c w2 hf2 => ?_
  have hf2' : Fresh w1 c w2 23 (hashC Dig.Z32) := hf2
  clear hf2
  have he1 := hf'.eq
  have he2 := hf2'.eq
  have hz1 := hf'.size
  have hz2 := hf2'.size
  have hw2 : Below w.heap.size w w2 := hf'.below.trans (hf2'.below.mono hf'.below.size)
  have A2 := hf'.blk.below hf2'.below hf'.blk.lt
  have C2 := hf2'.blk
  clear hf' hf2'
  refine kgo ?_
  refine WC.drawn 4 (fun wx => VBlk 23 wx g (hashC la)) fun w3 hd3 => ?_
  have hk3 : Below w2.heap.size w2 w3 := hd3.below _
  have hS : VBlk 23 w3 g (hashC la) := A2.below hk3 A2.lt
  refine WD.loadMid 0 [4, 5] rfl (by kernel_rfl) rfl rfl (fun _ _ _ _ _ h => h) rfl rfl rfl rfl (fun wx hx => VBlk.rangeAt hx) hla hS ?_
  (((first | refine WD.free 1 rfl (by kernel_rfl) rfl rfl (fun _ _ _ _ _ h => h) rfl rfl (.inr hS) ?_ | refine WD.skip 1 rfl (by kernel_rfl) rfl rfl (fun _ _ _ _ _ h => h) rfl (.inr hS) ?_); try (first | ((with_reducible refine WD.topT ?_ ?_); omega) | ((with_reducible refine WD.topF ?_ ?_); omega) | ((with_reducible refine WD.top64 ?_ ?_); omega))); ((first | refine WD.free 2 rfl (by kernel_rfl) rfl rfl (fun _ _ _ _ _ h => h) rfl rfl (.inr hS) ?_ | refine WD.skip 2 rfl (by kernel_rfl) rfl rfl (fun _ _ _ _ _ h => h) rfl (.inr hS) ?_); try (first | ((with_reducible refine WD.topT ?_ ?_); omega) | ((with_reducible refine WD.topF ?_ ?_); omega) | ((with_reducible refine WD.top64 ?_ ?_); omega))))
  refine WD.one 3 (by kernel_rfl) rfl ?_
  refine WL.call rfl rfl rfl rfl rfl Tryd.func26 rfl (by kernel_rfl) (by rw [u64_nat (x := n) (by omega)]; exact ruvarint_any n (by omega) w3) ?_
  rintro _ w4 ⟨b4, rfl, hb4, hk4, -⟩
  refine ⟨_, rfl, ?_⟩
  refine WL.nil (WQ.dk (.inr (hS.below hk4 hS.lt)) ?_)
  refine WD.one 4 (by kernel_rfl) rfl ?_
  refine WL.call rfl rfl rfl rfl rfl Tryd.func25 rfl (by kernel_rfl) (rchain_any ha hb4.sl (by omega)) ?_
  rintro _ w5 ⟨rfl, hk5⟩
  refine ⟨_, rfl, ?_⟩
  refine WL.nil (WQ.dk (.inl rfl) ?_)
  have hk25 : Below w2.heap.size w2 w5 := (hk3.trans (hk4.mono hk3.size)).trans (hk5.mono (Nat.le_trans hk3.size hk4.size))
  have C5 := C2.below hk25 C2.lt
  have hlen : (hashC (chainP la (uvB n))).length = 32 := by rw [List.length_map]; exact Dig.sumL_length _
  refine WD.one 5 (by kernel_rfl) rfl ?_
  refine WL.storeRow rfl rfl rfl rfl rfl rfl C5 hlen (by rfl) (Ones.int _ _) ?_
  refine WL.nil (WQ.dk (.inl rfl) ?_)
  refine WD.done (by kernel_rfl) ?_
  refine kgo ?_
  exact WQ.retC rfl rfl rfl hlen (C5.setRow _) ⟨rfl, Keep.below (Keep.setRow (Keep.of_below (hw2.trans (hk25.mono hw2.size))) (fun hk => by omega) _)⟩
end K
end Go.Proofs.YtlamdhekjlnccaaDoor

/- Maps that a program has made, seen as functions from keys to elements. -/
namespace Go.Proofs.YtlamdhekjlnccaaDoor
open Go.RowKit Go.Maps

/-- An element reads as itself. -/
def heldR (v : Value) : Option (DataW Value × List MemPlace) := some (.held v, [])
/-- What an element reads as where there may be none. -/
def orD (x : Option Value) (z : DataW Value) : DataW Value := match x with | some v => .held v | none => z

/-- Block b of w is a map of at most n entries: at the key mk x it holds what F x says. -/
def MF {κ : Type} (P : Program) (k : TypeId) (mk : κ → Value) (w : World) (b n : Nat) (F : κ → Option Value) : Prop :=
  ∃ D, w.ownsMap P k heldR b n D ∧ ∀ x kl, keyOf P k (mk x) = some kl → ∀ z, D.atKey kl z = orD (F x) z

/-- F, but d at one key. -/
def mfPut {κ : Type} [DecidableEq κ] (F : κ → Option Value) (key : κ) (d : Value) : κ → Option Value := fun x => if x = key then some d else F x
/-- F without one key. -/
def mfDel {κ : Type} [DecidableEq κ] (F : κ → Option Value) (key : κ) : κ → Option Value := fun x => if x = key then none else F x
theorem mfPut_same {κ : Type} [DecidableEq κ] (F : κ → Option Value) (key : κ) (d : Value) : mfPut F key d key = some d := by simp [mfPut]
theorem mfPut_other {κ : Type} [DecidableEq κ] (F : κ → Option Value) {key x : κ} (d : Value) (h : x ≠ key) : mfPut F key d x = F x := by simp [mfPut, h]
theorem mfDel_same {κ : Type} [DecidableEq κ] (F : κ → Option Value) (key : κ) : mfDel F key key = none := by simp [mfDel]
theorem mfDel_other {κ : Type} [DecidableEq κ] (F : κ → Option Value) {key x : κ} (h : x ≠ key) : mfDel F key x = F x := by simp [mfDel, h]

section
variable {κ : Type} {P : Program} {k : TypeId} {mk : κ → Value} {w : World} {b n : Nat} {F : κ → Option Value}

theorem MF.lt (h : MF P k mk w b n F) : b < w.heap.size := by obtain ⟨D, h, _⟩ := h; exact h.lt
theorem MF.made (P : Program) (k : TypeId) (mk : κ → Value) (w : World) : MF P k mk (w.alloc (.map #[] 0)) w.heap.size 0 (fun _ => none) :=
  ⟨_, World.ownsMap_made w P k heldR, fun _ _ _ _ => rfl⟩
theorem MF.mono (h : MF P k mk w b n F) {n' : Nat} (hn : n ≤ n') : MF P k mk w b n' F := by obtain ⟨D, h, hF⟩ := h; exact ⟨D, h.mono hn, hF⟩
theorem MF.of_block {w' : World} (h : MF P k mk w b n F) (hb : w'.heap[b]? = w.heap[b]?) : MF P k mk w' b n F := by
  obtain ⟨D, ⟨es, clock, h1, h2⟩, hF⟩ := h
  exact ⟨D, ⟨es, clock, hb.trans h1, h2⟩, hF⟩
theorem MF.keep {K : Nat → Prop} {w' : World} (h : MF P k mk w b n F) (hk : Keep K w w') (hb : K b) : MF P k mk w' b n F := h.of_block (hk.block b hb)
theorem MF.below {B : Nat} {w' : World} (h : MF P k mk w b n F) (hk : Below B w w') (hb : b < B) : MF P k mk w' b n F := h.of_block (hk.block b hb)
theorem MF.alloc (h : MF P k mk w b n F) (o : Obj) : MF P k mk (w.alloc o) b n F := h.of_block (Below.heap_alloc w o b h.lt)
theorem MF.other (h : MF P k mk w b n F) (a : Addr) (v : Value) (hb : b ≠ a.block) : MF P k mk (w.setCell a v) b n F := h.of_block (Below.heap_setCell w a v b hb)
theorem MF.setRow_other (h : MF P k mk w b n F) {g : Nat} (cs : Array Value) (hb : b ≠ g) : MF P k mk (w.setRow g cs) b n F := h.of_block (Go.setRow_other w g b cs hb)
theorem MF.drewN (h : MF P k mk w b n F) (m : Nat) : MF P k mk (w.drewN m) b n F := h
theorem MF.congr (h : MF P k mk w b n F) {F' : κ → Option Value} (hF : ∀ x, F' x = F x) : MF P k mk w b n F' := by
  obtain ⟨D, h, h'⟩ := h
  exact ⟨D, h, fun key kl hk z => by rw [hF key]; exact h' key kl hk z⟩

/-- What a read of the map gives. -/
theorem MF.look {t e : TypeId} (h : MF P k mk w b n F) (K : Keyed P k) (ht : P.underlying t = some (.map k e)) {z : Value} (hz : (zeroValue e).run P w = .ok z w)
    {key : κ} {kl : Lit} (hkey : keyOf P k (mk key) = some kl) : (Instr.lookup t (.map (some b)) (mk key) false).run P w = .ok ((F key).getD z) w := by
  obtain ⟨D, h, hF⟩ := h
  obtain ⟨v, ps, h1, h2⟩ := h.lookup K ht hz (zd := .held z) (zp := []) rfl hkey
  rw [hF key kl hkey] at h2
  rw [h1]
  cases hx : F key with
  | none => rw [hx] at h2; simp [orD, heldR] at h2; simp [h2.1]
  | some y => rw [hx] at h2; simp [orD, heldR] at h2; simp [h2.1]

/-- What a read with 'ok' gives. -/
theorem MF.look2 {t e : TypeId} (h : MF P k mk w b n F) (K : Keyed P k) (ht : P.underlying t = some (.map k e)) {z : Value} (hz : (zeroValue e).run P w = .ok z w)
    {key : κ} {kl : Lit} (hkey : keyOf P k (mk key) = some kl) : (Instr.lookup t (.map (some b)) (mk key) true).run P w = .ok (.tuple #[(F key).getD z, .bool (F key).isSome]) w := by
  obtain ⟨D, h, hF⟩ := h
  obtain ⟨v, ps, h1, h2⟩ := h.look_ok K ht hz (zd := .held z) (zp := []) rfl hkey
  have h3 := hF key kl hkey
  rw [h3] at h2
  rw [h1]
  cases hx : F key with
  | none =>
    rw [hx] at h2 h3; simp [orD, heldR] at h2
    rw [Maps.has_false_of_atKey (fun z => h3 z)]; simp [h2.1]
  | some y =>
    rw [hx] at h2 h3; simp [orD, heldR] at h2
    rw [Maps.has_true_of_atKey (fun z => h3 z)]; simp [h2.1]

theorem turned_keep {w w' : World} {b : Nat} (h : w.mapTurned w' b) : Keep (fun x => x ≠ b) w w' := by
  have g := h.grown
  refine ⟨g.os, g.tape, g.output, g.size, fun i hi => ?_⟩
  obtain ⟨es, clock, es', clock', hb, rfl⟩ := h
  exact ChangeMaps.heap_setBlock_other hb _ hi

/-- The map behind a store. -/
theorem MF.put [DecidableEq κ] {t e : TypeId} (hmk : ∀ x y, mk x = mk y → x = y) (h : MF P k mk w b n F) (K : Keyed P k) (ht : P.underlying t = some (.map k e)) (hn : n < maxLen) {key : κ} (val : Value) {kl : Lit}
    (hkey : keyOf P k (mk key) = some kl) : ∃ w', (Instr.mapUpdate t (.map (some b)) (mk key) val).run P w = .ok () w' ∧ MF P k mk w' b (n + 1) (mfPut F key val) ∧ Keep (fun x => x ≠ b) w w' := by
  obtain ⟨D, h, hF⟩ := h
  obtain ⟨w', h1, h2, h3⟩ := h.store K ht hn hkey (val := val) (d := .held val) (ps := []) rfl
  refine ⟨w', h1, ⟨_, h2, fun key' kl' hk' z => ?_⟩, turned_keep h3⟩
  by_cases e : key' = key
  · subst e
    rw [hkey] at hk'; cases hk'
    rw [mfPut_same, atKey_put_same h.isMap (K.key hkey)]; rfl
  · rw [mfPut_other _ _ e, atKey_put_other (fun e' => e (hmk _ _ (K.inj hk' (by rw [hkey, e']))))]
    exact hF key' kl' hk' z

/-- The map behind a delete. -/
theorem MF.del [DecidableEq κ] {t e : TypeId} (hmk : ∀ x y, mk x = mk y → x = y) (h : MF P k mk w b n F) (K : Keyed P k) (ht : P.underlying t = some (.map k e)) {key : κ} {kl : Lit} (hkey : keyOf P k (mk key) = some kl) (ty : TypeId) :
    ∃ w', (Builtin.delete_ #[t, k] ty #[.map (some b), mk key]).run P w = .ok (.tuple #[]) w' ∧ MF P k mk w' b n (mfDel F key) ∧ Keep (fun x => x ≠ b) w w' := by
  obtain ⟨D, h, hF⟩ := h
  obtain ⟨w', h1, h2, h3⟩ := h.drop K ht hkey ty
  refine ⟨w', h1, ⟨_, h2, fun key' kl' hk' z => ?_⟩, turned_keep h3⟩
  by_cases e : key' = key
  · subst e
    rw [hkey] at hk'; cases hk'
    rw [mfDel_same, atKey_del_same]; rfl
  · rw [mfDel_other _ e, atKey_del_other (fun e' => e (hmk _ _ (K.inj hk' (by rw [hkey, e']))))]
    exact hF key' kl' hk' z

end
/-- A delete, as one step of a region that draws its order. -/
theorem step_del {P : Program} {ops : Array Oper} {o : Oper} {a : Act} {w w' : World} {K : Act → World → Prop} {Q : Exit → Act → World → Prop} {F : Prop} (hg : o.guard = none) (m x : Operand) (t k : TypeId)
    (hop : o.op = Op.call { callee := Callee.builtin Builtin.delete, args := #[m, x], argTypes := #[t, k] }) (mv xv : Value) (hm : a.eval m = mv) (hx : a.eval x = xv)
    (hrun : (Builtin.delete_ #[t, k] o.type #[mv, xv]).run P w = .ok (.tuple #[]) w') (h : K (a.put o.dst (.tuple #[])) w') : if Region.wanted o (yielded ops a.tmps) = true then Oper.wp P o a w K Q else F := by
  rw [if_pos (by simp [Region.wanted, hg])]
  unfold Oper.wp
  simp [execOp, hop, resolve, invoke, builtin, hm, hx, hrun, Result.andThen]
  exact h
/-- A store into a map, as one step. -/
theorem step_upd {P : Program} {ops : Array Oper} {o : Oper} {a : Act} {w w' : World} {K : Act → World → Prop} {Q : Exit → Act → World → Prop} {F : Prop} (hg : o.guard = none) (m x v : Operand) (t : TypeId)
    (hop : o.op = Op.mapUpdate t m x v) (mv xv vv : Value) (hm : a.eval m = mv) (hx : a.eval x = xv) (hv : a.eval v = vv)
    (hrun : (Instr.mapUpdate t mv xv vv).run P w = .ok () w') (h : K (a.put o.dst undef) w') : if Region.wanted o (yielded ops a.tmps) = true then Oper.wp P o a w K Q else F := by
  rw [if_pos (by simp [Region.wanted, hg])]
  unfold Oper.wp
  simp [execOp, hop, hm, hx, hv, hrun, Result.andThen]
  exact h

end Go.Proofs.YtlamdhekjlnccaaDoor

/- Trees of digests, with no program in sight: halves, roots, what a tree's map holds. -/
namespace Go.Proofs.YtlamdhekjlnccaaDoor
open Go.RowKit
namespace Mk

/-- A digest. -/
abbrev H := List Int

/-- The greatest power of two below n (n above 1). -/
def half (n : Nat) : Nat := 2 ^ Nat.log2 (n - 1)
theorem half_pos (n : Nat) : 0 < half n := Nat.pow_pos (by decide)
theorem half_lt {n : Nat} (h : 2 ≤ n) : half n < n := by
  have := Nat.log2_self_le (n := n - 1) (by omega)
  unfold half; omega
theorem half_ge {n : Nat} (h : 2 ≤ n) : n ≤ 2 * half n := by
  have := Nat.lt_log2_self (n := n - 1)
  unfold half
  rw [Nat.pow_succ] at this
  omega
theorem half_eq {n j : Nat} (h1 : 2 ^ j < n) (h2 : n ≤ 2 ^ (j + 1)) : half n = 2 ^ j := by
  have hp : 0 < 2 ^ j := Nat.pow_pos (by decide)
  have : Nat.log2 (n - 1) = j := (Nat.log2_eq_iff (by omega)).2 ⟨by omega, by omega⟩
  unfold half; rw [this]
theorem half_pow (j : Nat) : half (2 ^ (j + 1)) = 2 ^ j := by
  have hp : 0 < 2 ^ j := Nat.pow_pos (by decide)
  exact half_eq (by rw [Nat.pow_succ]; omega) (Nat.le_refl _)

/-- n digests from one on. -/
def seg (l : List H) (f n : Nat) : List H := (l.drop f).take n
theorem seg_len {l : List H} {f n : Nat} (h : f + n ≤ l.length) : (seg l f n).length = n := by
  unfold seg; rw [List.length_take, List.length_drop]; omega
theorem seg_all (l : List H) : seg l 0 l.length = l := by simp [seg]
theorem seg_left {l : List H} {f n : Nat} (h : f + n ≤ l.length) (r : List H) : seg (l ++ r) f n = seg l f n := by
  unfold seg
  rw [List.drop_append_of_le_length (by omega), List.take_append_of_le_length (by rw [List.length_drop]; omega)]
theorem seg_take {l : List H} {f n k : Nat} (h : k ≤ n) : (seg l f n).take k = seg l f k := by
  unfold seg; rw [List.take_take, Nat.min_eq_left h]
theorem seg_drop {l : List H} {f n k : Nat} : (seg l f n).drop k = seg l (f + k) (n - k) := by
  unfold seg; rw [List.drop_take, List.drop_drop]
theorem seg_take_of {l : List H} {f n m : Nat} (h : f + n ≤ m) : seg (l.take m) f n = seg l f n := by
  unfold seg; rw [List.drop_take, List.take_take, Nat.min_eq_left (by omega)]
theorem seg_one {l : List H} {f : Nat} (h : f < l.length) : seg l f 1 = [l.getD f []] := by
  unfold seg
  rw [List.drop_eq_getElem_cons h, List.take_succ_cons, List.take_zero]
  simp [h]

section
variable (node : H → H → H) (none : H)
/-- The root of leaves. -/
def root (l : List H) : H :=
  if _ : 2 ≤ l.length then node (root (l.take (half l.length))) (root (l.drop (half l.length))) else match l with | [] => none | a :: _ => a
termination_by l.length
decreasing_by
  · rename_i h; rw [List.length_take]; have := half_lt h; omega
  · rename_i h; rw [List.length_drop]; have := half_pos l.length; omega
end

section
variable {node : H → H → H} {none : H}
theorem root_nil : root node none [] = none := by rw [root]; simp
theorem root_one (a : H) : root node none [a] = a := by rw [root]; simp
theorem root_two {l : List H} (h : 2 ≤ l.length) : root node none l = node (root node none (l.take (half l.length))) (root node none (l.drop (half l.length))) := by rw [root, dif_pos h]
theorem root_seg {l : List H} {f n : Nat} (h : 2 ≤ n) (hl : f + n ≤ l.length) : root node none (seg l f n) = node (root node none (seg l f (half n))) (root node none (seg l (f + half n) (n - half n))) := by
  have e := seg_len hl
  rw [root_two (by omega), e, seg_take (by have := half_lt h; omega), seg_drop]
theorem root_seg1 {l : List H} {f : Nat} (h : f < l.length) : root node none (seg l f 1) = l.getD f [] := by rw [seg_one h, root_one]
theorem root_double {l : List H} {f j : Nat} (hl : f + 2 ^ (j + 1) ≤ l.length) : root node none (seg l f (2 ^ (j + 1))) = node (root node none (seg l f (2 ^ j))) (root node none (seg l (f + 2 ^ j) (2 ^ j))) := by
  have hp : 0 < 2 ^ j := Nat.pow_pos (by decide)
  have e : 2 ^ (j + 1) - 2 ^ j = 2 ^ j := by rw [Nat.pow_succ]; omega
  rw [root_seg (by rw [Nat.pow_succ]; omega) hl, half_pow, e]

/-- A digest's value. -/
def hv (h : H) : Value := .agg (h.map (Value.int .u8)).toArray
theorem hv_inj {a b : H} (h : hv a = hv b) : a = b := by
  unfold hv at h
  injection h with h
  have h2 : a.map (Value.int .u8) = b.map (Value.int .u8) := by simpa using h
  exact (List.map_inj_right (fun x y e => by injection e)).1 h2

variable (node none) in
/-- What the map of a tree of leaves holds: by level and place. -/
def wholeF (l : List H) (x : Int × Int) : Option Value :=
  if 0 ≤ x.1 ∧ 0 ≤ x.2 ∧ (x.2.toNat + 1) * 2 ^ x.1.toNat ≤ l.length then some (hv (root node none (seg l (x.2.toNat * 2 ^ x.1.toNat) (2 ^ x.1.toNat)))) else Option.none
theorem wholeF_nil (x : Int × Int) : wholeF node none [] x = Option.none := by
  unfold wholeF
  rw [if_neg]
  rintro ⟨-, -, h⟩
  have : 0 < (x.2.toNat + 1) * 2 ^ x.1.toNat := Nat.mul_pos (by omega) (Nat.pow_pos (by decide))
  simp at h; omega
theorem wholeF_at {l : List H} {j p : Nat} (h : (p + 1) * 2 ^ j ≤ l.length) : wholeF node none l ((j : Int), (p : Int)) = some (hv (root node none (seg l (p * 2 ^ j) (2 ^ j)))) := by
  unfold wholeF
  rw [if_pos ⟨by simp, by simp, by simpa using h⟩]
  simp
/-- One more leaf: what was whole is as it was. -/
theorem wholeF_old {l : List H} {h : H} {x : Int × Int} (hx : ¬ (0 ≤ x.1 ∧ 0 ≤ x.2 ∧ (x.2.toNat + 1) * 2 ^ x.1.toNat = l.length + 1)) : wholeF node none (l ++ [h]) x = wholeF node none l x := by
  unfold wholeF
  by_cases h1 : 0 ≤ x.1 ∧ 0 ≤ x.2 ∧ (x.2.toNat + 1) * 2 ^ x.1.toNat ≤ l.length
  · obtain ⟨a, b, c⟩ := h1
    have c2 : (x.2.toNat + 1) * 2 ^ x.1.toNat ≤ (l ++ [h]).length := by rw [List.length_append]; omega
    rw [if_pos (show 0 ≤ x.1 ∧ 0 ≤ x.2 ∧ (x.2.toNat + 1) * 2 ^ x.1.toNat ≤ l.length from ⟨a, b, c⟩), if_pos ⟨a, b, c2⟩]
    rw [seg_left]
    have : x.2.toNat * 2 ^ x.1.toNat + 2 ^ x.1.toNat = (x.2.toNat + 1) * 2 ^ x.1.toNat := by rw [Nat.add_mul, Nat.one_mul]
    omega
  · rw [if_neg h1, if_neg]
    rintro ⟨a, b, c⟩
    simp only [List.length_append, List.length_cons, List.length_nil] at c
    exact (by
      by_cases e : (x.2.toNat + 1) * 2 ^ x.1.toNat = l.length + 1
      · exact hx ⟨a, b, e⟩
      · exact h1 ⟨a, b, by omega⟩)

variable (node none) in
/-- The map while a leaf comes in: up to the level j it is as it will be. -/
def stepF (l : List H) (h : H) (j : Nat) (x : Int × Int) : Option Value := if x.1 ≤ j then wholeF node none (l ++ [h]) x else wholeF node none l x
theorem stepF_zero {l : List H} {h : H} (x : Int × Int) : mfPut (wholeF node none l) (((0 : Nat) : Int), (l.length : Int)) (hv h) x = stepF node none l h 0 x := by
  unfold stepF mfPut
  by_cases e : x = (((0 : Nat) : Int), (l.length : Int))
  · subst e
    rw [if_pos rfl, if_pos (by simp), wholeF_at (by simp)]
    have e1 : l.length * 2 ^ 0 = l.length := by simp
    have e2 : 2 ^ 0 = 1 := rfl
    rw [e1, e2, root_seg1 (by simp)]
    simp
  · rw [if_neg e]
    by_cases h0 : x.1 ≤ ((0 : Nat) : Int)
    · rw [if_pos h0, wholeF_old]
      rintro ⟨a, b, c⟩
      apply e
      have e0 : x.1 = 0 := by omega
      rw [e0] at c
      simp at c
      exact Prod.ext (by simpa using e0) (by show x.2 = _; omega)
    · rw [if_neg h0]
/-- The leaves' count is p places of the level j, and full: the next level's place is full too. -/
theorem stepF_succ {l : List H} {h : H} {j p : Nat} (hp : (2 * p + 1 + 1) * 2 ^ j = l.length + 1) (x : Int × Int) :
    mfPut (stepF node none l h j) (((j + 1 : Nat) : Int), (p : Int)) (hv (root node none (seg (l ++ [h]) (p * 2 ^ (j + 1)) (2 ^ (j + 1))))) x = stepF node none l h (j + 1) x := by
  have hp2 : (p + 1) * 2 ^ (j + 1) = l.length + 1 := by
    rw [← hp, Nat.pow_succ, Nat.mul_comm (2 ^ j) 2, ← Nat.mul_assoc]
    congr 1; omega
  show (if x = (((j + 1 : Nat) : Int), (p : Int)) then some (hv (root node none (seg (l ++ [h]) (p * 2 ^ (j + 1)) (2 ^ (j + 1))))) else stepF node none l h j x) = _
  unfold stepF
  by_cases e : x = (((j + 1 : Nat) : Int), (p : Int))
  · subst e
    rw [if_pos rfl, if_pos (by simp), wholeF_at (by simp; omega)]
  · rw [if_neg e]
    by_cases h0 : x.1 ≤ (j : Int)
    · rw [if_pos h0, if_pos (by omega)]
    · rw [if_neg h0]
      by_cases h1 : x.1 ≤ ((j + 1 : Nat) : Int)
      · rw [if_pos h1, wholeF_old]
        rintro ⟨a, b, c⟩
        apply e
        have e0 : x.1 = ((j + 1 : Nat) : Int) := by omega
        rw [e0] at c
        have e1 : ((j + 1 : Nat) : Int).toNat = j + 1 := by omega
        rw [e1, ← hp2] at c
        have := Nat.eq_of_mul_eq_mul_right (Nat.pow_pos (by decide) : 0 < 2 ^ (j + 1)) c
        exact Prod.ext e0 (by show x.2 = _; omega)
      · rw [if_neg h1]
/-- At an even place it is done. -/
theorem stepF_done {l : List H} {h : H} {j p : Nat} (hp : (2 * p + 1) * 2 ^ j = l.length + 1) (x : Int × Int) : stepF node none l h j x = wholeF node none (l ++ [h]) x := by
  unfold stepF
  by_cases h0 : x.1 ≤ (j : Int)
  · rw [if_pos h0]
  · rw [if_neg h0, wholeF_old]
    rintro ⟨a, b, c⟩
    obtain ⟨m, hm⟩ : ∃ m, x.1.toNat = j + 1 + m := ⟨x.1.toNat - (j + 1), by omega⟩
    rw [hm, ← hp] at c
    have e : 2 ^ (j + 1 + m) = 2 ^ j * (2 * 2 ^ m) := by
      rw [Nat.pow_add, Nat.pow_succ]; simp [Nat.mul_assoc]
    rw [e, Nat.mul_comm (2 * p + 1), Nat.mul_left_comm] at c
    have := Nat.eq_of_mul_eq_mul_left (Nat.pow_pos (by decide) : 0 < 2 ^ j) c
    have : (x.2.toNat + 1) * (2 * 2 ^ m) = 2 * ((x.2.toNat + 1) * 2 ^ m) := by rw [Nat.mul_left_comm]
    omega

/-- A place that a half may have. -/
def Al (f n : Nat) : Prop := ∃ e, n ≤ 2 ^ e ∧ 2 ^ e ∣ f
theorem al_zero (n : Nat) : Al 0 n := ⟨n, Nat.le_of_lt Nat.lt_two_pow_self, Nat.dvd_zero _⟩
theorem al_left {f n : Nat} (h : Al f n) (h2 : 2 ≤ n) : Al f (half n) := by
  obtain ⟨e, h1, hd⟩ := h
  exact ⟨e, Nat.le_trans (Nat.le_of_lt (half_lt h2)) h1, hd⟩
theorem al_right {f n : Nat} (h : Al f n) (h2 : 2 ≤ n) : Al (f + half n) (n - half n) := by
  obtain ⟨e, h1, hd⟩ := h
  have h3 : Nat.log2 (n - 1) < e := by
    have := Nat.log2_self_le (n := n - 1) (by omega)
    exact (Nat.pow_lt_pow_iff_right (a := 2) (by decide)).1 (by omega)
  refine ⟨Nat.log2 (n - 1), ?_, ?_⟩
  · have := half_ge h2
    show n - half n ≤ half n
    omega
  · refine Nat.dvd_add (Nat.dvd_trans (Nat.pow_dvd_pow 2 (Nat.le_of_lt h3)) hd) (Nat.dvd_refl _)
theorem al_pow {f j : Nat} (h : Al f (2 ^ j)) : 2 ^ j ∣ f := by
  obtain ⟨e, h1, hd⟩ := h
  exact Nat.dvd_trans (Nat.pow_dvd_pow 2 ((Nat.pow_le_pow_iff_right (by decide)).1 h1)) hd
end
end Mk
end Go.Proofs.YtlamdhekjlnccaaDoor

/- The contracts of bits.Len64 and bits.TrailingZeros64 at this program, as the kit's shelf lays them (lay-shelf.mjs, lay-plain.mjs). -/
namespace Go.Proofs
open Go.Shelf
def Tryd.lays129_ren : Go.Shelf.Ren := ⟨fun | 129 => 71 | n => n, fun | 53 => 64 | 3 => 3 | 4 => 4 | 46 => 85 | 5 => 5 | 9 => 9 | n => n, fun | n => n⟩
theorem Tryd.lays129 : Go.Proofs.Lays.n129 Tryd.prog Tryd.lays129_ren := {
  mixed := by kernel_rfl
  f129 := Tryd.func71.trans (congrArg some (by kernel_rfl))
  t3 := Tryd.underlying3
  a3 := Tryd.isAgg3
  z3 := Tryd.sizeOf3
  v3 := Tryd.zeroValue3
  t4 := Tryd.underlying4
  a4 := Tryd.isAgg4
  z4 := Tryd.sizeOf4
  v4 := Tryd.zeroValue4
  t5 := Tryd.underlying5
  a5 := Tryd.isAgg5
  z5 := Tryd.sizeOf5
  v5 := Tryd.zeroValue5
  t9 := Tryd.underlying9
  a9 := Tryd.isAgg9
  z9 := Tryd.sizeOf9
  v9 := Tryd.zeroValue9
  t46 := Tryd.underlying85
  a46 := Tryd.isAgg85
  z46 := Tryd.sizeOf85
  v46 := Tryd.zeroValue85
  t53 := Tryd.underlying64
  a53 := Tryd.isAgg64
  z53 := Tryd.sizeOf64
  v53 := Tryd.zeroValue64 }
/-- bits.Len64. -/
theorem Tryd.bits_Len64 (x : Int) (w : World) (h0 : 0 ≤ x) (h1 : x ≤ 18446744073709551615) :
    Calls Tryd.prog 71 #[.int .u64 x] w fun e w' => e = .returned (.int .i64 (Lib.bitLen x.toNat)) ∧ w' = w := Any.bits_Len64 Tryd.lays129 x w h0 h1
def Tryd.lays7n29_ren : Go.Shelf.Ren := ⟨fun | 29 => 60 | n => n, fun | 22 => 64 | 3 => 3 | 4 => 4 | 25 => 85 | 54 => 116 | 0 => 0 | 5 => 5 | n => n, fun | 1 => 0 | n => n⟩
theorem Tryd.lays7n29 : Go.Proofs.Lays7.n29 Tryd.prog Tryd.lays7n29_ren := {
  mixed := by kernel_rfl
  f29 := Tryd.func60.trans (congrArg some (by kernel_rfl))
  t0 := Tryd.underlying0
  a0 := Tryd.isAgg0
  z0 := Tryd.sizeOf0
  v0 := Tryd.zeroValue0
  i0 := by kernel_rfl
  t3 := Tryd.underlying3
  a3 := Tryd.isAgg3
  z3 := Tryd.sizeOf3
  v3 := Tryd.zeroValue3
  i3 := by kernel_rfl
  t4 := Tryd.underlying4
  a4 := Tryd.isAgg4
  z4 := Tryd.sizeOf4
  v4 := Tryd.zeroValue4
  i4 := by kernel_rfl
  t5 := Tryd.underlying5
  a5 := Tryd.isAgg5
  z5 := Tryd.sizeOf5
  v5 := Tryd.zeroValue5
  i5 := by kernel_rfl
  t22 := Tryd.underlying64
  a22 := Tryd.isAgg64
  z22 := Tryd.sizeOf64
  v22 := Tryd.zeroValue64
  i22 := by kernel_rfl
  t25 := Tryd.underlying85
  a25 := Tryd.isAgg85
  z25 := Tryd.sizeOf85
  v25 := Tryd.zeroValue85
  i25 := by kernel_rfl
  t54 := Tryd.underlying116
  a54 := Tryd.isAgg116
  z54 := Tryd.sizeOf116
  g1 := by kernel_rfl }
/-- bits.TrailingZeros64. -/
theorem Tryd.bits_TrailingZeros64 (x : Nat) (hx : x < 18446744073709551616) (w : World) (hT : x ≠ 0 → TabAt (Tryd.lays7n29_ren.g 1) Lib.deBruijn64tab w) :
    Calls Tryd.prog 60 #[.int .u64 x] w fun e w' => e = .returned (.int .i64 (Lib.ctz 64 x)) ∧ w' = w := Any7.bits_TrailingZeros64 Tryd.lays7n29 x hx w hT
end Go.Proofs

/- digest.Node and the reference's: their contracts. -/
namespace Go.Proofs.YtlamdhekjlnccaaDoor
open Go.RowKit
namespace Dig

set_option maxRecDepth 100000 in
set_option maxHeartbeats 1000000 in
theorem node_any (la lb : List Int) (w : World) (ha : la.length = 32) (hb : lb.length = 32) :
    Calls Tryd.prog 31 #[.agg (la.map (Value.int .u8)).toArray, .agg (lb.map (Value.int .u8)).toArray] w fun e w' => e = .returned (.agg ((sumL (1 :: (la ++ lb))).map (Value.int .u8)).toArray) ∧ Below w.heap.size w w' := by
  have el : [1] ++ la ++ lb = 1 :: (la ++ lb) := by simp
  have El := Hid2.mk el
  clear el
  have hz25 := zero25
  have Ha := Hid2.mk ha
  have Hb := Hid2.mk hb
  clear ha hb
  go_enter Tryd.func31, Tryd.ntmps31
  go_wp2_with fail
  clear hz25
  obtain ⟨hA, hB, hC, hbel, hsz⟩ := three_alloc w (.cells (la.map (Value.int .u8)).toArray 23) (.cells (lb.map (Value.int .u8)).toArray 23) (.cells (Z32.map (Value.int .u8)).toArray 23)
  generalize World.alloc _ _ = w0 at hA hB hC hbel hsz ⊢
  have hL : IBlk .u8 23 w0 w.heap.size la := hA
  have hR : IBlk .u8 23 w0 (w.heap.size + 1) lb := hB
  have hH : IBlk .u8 23 w0 (w.heap.size + 1 + 1) Z32 := hC
  clear hA hB hC
  refine wp_region_any (by kernel_rfl) ?_
  change wpAny _ _ _ _ _ _ _ (World.drew _)
  obtain ⟨w1, hw1⟩ : ∃ w1, w1 = w0.drew := ⟨_, rfl⟩
  have hL1 : IBlk .u8 23 w1 w.heap.size la := by rw [hw1]; exact hL
  have hR1 : IBlk .u8 23 w1 (w.heap.size + 1) lb := by rw [hw1]; exact hR
  have hH1 : IBlk .u8 23 w1 (w.heap.size + 1 + 1) Z32 := by rw [hw1]; exact hH
  have hbel1 : Below w.heap.size w w1 := by rw [hw1]; exact hbel.drew
  have hs1 : w.heap.size + 3 ≤ w1.heap.size := by rw [hw1]; exact Nat.le_of_eq hsz.symm
  rw [← hw1]
  clear hw1 hL hR hH hbel hsz
  refine wpAny_take (i := 1) (v := .slice (some ⟨w.heap.size, 0, none⟩) 32 32) rfl (by kernel_rfl) (by kernel_rfl) (by kernel_rfl) (fun _ _ _ h => h) (Or.inl ⟨by rfl, ?_⟩) ?_
  · intro W; go_simp
  refine wpAny_take (i := 3) (v := .slice (some ⟨w.heap.size + 1, 0, none⟩) 32 32) rfl (by kernel_rfl) (by kernel_rfl) (by kernel_rfl) (fun _ _ _ h => h) (Or.inl ⟨by rfl, ?_⟩) ?_
  · intro W; go_simp
  refine wpAny_ready (rs := [0]) (by kernel_rfl) (by simp) ?_
  refine AllReady.cons rfl (fun K hK => ?_) AllReady.nil
  go_simp
  refine hK _ _ ?_
  clear hK K
  have hbuf := mark_buf w1 1
  have hslL : Sl .u8 (w1.alloc (.cells #[.int .u8 1] 5)) (.slice (some ⟨w.heap.size, 0, none⟩) 32 32) la := blk_sl (hL1.alloc _) Ha.out
  have hR2 := hR1.alloc (.cells #[.int .u8 1] 5)
  have hH2 := hH1.alloc (.cells #[.int .u8 1] 5)
  have hbel2 : Below w.heap.size w (w1.alloc (.cells #[.int .u8 1] 5)) := hbel1.alloc (by omega) _
  have hs2 : (w1.alloc (.cells #[.int .u8 1] 5)).heap.size = w1.heap.size + 1 := by simp
  generalize World.alloc _ _ = w2 at hbuf hslL hR2 hH2 hbel2 hs2 ⊢
  clear hL1 hR1 hH1 hbel1
  refine wpAny_ready (rs := [2]) (by kernel_rfl) (by simp) ?_
  refine AllReady.cons rfl (fun K hK => ?_) AllReady.nil
  refine step_app rfl (.tmp 5) (.tmp 6) 39 rfl elemBytes w1.heap.size _ [1] rfl hbuf _ la rfl hslL 33 (by rw [Ha.out]; rfl) (by unfold maxLen; omega) (by omega) (by omega) ?_
  intro sp3 c3 w3 hb3 hk3
  refine hK _ _ ?_
  clear hK K hbuf hslL
  have hs3 := hk3.size
  have hR3 := hR2.keep hk3 (by omega)
  have hH3 := hH2.keep hk3 (by omega)
  have hbel3 : Below w.heap.size w w3 := hbel2.trans (hk3.mono (fun k (hk : k < w.heap.size) => by omega)).below
  have hslR : Sl .u8 w3 (.slice (some ⟨w.heap.size + 1, 0, none⟩) 32 32) lb := blk_sl hR3 Hb.out
  refine wpAny_ready (rs := [4]) (by kernel_rfl) (by simp) ?_
  refine AllReady.cons rfl (fun K hK => ?_) AllReady.nil
  refine step_app rfl (.tmp 7) (.tmp 8) 39 rfl elemBytes w1.heap.size _ ([1] ++ la) rfl hb3 _ lb rfl hslR 65 (by rw [List.length_append, Ha.out, Hb.out]; rfl) (by unfold maxLen; omega) (by omega) (by omega) ?_
  intro sp4 c4 w4 hb4 hk4
  refine hK _ _ ?_
  clear hK K hb3 hslR
  have hs4 := hk4.size
  have hH4 := hH3.keep hk4 (by omega)
  have hbel4 : Below w.heap.size w w4 := hbel3.trans (hk4.mono (fun k (hk : k < w.heap.size) => by omega)).below
  have hsl4 := hb4.sl
  have hl4 : ([1] ++ la ++ lb).length ≤ 35184372088832 := by rw [List.length_append, List.length_append, Ha.out, Hb.out]; decide
  refine wpAny_ready (rs := [5]) (by kernel_rfl) (by simp) ?_
  refine AllReady.cons rfl (fun K hK => ?_) AllReady.nil
  go_simp
  refine (progSum_s _ _ _ hsl4 hl4).mono ?_
  rintro e w5 ⟨rfl, hb5⟩
  refine hK _ _ ?_
  clear hK K hb4 hsl4 hl4 hk3 hk4 hR2 hR3
  have hH5 := hH4.below hb5 hH4.lt
  have hbel5 : Below w.heap.size w w5 := hbel4.trans (hb5.mono hbel4.size)
  obtain ⟨hh, Hhe, Hhl⟩ := sum_named ([1] ++ la ++ lb)
  rw [← Hhe.out]
  have HgH : Hid2 (w5.heap[w.heap.size + 1 + 1]? = some (.cells (Z32.map (Value.int .u8)).toArray 23 (0, 0))) := Hid2.mk hH5
  clear hH5 hH4 hH3 hH2 hb5
  refine wpAny_ready (rs := [6]) (by kernel_rfl) (by simp) ?_
  refine AllReady.cons rfl (fun K hK => ?_) AllReady.nil
  refine step_store_row rfl 23 (.tmp 4) (.tmp 10) rfl (w.heap.size + 1 + 1) (hh.map (Value.int .u8)).toArray rfl rfl 23 (Z32.map (Value.int .u8)).toArray HgH.out (info25 hh Hhl.out) (size25 hh Hhl.out) (one25 hh) ?_
  refine hK _ _ ?_
  clear hK K
  refine wpAny_done (by kernel_rfl) ?_ _
  go_wp2_with fail
  refine bodyPost_ret (results_cell_row rfl _ _ (w.heap.size + 1 + 1) 23 (hh.map (Value.int .u8)).toArray (0, 0) _ rfl (setRow_heap _ _ _ _ _ _ HgH.out) Tryd.underlying23 rfl (info25 hh Hhl.out)) rfl ⟨by rw [Hhe.out, El.out], ?_⟩
  exact below_setRow hbel5 (by omega) _


set_option maxRecDepth 100000 in
set_option maxHeartbeats 1000000 in
theorem refNode_any (la lb : List Int) (w : World) (ha : la.length = 32) (hb : lb.length = 32) :
    Calls Tryd.prog 13 #[.agg (la.map (Value.int .u8)).toArray, .agg (lb.map (Value.int .u8)).toArray] w fun e w' => e = .returned (.agg ((sumL (1 :: (la ++ lb))).map (Value.int .u8)).toArray) ∧ Below w.heap.size w w' := by
  have el : [1] ++ la ++ lb = 1 :: (la ++ lb) := by simp
  have El := Hid2.mk el
  clear el
  have hz25 := zero25
  have Ha := Hid2.mk ha
  have Hb := Hid2.mk hb
  clear ha hb
  go_enter Tryd.func13, Tryd.ntmps13
  go_wp2_with fail
  clear hz25
  obtain ⟨hA, hB, hC, hbel, hsz⟩ := three_alloc w (.cells (la.map (Value.int .u8)).toArray 23) (.cells (lb.map (Value.int .u8)).toArray 23) (.cells (Z32.map (Value.int .u8)).toArray 23)
  generalize World.alloc _ _ = w0 at hA hB hC hbel hsz ⊢
  have hL : IBlk .u8 23 w0 w.heap.size la := hA
  have hR : IBlk .u8 23 w0 (w.heap.size + 1) lb := hB
  have hH : IBlk .u8 23 w0 (w.heap.size + 1 + 1) Z32 := hC
  clear hA hB hC
  refine wp_region_any (by kernel_rfl) ?_
  change wpAny _ _ _ _ _ _ _ (World.drew _)
  obtain ⟨w1, hw1⟩ : ∃ w1, w1 = w0.drew := ⟨_, rfl⟩
  have hL1 : IBlk .u8 23 w1 w.heap.size la := by rw [hw1]; exact hL
  have hR1 : IBlk .u8 23 w1 (w.heap.size + 1) lb := by rw [hw1]; exact hR
  have hH1 : IBlk .u8 23 w1 (w.heap.size + 1 + 1) Z32 := by rw [hw1]; exact hH
  have hbel1 : Below w.heap.size w w1 := by rw [hw1]; exact hbel.drew
  have hs1 : w.heap.size + 3 ≤ w1.heap.size := by rw [hw1]; exact Nat.le_of_eq hsz.symm
  rw [← hw1]
  clear hw1 hL hR hH hbel hsz
  refine wpAny_take (i := 1) (v := .slice (some ⟨w.heap.size, 0, none⟩) 32 32) rfl (by kernel_rfl) (by kernel_rfl) (by kernel_rfl) (fun _ _ _ h => h) (Or.inl ⟨by rfl, ?_⟩) ?_
  · intro W; go_simp
  refine wpAny_take (i := 3) (v := .slice (some ⟨w.heap.size + 1, 0, none⟩) 32 32) rfl (by kernel_rfl) (by kernel_rfl) (by kernel_rfl) (fun _ _ _ h => h) (Or.inl ⟨by rfl, ?_⟩) ?_
  · intro W; go_simp
  refine wpAny_ready (rs := [0]) (by kernel_rfl) (by simp) ?_
  refine AllReady.cons rfl (fun K hK => ?_) AllReady.nil
  go_simp
  refine hK _ _ ?_
  clear hK K
  have hbuf := mark_buf w1 1
  have hslL : Sl .u8 (w1.alloc (.cells #[.int .u8 1] 5)) (.slice (some ⟨w.heap.size, 0, none⟩) 32 32) la := blk_sl (hL1.alloc _) Ha.out
  have hR2 := hR1.alloc (.cells #[.int .u8 1] 5)
  have hH2 := hH1.alloc (.cells #[.int .u8 1] 5)
  have hbel2 : Below w.heap.size w (w1.alloc (.cells #[.int .u8 1] 5)) := hbel1.alloc (by omega) _
  have hs2 : (w1.alloc (.cells #[.int .u8 1] 5)).heap.size = w1.heap.size + 1 := by simp
  generalize World.alloc _ _ = w2 at hbuf hslL hR2 hH2 hbel2 hs2 ⊢
  clear hL1 hR1 hH1 hbel1
  refine wpAny_ready (rs := [2]) (by kernel_rfl) (by simp) ?_
  refine AllReady.cons rfl (fun K hK => ?_) AllReady.nil
  refine step_app rfl (.tmp 5) (.tmp 6) 39 rfl elemBytes w1.heap.size _ [1] rfl hbuf _ la rfl hslL 33 (by rw [Ha.out]; rfl) (by unfold maxLen; omega) (by omega) (by omega) ?_
  intro sp3 c3 w3 hb3 hk3
  refine hK _ _ ?_
  clear hK K hbuf hslL
  have hs3 := hk3.size
  have hR3 := hR2.keep hk3 (by omega)
  have hH3 := hH2.keep hk3 (by omega)
  have hbel3 : Below w.heap.size w w3 := hbel2.trans (hk3.mono (fun k (hk : k < w.heap.size) => by omega)).below
  have hslR : Sl .u8 w3 (.slice (some ⟨w.heap.size + 1, 0, none⟩) 32 32) lb := blk_sl hR3 Hb.out
  refine wpAny_ready (rs := [4]) (by kernel_rfl) (by simp) ?_
  refine AllReady.cons rfl (fun K hK => ?_) AllReady.nil
  refine step_app rfl (.tmp 7) (.tmp 8) 39 rfl elemBytes w1.heap.size _ ([1] ++ la) rfl hb3 _ lb rfl hslR 65 (by rw [List.length_append, Ha.out, Hb.out]; rfl) (by unfold maxLen; omega) (by omega) (by omega) ?_
  intro sp4 c4 w4 hb4 hk4
  refine hK _ _ ?_
  clear hK K hb3 hslR
  have hs4 := hk4.size
  have hH4 := hH3.keep hk4 (by omega)
  have hbel4 : Below w.heap.size w w4 := hbel3.trans (hk4.mono (fun k (hk : k < w.heap.size) => by omega)).below
  have hsl4 := hb4.sl
  have hl4 : ([1] ++ la ++ lb).length ≤ 35184372088832 := by rw [List.length_append, List.length_append, Ha.out, Hb.out]; decide
  refine wpAny_ready (rs := [5]) (by kernel_rfl) (by simp) ?_
  refine AllReady.cons rfl (fun K hK => ?_) AllReady.nil
  go_simp
  refine (refSum_s _ _ _ hsl4 hl4).mono ?_
  rintro e w5 ⟨rfl, hb5⟩
  refine hK _ _ ?_
  clear hK K hb4 hsl4 hl4 hk3 hk4 hR2 hR3
  have hH5 := hH4.below hb5 hH4.lt
  have hbel5 : Below w.heap.size w w5 := hbel4.trans (hb5.mono hbel4.size)
  obtain ⟨hh, Hhe, Hhl⟩ := sum_named ([1] ++ la ++ lb)
  rw [← Hhe.out]
  have HgH : Hid2 (w5.heap[w.heap.size + 1 + 1]? = some (.cells (Z32.map (Value.int .u8)).toArray 23 (0, 0))) := Hid2.mk hH5
  clear hH5 hH4 hH3 hH2 hb5
  refine wpAny_ready (rs := [6]) (by kernel_rfl) (by simp) ?_
  refine AllReady.cons rfl (fun K hK => ?_) AllReady.nil
  refine step_store_row rfl 23 (.tmp 4) (.tmp 10) rfl (w.heap.size + 1 + 1) (hh.map (Value.int .u8)).toArray rfl rfl 23 (Z32.map (Value.int .u8)).toArray HgH.out (info25 hh Hhl.out) (size25 hh Hhl.out) (one25 hh) ?_
  refine hK _ _ ?_
  clear hK K
  refine wpAny_done (by kernel_rfl) ?_ _
  go_wp2_with fail
  refine bodyPost_ret (results_cell_row rfl _ _ (w.heap.size + 1 + 1) 23 (hh.map (Value.int .u8)).toArray (0, 0) _ rfl (setRow_heap _ _ _ _ _ _ HgH.out) Tryd.underlying23 rfl (info25 hh Hhl.out)) rfl ⟨by rw [Hhe.out, El.out], ?_⟩
  exact below_setRow hbel5 (by omega) _


end Dig
end Go.Proofs.YtlamdhekjlnccaaDoor

/- The tree of digests: what it is in memory; its keys; New, Size, half. -/
namespace Go.Proofs.YtlamdhekjlnccaaDoor
open Go.RowKit Go.Maps
namespace Mk
open Dig (sumL sumL_length)

def nodeP (a b : H) : H := sumL (1 :: (a ++ b))
def noneP : H := sumL []
/-- The root of leaves. -/
def rt (l : List H) : H := root nodeP noneP l
/-- All are digests. -/
def Okh (l : List H) : Prop := ∀ h ∈ l, h.length = 32
theorem okh_getD {l : List H} (h : Okh l) {k : Nat} (hk : k < l.length) : (l.getD k []).length = 32 := by
  have : l.getD k [] = l[k] := by simp [hk]
  rw [this]; exact h _ (List.getElem_mem hk)
theorem okh_app {a b : List H} (h : Okh a) (h' : Okh b) : Okh (a ++ b) := fun x hx => (List.mem_append.1 hx).elim (h x) (h' x)
theorem okh_one {a : H} (h : a.length = 32) : Okh [a] := fun x hx => by simp at hx; rw [hx]; exact h
theorem okh_nil : Okh [] := fun _ hx => (List.not_mem_nil hx).elim
theorem okh_seg {l : List H} (h : Okh l) (f n : Nat) : Okh (seg l f n) := fun _ hx => h _ (List.mem_of_mem_drop (List.mem_of_mem_take hx))
theorem okh_take {l : List H} (h : Okh l) (n : Nat) : Okh (l.take n) := fun _ hx => h _ (List.mem_of_mem_take hx)
theorem okh_drop {l : List H} (h : Okh l) (n : Nat) : Okh (l.drop n) := fun _ hx => h _ (List.mem_of_mem_drop hx)
theorem rt_len {l : List H} (h : Okh l) : (rt l).length = 32 := by
  unfold rt
  rw [root]
  split
  · exact sumL_length _
  · cases l with
    | nil => exact sumL_length _
    | cons a r => exact h a List.mem_cons_self
theorem node_p {a b : H} (w : World) (ha : a.length = 32) (hb : b.length = 32) : Calls Tryd.prog 31 #[hv a, hv b] w fun e w' => e = .returned (hv (nodeP a b)) ∧ Below w.heap.size w w' := Dig.node_any a b w ha hb
theorem refNode_p {a b : H} (w : World) (ha : a.length = 32) (hb : b.length = 32) : Calls Tryd.prog 13 #[hv a, hv b] w fun e w' => e = .returned (hv (nodeP a b)) ∧ Below w.heap.size w w' := Dig.refNode_any a b w ha hb
theorem nodeP_len (a b : H) : (nodeP a b).length = 32 := sumL_length _

/-! ### Keys -/
set_option maxRecDepth 100000 in
theorem laid : laidOutB Tryd.prog = true := by kernel_rfl
set_option maxRecDepth 100000 in
theorem keyRow : (84 : TypeId) < Tryd.prog.types.size := of_decide_eq_true (by kernel_rfl)
set_option maxRecDepth 100000 in
theorem keyWide : (match Tryd.prog.underlying 84 with | some (.array _ _) | some (.struct _) => true | _ => false) = true := by rw [Tryd.underlying84]
set_option maxRecDepth 100000 in
theorem keyed : Keyed Tryd.prog 84 := Keyed.of_law (deep_law_laid laid (m := 2) (by omega) keyRow (by kernel_rfl) keyWide)
/-- A key. -/
def mk (x : Int × Int) : Value := .agg #[.int .i64 x.1, .int .i64 x.2]
def okKey (x : Int × Int) : Prop := (Lit.int .i64 x.1).wf = true ∧ (Lit.int .i64 x.2).wf = true
set_option maxRecDepth 100000 in
theorem keyType : Tryd.prog.keyType 84 = true := by kernel_rfl
set_option maxRecDepth 100000 in
theorem keyCells : Tryd.prog.cellsOf 84 = 2 := by kernel_rfl
set_option maxRecDepth 100000 in
theorem intCells : Tryd.prog.cellsOf 3 = 1 := by kernel_rfl
set_option maxRecDepth 100000 in
theorem deepEnough : Tryd.prog.types.size + 1 = (Tryd.prog.types.size - 1) + 1 + 1 := of_decide_eq_true (by kernel_rfl)
theorem keyOf_pair {P : Program} {k ti : TypeId} (hk : P.underlying k = some (.array 2 ti)) (hi : P.underlying ti = some (.int .i64)) (hkt : P.keyType k = true) (hc : P.cellsOf k = 2) (ci : P.cellsOf ti = 1)
    {d : Nat} (hd : P.types.size + 1 = d + 1 + 1) (x : Int × Int) (h1 : (Lit.int .i64 x.1).wf = true) (h2 : (Lit.int .i64 x.2).wf = true) : keyOf P k (mk x) = some (.string (keyBytes [.int .i64 x.1, .int .i64 x.2])) := by
  have e1 : (mk x).formed P k = true := by
    unfold Value.formed mk
    simp only [hk, hc]
    rfl
  have e3 : ∀ y : Int, (Lit.int .i64 y).wf = true → P.keyLits (d + 1) ti [.int .i64 y] = some [.int .i64 y] := fun y hy => by
    unfold Program.keyLits
    rw [hi]
    exact if_pos ⟨rfl, hy⟩
  have e2 : P.keyLits (d + 1 + 1) k (mk x).cells.toList = some [.int .i64 x.1, .int .i64 x.2] := by
    unfold Program.keyLits
    rw [hk]
    have hr : List.range 2 = [0, 1] := rfl
    simp only [mk, Value.cells, hc, ci, hr, List.length_cons, List.length_nil, List.mapM_cons, List.mapM_nil, Nat.zero_mul, Nat.one_mul, List.drop_zero, List.drop_succ_cons, List.take_succ_cons, List.take_zero, e3 _ h1, e3 _ h2, if_true]
    simp
  unfold keyOf
  simp only [hk, hkt, e1, Bool.and_self, if_true, hd, e2, Option.map_some]
theorem keyOf_mk (x : Int × Int) (h : okKey x) : ∃ kl, keyOf Tryd.prog 84 (mk x) = some kl :=
  ⟨_, keyOf_pair Tryd.underlying84 Tryd.underlying3 keyType keyCells intCells deepEnough x h.1 h.2⟩
theorem mk_inj (x y : Int × Int) (h : mk x = mk y) : x = y := by
  unfold mk at h
  simp at h
  exact Prod.ext h.1 h.2
theorem wf_nat {k : Nat} (h : k < 9223372036854775808) : (Lit.int .i64 (k : Int)).wf = true := by
  simp [Lit.wf, IntKind.min, IntKind.max, IntKind.bits, IntKind.signed]; omega

/-! ### The tree -/
/-- Block t is a tree of the leaves l; O: its blocks; n: how often something was laid into its map, at most. -/
def IsTree (w : World) (t : Nat) (O : Nat → Prop) (n : Nat) (l : List H) : Prop :=
  ∃ mb, VBlk 82 w t [.int .i64 (l.length : Nat), .map (some mb)] ∧ O t ∧ O mb ∧ (∀ b, O b → b < w.heap.size) ∧
    MF Tryd.prog 84 mk w mb n (wholeF nodeP noneP l) ∧ Okh l
theorem IsTree.keep {w w' : World} {t n : Nat} {O : Nat → Prop} {l : List H} (h : IsTree w t O n l) {K : Nat → Prop} (hk : Keep K w w') (hK : ∀ b, O b → K b) : IsTree w' t O n l := by
  obtain ⟨mb, h1, h2, h3, h4, h5, h6⟩ := h
  exact ⟨mb, h1.keep hk (hK t h2), h2, h3, fun b hb => Nat.lt_of_lt_of_le (h4 b hb) hk.size, h5.keep hk (hK mb h3), h6⟩
theorem IsTree.lt {w : World} {t n : Nat} {O : Nat → Prop} {l : List H} (h : IsTree w t O n l) : ∀ b, O b → b < w.heap.size := by
  obtain ⟨mb, h1, h2, h3, h4, -⟩ := h; exact h4
theorem IsTree.ok {w : World} {t n : Nat} {O : Nat → Prop} {l : List H} (h : IsTree w t O n l) : Okh l := by
  obtain ⟨mb, h1, h2, h3, h4, h5, h6⟩ := h; exact h6
theorem IsTree.own {w : World} {t n : Nat} {O : Nat → Prop} {l : List H} (h : IsTree w t O n l) : O t := by
  obtain ⟨mb, h1, h2, -⟩ := h; exact h2
theorem IsTree.below {w w' : World} {t n : Nat} {O : Nat → Prop} {l : List H} (h : IsTree w t O n l) {B : Nat} (hk : Below B w w') (hB : w.heap.size ≤ B) : IsTree w' t O n l :=
  h.keep (Keep.of_below hk) (fun b hb => Nat.lt_of_lt_of_le (h.lt b hb) hB)
theorem IsTree.mono {w : World} {t n n' : Nat} {O : Nat → Prop} {l : List H} (h : IsTree w t O n l) (hn : n ≤ n') : IsTree w t O n' l := by
  obtain ⟨mb, h1, h2, h3, h4, h5, h6⟩ := h; exact ⟨mb, h1, h2, h3, h4, h5.mono hn, h6⟩

/-- The library's table, in its variable. -/
def Tab (w : World) : Prop := TabAt (Tryd.lays7n29_ren.g 1) Lib.deBruijn64tab w
theorem Tab.keep {w w' : World} (h : Tab w) {K : Nat → Prop} (hk : Keep K w w') (hK : K (Tryd.lays7n29_ren.g 1)) : Tab w' := fun j hj => by
  rw [hk.cell (p := ⟨_, j, none⟩) hK]; exact h j hj
theorem Tab.lt {w : World} (h : Tab w) : Tryd.lays7n29_ren.g 1 < w.heap.size := World.block_lt_of_cell? w _ (h 0 (by decide))
theorem Tab.below {w w' : World} (h : Tab w) {B : Nat} (hk : Below B w w') (hB : w.heap.size ≤ B) : Tab w' := h.keep (Keep.of_below hk) (Nat.lt_of_lt_of_le h.lt hB)

theorem zeroHash (w : World) : (zeroValue 23).run Tryd.prog w = .ok (.agg (Dig.Z32.map (Value.int .u8)).toArray) w := by kernel_rfl
theorem infoHash : (Tryd.prog.info? 23).map (·.size) = some 32 := by kernel_rfl

/-- What a look-up answers. -/
theorem look_whole {w : World} {mb n : Nat} {F : Int × Int → Option Value} (h : MF Tryd.prog 84 mk w mb n F) {a b : Int} (ok : okKey (a, b)) {v : Value} (hF : F (a, b) = some v) :
    (Instr.lookup 80 (.map (some mb)) (.agg #[.int .i64 a, .int .i64 b]) false).run Tryd.prog w = .ok v w := by
  obtain ⟨kl, hk⟩ := keyOf_mk (a, b) ok
  have := h.look keyed Tryd.underlying80 (zeroHash w) hk
  unfold mk at this
  rw [this, hF]
  rfl

set_option maxHeartbeats 800000 in
theorem new_any (w : World) : Calls Tryd.prog 19 #[] w fun e w' => ∃ O, e = .returned (.pointer (some ⟨w.heap.size + 1, 0, none⟩)) ∧ IsTree w' (w.heap.size + 1) O 0 [] ∧ Below w.heap.size w w' ∧ ∀ b, O b → w.heap.size ≤ b := by
  have hmm := @run_makeMap Tryd.prog
  go_enter Tryd.func19, Tryd.ntmps19
  go_wp2_with fail
  go_ret
  have hm : MF Tryd.prog 84 mk (w.alloc (.map #[] 0)) w.heap.size 0 (fun _ => none) := MF.made _ _ _ w
  have hs1 : (w.alloc (.map #[] 0)).heap.size = w.heap.size + 1 := by simp
  have hv := VBlk.mk (w.alloc (.map #[] 0)) [.int .i64 0, .map (some w.heap.size)] 82
  rw [hs1] at hv
  refine ⟨fun b => b = w.heap.size ∨ b = w.heap.size + 1, rfl, ⟨w.heap.size, hv, .inr rfl, .inl rfl, fun b hb => ?_, ?_, okh_nil⟩, ((Below.refl _ _).alloc (Nat.le_refl _) _).alloc (by simp) _, fun b hb => by omega⟩
  · simp; omega
  · exact (hm.alloc _).congr fun x => wholeF_nil x


end Mk
end Go.Proofs.YtlamdhekjlnccaaDoor

/- The tree of digests: half, root. -/
namespace Go.Proofs.YtlamdhekjlnccaaDoor
open Go.RowKit Go.Maps
namespace Mk

theorem bitLen_log2 {m : Nat} (h1 : 1 ≤ m) (h2 : m < 2 ^ 64) : Lib.bitLen m = Nat.log2 m + 1 := by
  obtain ⟨a, b, c⟩ := Lib.bitLenAux_bounds 64 m h2 (by omega)
  have e : Lib.bitLen m = Lib.bitLenAux 64 m := rfl
  rw [← e] at a b c
  have : Nat.log2 m = Lib.bitLen m - 1 := (Nat.log2_eq_iff (by omega)).2 ⟨b, by rw [Nat.sub_add_cancel a]; exact c⟩
  omega
theorem ctz_pow (j : Nat) (h : j < 64) : Lib.ctz 64 (2 ^ j) = j := by
  have key : ∀ i : Fin 64, Lib.ctz 64 (2 ^ i.val) = i.val := by decide +kernel
  exact key ⟨j, h⟩
theorem log2_small {n : Nat} (h1 : 2 ≤ n) (h2 : n ≤ 2 ^ 50) : Nat.log2 (n - 1) < 50 := (Nat.log2_lt (by omega)).2 (by omega)

set_option maxHeartbeats 400000 in
theorem half_any (n : Nat) (w : World) (h1 : 2 ≤ n) (h2 : n ≤ 2 ^ 50) : Calls Tryd.prog 61 #[.int .i64 (n : Nat)] w fun e w' => e = .returned (.int .i64 (half n : Nat)) ∧ w = w' := by
  have hL := log2_small h1 h2
  have hb := bitLen_log2 (m := n - 1) (by omega) (by omega)
  have hn : n ≤ 1125899906842624 := h2
  have hh : half n = 2 ^ Nat.log2 (n - 1) := rfl
  have hw : IntKind.u64.wrap ((n : Int) - 1) = (n : Int) - 1 := by rw [IntKind.wrap_u64]; omega
  have et : ((n : Int) - 1).toNat = n - 1 := by omega
  generalize half n = hf at hh ⊢
  generalize Nat.log2 (n - 1) = L at hL hb hh
  have hp : (2 : Nat) ^ L ≤ 2 ^ 49 := Nat.pow_le_pow_right (by decide) (by omega)
  have hp0 : 0 < (2 : Nat) ^ L := Nat.pow_pos (by decide)
  have hp1 : ((2 : Int) ^ L) = (hf : Int) := by rw [hh]; simp
  have hsh : IntKind.i64.wrap ((2 : Int) ^ L) = (hf : Int) := by rw [hp1]; exact IntWalk.i64_in _ (by omega)
  clear h2 hh hp hp0 hp1 et
  go_enter Tryd.func61, Tryd.ntmps61
  go_wp2_with fail
  refine (Tryd.bits_Len64 _ _ (by omega) (by omega)).mono ?_
  rintro e w' ⟨rfl, rfl⟩
  rw [show ((n : Int) - 1).toNat = n - 1 from by omega, hb]
  go_wp2_with fail
  go_ret
  exact ⟨rfl, rfl⟩

theorem bits_and_i64_nat (a b : Nat) (ha : a < 9223372036854775808) (hb : b < 9223372036854775808) :
    bits .and .i64 (a : Int) (b : Int) = ((a &&& b : Nat) : Int) := by
  have hx : a &&& b < 2 ^ 63 := Nat.and_lt_two_pow _ (by omega)
  have h1 : (BitVec.ofInt 64 (a : Int)).toNat = a := by
    rw [BitVec.ofInt_natCast, BitVec.toNat_ofNat]; exact Nat.mod_eq_of_lt (by omega)
  have h2 : (BitVec.ofInt 64 (b : Int)).toNat = b := by
    rw [BitVec.ofInt_natCast, BitVec.toNat_ofNat]; exact Nat.mod_eq_of_lt (by omega)
  show IntKind.i64.wrap ((BitVec.ofInt 64 (a : Int) &&& BitVec.ofInt 64 (b : Int)).toNat : Int) = _
  rw [BitVec.toNat_and, h1, h2]
  exact IntWalk.i64_in _ (by omega)
theorem and_pred_pow {n : Nat} (h : 1 ≤ n) (h2 : n < 2 ^ 62) : (bits BinOp.and IntKind.i64 (n : Int) ((n : Int) - 1) = 0) ↔ ∃ j, n = 2 ^ j := by
  have e : ((n : Int) - 1) = ((n - 1 : Nat) : Int) := by omega
  rw [e, bits_and_i64_nat n (n - 1) (by omega) (by omega)]
  have := @Nat.and_sub_one_eq_zero_iff_isPowerOfTwo n (by omega)
  constructor
  · intro h0
    have h3 : n &&& (n - 1) = 0 := by omega
    exact this.1 h3
  · intro h0
    have h3 := this.2 h0
    omega

set_option maxRecDepth 100000 in
set_option maxHeartbeats 2000000 in
theorem root_any : ∀ (n : Nat) {w : World} {t cnt f : Nat} {O : Nat → Prop} {l : List H}, IsTree w t O cnt l → Tab w → 1 ≤ n → f + n ≤ l.length → Al f n → l.length ≤ 1048576 →
    Calls Tryd.prog 44 #[.pointer (some ⟨t, 0, none⟩), .int .i64 (f : Nat), .int .i64 (n : Nat)] w fun e w' => e = .returned (hv (rt (seg l f n))) ∧ Below w.heap.size w w' := by
  intro n
  induction n using Nat.strongRecOn with
  | ind n ih =>
    intro w t cnt f O l h hT h1 hl ha hm
    have hz := zeroHash
    have hbel : Below w.heap.size w (w.alloc (.cells (Dig.Z32.map (Value.int .u8)).toArray 23)) := (Below.refl _ w).alloc (Nat.le_refl _) _
    have hR : VBlk 23 (w.alloc (.cells (Dig.Z32.map (Value.int .u8)).toArray 23)) w.heap.size (Dig.Z32.map (Value.int .u8)) := VBlk.mk w _ _
    have h0 := h.below hbel (Nat.le_refl _)
    have hT0 := hT.below hbel (Nat.le_refl _)
    have H0 := Hid2.mk h0
    have HT0 := Hid2.mk hT0
    have HR := Hid2.mk hR
    have HB := Hid2.mk hbel
    have hok := h.ok
    have Hrl := Hid2.mk (rt_len (okh_seg hok f n))
    have Hih := Hid2.mk ih
    have Hl := Hid2.mk hl
    have Ha := Hid2.mk ha
    clear h hT h0 hT0 hbel hR ih hl ha
    by_cases hp : ∃ j, n = 2 ^ j
    · obtain ⟨j, hj⟩ := hp
      have hb0 : bits BinOp.and IntKind.i64 (n : Int) ((n : Int) - 1) = 0 := (and_pred_pow h1 (by have := Hl.out; omega)).2 ⟨j, hj⟩
      have hn : n ≤ 1048576 := by have := Hl.out; omega
      have hf : f ≤ 1048576 := by have := Hl.out; omega
      have hj20 : j ≤ 20 := by
        rcases Nat.lt_or_ge 20 j with h | h
        · have := Nat.pow_le_pow_right (n := 2) (by decide) (show 21 ≤ j from h)
          rw [← hj] at this
          omega
        · exact h
      have hd := Ha.out
      rw [hj] at hd
      have hd2 := al_pow hd
      obtain ⟨p, hp⟩ := hd2
      have hw : IntKind.u64.wrap (n : Int) = n := by rw [IntKind.wrap_u64]; omega
      have hct := ctz_pow j (by omega)
      rw [← hj] at hct
      have hpj : 0 < 2 ^ j := Nat.pow_pos (by decide)
      have hpf : f / 2 ^ j = p := by rw [hp, Nat.mul_div_cancel_left _ hpj]
      have hple : p ≤ f := by rw [hp]; exact Nat.le_mul_of_pos_left _ hpj
      have hsh : (f : Int) / 2 ^ j = (p : Int) := by rw [← hpf]; simp
      have hwh := wholeF_at (node := nodeP) (none := noneP) (l := l) (j := j) (p := p) (by have := Hl.out; rw [Nat.add_mul, Nat.one_mul, Nat.mul_comm p, ← hp, ← hj]; exact this)
      rw [Nat.mul_comm p, ← hp, ← hj] at hwh
      obtain ⟨mb, hc, -, -, -, hM, -⟩ := H0.out
      have hlk : ∀ m, (Instr.lookup 80 (.map (some mb)) (.agg #[.int .i64 (j : Int), .int .i64 (p : Int)]) false).run Tryd.prog ((w.alloc (.cells (Dig.Z32.map (Value.int .u8)).toArray 23)).drewN m) = .ok (hv (root nodeP noneP (seg l f n))) ((w.alloc (.cells (Dig.Z32.map (Value.int .u8)).toArray 23)).drewN m) := fun m =>
        look_whole (hM.drewN m) ⟨wf_nat (by omega), wf_nat (by omega)⟩ hwh
      have c1 := hc.cell 1 (by simp)
      simp only [List.getD_cons_zero, List.getD_cons_succ] at c1
      have Hlk := Hid2.mk hlk
      clear hp hpf hd hwh hM hc hlk hpj hple hj
      go_enter Tryd.func44, Tryd.ntmps44
      go_wp2_with fail
      generalize World.alloc _ _ = w1 at H0 HT0 HR HB Hlk c1 ⊢
      refine (Tryd.bits_TrailingZeros64 n (by omega) _ (fun _ => HT0.out)).mono ?_
      rintro e w' ⟨rfl, rfl⟩
      rw [hct]
      go_wp2_with fail

      have hlk1 : (Instr.lookup 80 (.map (some mb)) (.agg #[.int .i64 (j : Int), .int .i64 (p : Int)]) false).run Tryd.prog w'.drew = .ok (hv (root nodeP noneP (seg l f n))) w'.drew := Hlk.out 1
      refine wp_region_still_tail 10 (by kernel_rfl) (by kernel_rfl) ?_
      simp only [List.take_succ_cons, List.take_zero, List.drop_succ_cons, List.drop_zero]
      repeat still_step
      try refine wpStill_nil ?_
      change wpList _ _ _ _ _ w'.drew
      have hlen : (root nodeP noneP (seg l f n)).length = 32 := Hrl.out
      obtain ⟨rr, hrr⟩ : ∃ rr, rr = root nodeP noneP (seg l f n) := ⟨_, rfl⟩
      have Hrr := Hid2.mk (show rt (seg l f n) = rr from hrr.symm)
      rw [← hrr] at hlen ⊢
      clear hrr hlk1 Hlk c1 Hrl hct
      have hi : (Tryd.prog.info? 23).map (·.size) = some (rr.map (Value.int .u8)).toArray.size := by rw [infoHash]; simp [hlen]
      have hone : (rr.map (Value.int .u8)).toArray.all (·.oneCell') = true := by simp [Value.oneCell']
      have HR4 := Hid2.mk (HR.out.drewN 1)
      have HB4 := Hid2.mk (belowN HB.out 1)
      refine wpList_store_row rfl 23 (.tmp 6) (.tmp 26) rfl w.heap.size (rr.map (Value.int .u8)).toArray rfl rfl 23 (Dig.Z32.map (Value.int .u8)).toArray HR4.out hi (by simp [hlen, Dig.Z32]) hone ?_
      go_wp2_with fail
      refine bodyPost_ret (results_cell_row rfl _ _ w.heap.size 23 (rr.map (Value.int .u8)).toArray (0, 0) _ rfl (setRow_heap _ _ _ _ _ _ HR4.out) Tryd.underlying23 rfl hi) rfl ⟨by rw [Hrr.out]; rfl, below_setRow HB4.out (Nat.le_refl _) _⟩
    · have hb0 : ¬ bits BinOp.and IntKind.i64 (n : Int) ((n : Int) - 1) = 0 := fun e => hp ((and_pred_pow h1 (by have := Hl.out; omega)).1 e)
      have h2 : 2 ≤ n := by
        rcases Nat.lt_or_ge n 2 with h | h
        · exact absurd ⟨0, by omega⟩ hp
        · exact h
      have hn : n ≤ 1048576 := by have := Hl.out; omega
      have hf : f ≤ 1048576 := by have := Hl.out; omega
      have hkl := half_lt h2
      have hkp := half_pos n
      clear hp
      go_enter Tryd.func44, Tryd.ntmps44
      go_wp2_with fail
      refine (half_any n _ h2 (by omega)).mono ?_
      rintro e w' ⟨rfl, rfl⟩
      generalize hk : half n = k at hkl hkp ⊢
      go_wp2_with fail
      generalize World.alloc _ _ = w1 at H0 HT0 HR HB ⊢
      refine (Hih.out k hkl H0.out HT0.out hkp (by have := Hl.out; omega) (by rw [← hk]; exact al_left Ha.out h2) hm).mono ?_
      rintro e w2 ⟨rfl, hb2⟩
      have Hb2 := Hid2.mk hb2
      clear hb2
      have hres : rt (seg l f n) = nodeP (rt (seg l f k)) (rt (seg l (f + k) (n - k))) := by
        have := root_seg (node := nodeP) (none := noneP) h2 Hl.out
        rw [hk] at this; exact this
      have hl1 := rt_len (okh_seg hok f k)
      have hl2 := rt_len (okh_seg hok (f + k) (n - k))
      have Hres := Hid2.mk hres
      have Hl1 := Hid2.mk hl1
      have Hl2 := Hid2.mk hl2
      have ha2 : Al (f + k) (n - k) := by rw [← hk]; exact al_right Ha.out h2
      have Ha2 := Hid2.mk ha2
      have H2 := Hid2.mk (H0.out.below Hb2.out (Nat.le_refl _))
      have HT2 := Hid2.mk (HT0.out.below Hb2.out (Nat.le_refl _))
      have HB2 := Hid2.mk (HB.out.trans (Hb2.out.mono HB.out.size))
      have HR2 := Hid2.mk (HR.out.below Hb2.out HR.out.lt)
      have hg : w.heap.size < w1.heap.size := HR.out.lt
      clear hres hl1 hl2 ha2 H0 HT0 HB HR
      generalize rt (seg l f k) = ra at Hres Hl1 ⊢
      go_wp2_with fail
      have e1 : (f : Int) + k = ((f + k : Nat) : Int) := by omega
      have e2 : (n : Int) - k = ((n - k : Nat) : Int) := by omega
      rw [e1, e2]
      refine (Hih.out (n - k) (by omega) H2.out HT2.out (by omega) (by have := Hl.out; omega) Ha2.out hm).mono ?_
      rintro e w3 ⟨rfl, hb3⟩
      generalize rt (seg l (f + k) (n - k)) = rb at Hres Hl2 ⊢
      have HB3 := Hid2.mk (HB2.out.trans (hb3.mono HB2.out.size))
      have HR3 := Hid2.mk (HR2.out.below hb3 HR2.out.lt)
      have hs3 : w2.heap.size ≤ w3.heap.size := hb3.size
      have hs2 : w1.heap.size ≤ w2.heap.size := Hb2.out.size
      clear hb3 H2 HT2 HB2 HR2 Hb2 e1 e2
      go_wp2_with fail
      refine (node_p _ Hl1.out Hl2.out).mono ?_
      rintro e w4 ⟨rfl, hb4⟩
      have HB4 := Hid2.mk (HB3.out.trans (hb4.mono HB3.out.size))
      have HR4 := Hid2.mk (HR3.out.below hb4 HR3.out.lt)
      have hlen := nodeP_len ra rb
      obtain ⟨rr, hrr⟩ : ∃ rr, rr = nodeP ra rb := ⟨_, rfl⟩
      have Hrr := Hid2.mk (show rt (seg l f n) = rr by rw [Hres.out, hrr])
      rw [← hrr] at hlen ⊢
      clear hb4 HB3 HR3 Hres Hrl hrr
      have hi : (Tryd.prog.info? 23).map (·.size) = some (rr.map (Value.int .u8)).toArray.size := by rw [infoHash]; simp [hlen]
      have hone : (rr.map (Value.int .u8)).toArray.all (·.oneCell') = true := by simp [Value.oneCell']
      go_wp2_with (refine wpList_store_row rfl 23 (.tmp 6) (.tmp 41) rfl w.heap.size (rr.map (Value.int .u8)).toArray rfl rfl 23 (Dig.Z32.map (Value.int .u8)).toArray HR4.out hi (by simp [hlen, Dig.Z32]) hone ?_)
      refine bodyPost_ret (results_cell_row rfl _ _ w.heap.size 23 (rr.map (Value.int .u8)).toArray (0, 0) _ rfl (setRow_heap _ _ _ _ _ _ HR4.out) Tryd.underlying23 rfl hi) rfl ⟨by rw [Hrr.out]; rfl, below_setRow HB4.out (Nat.le_refl _) _⟩

end Mk
end Go.Proofs.YtlamdhekjlnccaaDoor

/- The tree of digests: Root. -/
namespace Go.Proofs.YtlamdhekjlnccaaDoor
open Go.RowKit Go.Maps
namespace Mk

theorem builtHash : Tryd.prog.built 23 [] = some (Dig.Z32.map (Value.int .u8)).toArray := by kernel_rfl
def z32 : H := Dig.Z32
/-- What Root answers. -/
def rootV (l : List H) (size : Int) : H := if 0 ≤ size ∧ size ≤ l.length then rt (l.take size.toNat) else z32
def rootC (l : List H) (size : Int) : Int := if 0 ≤ size ∧ size ≤ l.length then 0 else 1
theorem rootV_len {l : List H} (h : Okh l) (size : Int) : (rootV l size).length = 32 := by
  unfold rootV
  split
  · exact rt_len (okh_take h _)
  · rfl

theorem new_hash (w : World) : Below w.heap.size w (w.alloc (.cells (Dig.Z32.map (Value.int .u8)).toArray 23)) ∧ VBlk 23 (w.alloc (.cells (Dig.Z32.map (Value.int .u8)).toArray 23)) w.heap.size (Dig.Z32.map (Value.int .u8)) :=
  ⟨(Below.refl _ w).alloc (Nat.le_refl _) _, VBlk.mk w _ _⟩

set_option maxRecDepth 100000 in
set_option maxHeartbeats 1000000 in
theorem rootTop_nil (size : Int) (w : World) : Calls Tryd.prog 22 #[.pointer none, .int .i64 size] w fun e w' => e = .returned (.tuple #[hv z32, .int .i64 1]) ∧ Below w.heap.size w w' := by
  have hz := zeroHash
  obtain ⟨hb, hR⟩ := new_hash w
  have HB := Hid2.mk hb
  have HR := Hid2.mk hR
  clear hb hR
  have hi : (Tryd.prog.info? 23).map (·.size) = some (Dig.Z32.map (Value.int .u8)).toArray.size := by rw [infoHash]; rfl
  go_enter Tryd.func22, Tryd.ntmps22
  go_wp2_with (first | (refine wpList_build_to rfl 23 #[] rfl (Dig.Z32.map (Value.int .u8)).toArray builtHash ?_) | (refine wpList_store_row rfl 23 (.tmp 4) (.tmp 21) rfl w.heap.size (Dig.Z32.map (Value.int .u8)).toArray rfl rfl 23 (Dig.Z32.map (Value.int .u8)).toArray HR.out hi rfl (by simp [Value.oneCell']) ?_))
  refine bodyPost_ret (results_cell_tmp rfl _ _ w.heap.size 23 (Dig.Z32.map (Value.int .u8)).toArray (0, 0) _ _ rfl (setRow_heap _ _ _ _ _ _ HR.out) Tryd.underlying23 rfl hi rfl) rfl ⟨rfl, below_setRow HB.out (Nat.le_refl _) _⟩

set_option maxRecDepth 100000 in
set_option maxHeartbeats 2000000 in
theorem rootTop_any {w : World} {t cnt : Nat} {O : Nat → Prop} {l : List H} (h : IsTree w t O cnt l) (hT : Tab w) (hm : l.length ≤ 1048576) (size : Int) :
    Calls Tryd.prog 22 #[.pointer (some ⟨t, 0, none⟩), .int .i64 size] w fun e w' => e = .returned (.tuple #[hv (rootV l size), .int .i64 (rootC l size)]) ∧ Below w.heap.size w w' := by
  have hz := zeroHash
  obtain ⟨hb, hR⟩ := new_hash w
  have h0 := h.below hb (Nat.le_refl _)
  have hT0 := hT.below hb (Nat.le_refl _)
  have hok := h.ok
  obtain ⟨mb, hc, -⟩ := h0
  have c0 := hc.cell 0 (by simp)
  simp only [List.getD_cons_zero] at c0
  have H0 := Hid2.mk (h.below hb (Nat.le_refl _))
  have HT0 := Hid2.mk hT0
  have HB := Hid2.mk hb
  have HR := Hid2.mk hR
  clear hb hR hT0 hT h hc
  have hi : (Tryd.prog.info? 23).map (·.size) = some (Dig.Z32.map (Value.int .u8)).toArray.size := by rw [infoHash]; rfl
  by_cases h1 : size < 0
  · have e1 : rootV l size = z32 := by unfold rootV; rw [if_neg (by omega)]
    have e2 : rootC l size = 1 := by unfold rootC; rw [if_neg (by omega)]
    rw [e1, e2]
    clear e1 e2
    go_enter Tryd.func22, Tryd.ntmps22
    go_wp2_with (first | (refine wpList_build_to rfl 23 #[] rfl (Dig.Z32.map (Value.int .u8)).toArray builtHash ?_) | (refine wpList_store_row rfl 23 (.tmp 4) (.tmp 21) rfl w.heap.size (Dig.Z32.map (Value.int .u8)).toArray rfl rfl 23 (Dig.Z32.map (Value.int .u8)).toArray HR.out hi rfl (by simp [Value.oneCell']) ?_))
    refine bodyPost_ret (results_cell_tmp rfl _ _ w.heap.size 23 (Dig.Z32.map (Value.int .u8)).toArray (0, 0) _ _ rfl (setRow_heap _ _ _ _ _ _ HR.out) Tryd.underlying23 rfl hi rfl) rfl ⟨rfl, below_setRow HB.out (Nat.le_refl _) _⟩
  · by_cases h2 : (l.length : Int) < size
    · have e1 : rootV l size = z32 := by unfold rootV; rw [if_neg (by omega)]
      have e2 : rootC l size = 1 := by unfold rootC; rw [if_neg (by omega)]
      rw [e1, e2]
      clear e1 e2
      go_enter Tryd.func22, Tryd.ntmps22
      go_wp2_with (first | (refine wpList_build_to rfl 23 #[] rfl (Dig.Z32.map (Value.int .u8)).toArray builtHash ?_) | (refine wpList_store_row rfl 23 (.tmp 4) (.tmp 21) rfl w.heap.size (Dig.Z32.map (Value.int .u8)).toArray rfl rfl 23 (Dig.Z32.map (Value.int .u8)).toArray HR.out hi rfl (by simp [Value.oneCell']) ?_))
      refine bodyPost_ret (results_cell_tmp rfl _ _ w.heap.size 23 (Dig.Z32.map (Value.int .u8)).toArray (0, 0) _ _ rfl (setRow_heap _ _ _ _ _ _ HR.out) Tryd.underlying23 rfl hi rfl) rfl ⟨rfl, below_setRow HB.out (Nat.le_refl _) _⟩
    · obtain ⟨n, rfl⟩ : ∃ n : Nat, size = n := ⟨size.toNat, by omega⟩
      have e1 : rootV l (n : Int) = rt (l.take n) := by unfold rootV; rw [if_pos (by omega)]; rfl
      have e2 : rootC l (n : Int) = 0 := by unfold rootC; rw [if_pos (by omega)]
      rw [e1, e2]
      have h3 : (n : Int) ≤ l.length := by omega
      have h4 : (0 : Int) ≤ n := by omega
      clear e1 e2 h1 h2
      by_cases hn : n = 0
      · subst hn
        go_enter Tryd.func22, Tryd.ntmps22
        go_wp2_with fail
        generalize World.alloc _ _ = w1 at HR HB ⊢
        refine (Dig.progSum_s _ [] _ (Sl.nil _ _) (by simp)).mono ?_
        rintro e w2 ⟨rfl, hb2⟩
        have HB2 := Hid2.mk (HB.out.trans (hb2.mono HB.out.size))
        have HR2 := Hid2.mk (HR.out.below hb2 HR.out.lt)
        have hlen := Dig.sumL_length []
        have hrr : rt (l.take 0) = Dig.sumL [] := by unfold rt; rw [List.take_zero, root_nil]; rfl
        have Hrr := Hid2.mk hrr
        clear hb2 hrr HB HR
        generalize Dig.sumL [] = rr at hlen Hrr ⊢
        have hi2 : (Tryd.prog.info? 23).map (·.size) = some (rr.map (Value.int .u8)).toArray.size := by rw [infoHash]; simp [hlen]
        have hone : (rr.map (Value.int .u8)).toArray.all (·.oneCell') = true := by simp [Value.oneCell']
        go_wp2_with (refine wpList_store_row rfl 23 (.tmp 4) (.tmp 25) rfl w.heap.size (rr.map (Value.int .u8)).toArray rfl rfl 23 (Dig.Z32.map (Value.int .u8)).toArray HR2.out hi2 (by simp [hlen, Dig.Z32]) hone ?_)
        refine bodyPost_ret (results_cell_tmp rfl _ _ w.heap.size 23 (rr.map (Value.int .u8)).toArray (0, 0) _ _ rfl (setRow_heap _ _ _ _ _ _ HR2.out) Tryd.underlying23 rfl hi2 rfl) rfl ⟨by rw [Hrr.out]; rfl, below_setRow HB2.out (Nat.le_refl _) _⟩
      · have hn2 : ((n : Int) == 0) = false := by simp; omega
        go_enter Tryd.func22, Tryd.ntmps22
        go_wp2_with fail
        generalize World.alloc _ _ = w1 at H0 HT0 HR HB ⊢
        refine (root_any n (f := 0) H0.out HT0.out (by omega) (by omega) (al_zero n) hm).mono ?_
        rintro e w2 ⟨rfl, hb2⟩
        have HB2 := Hid2.mk (HB.out.trans (hb2.mono HB.out.size))
        have HR2 := Hid2.mk (HR.out.below hb2 HR.out.lt)
        have hlen := rt_len (okh_seg hok 0 n)
        have hrr : rt (l.take n) = rt (seg l 0 n) := by unfold seg; rw [List.drop_zero]
        have Hrr := Hid2.mk hrr
        clear hb2 hrr HB HR H0 HT0 c0
        generalize rt (seg l 0 n) = rr at hlen Hrr ⊢
        have hi2 : (Tryd.prog.info? 23).map (·.size) = some (rr.map (Value.int .u8)).toArray.size := by rw [infoHash]; simp [hlen]
        have hone : (rr.map (Value.int .u8)).toArray.all (·.oneCell') = true := by simp [Value.oneCell']
        go_wp2_with (refine wpList_store_row rfl 23 (.tmp 4) (.tmp 28) rfl w.heap.size (rr.map (Value.int .u8)).toArray rfl rfl 23 (Dig.Z32.map (Value.int .u8)).toArray HR2.out hi2 (by simp [hlen, Dig.Z32]) hone ?_)
        refine bodyPost_ret (results_cell_tmp rfl _ _ w.heap.size 23 (rr.map (Value.int .u8)).toArray (0, 0) _ _ rfl (setRow_heap _ _ _ _ _ _ HR2.out) Tryd.underlying23 rfl hi2 rfl) rfl ⟨by rw [Hrr.out]; rfl, below_setRow HB2.out (Nat.le_refl _) _⟩

end Mk
end Go.Proofs.YtlamdhekjlnccaaDoor

/- The tree of digests: Add. -/
namespace Go.Proofs.YtlamdhekjlnccaaDoor
open Go.RowKit Go.Maps

/-- Many cells at once, read in a region that draws its order. -/
theorem wpStill_load_row {P : Program} {ops : Array Oper} {w : World} {Q : Act → Prop} {a : Act} {o : Oper} {rest : List Oper} (hgd : o.guard = none) (ty : TypeId) (x : Operand) (ho : o.op = .load ty x)
    (b off : Nat) (hx : a.eval x = .pointer (some ⟨b, off, none⟩)) (cs : List Value) (d : TypeDesc) (hc : w.rangeAt b off cs) (hu : P.underlying ty = some d) (hd : d.isRow = true) (hi : (P.info? ty).map (·.size) = some cs.length)
    (h : wpStill P ops w Q rest (a.put o.dst (.agg cs.toArray))) : wpStill P ops w Q (o :: rest) a := by
  unfold wpStill
  rw [if_pos (by simp [Region.wanted, hgd])]
  unfold Oper.still execOp
  simp only [ho, hx, Instr.loadAt, Instr.sureAddr, Sem.run_bind, Sem.run_pure, Result.andThen_ok, run_loadVar_mid w b off ty cs d hc hu hd hi]
  exact ⟨rfl, h⟩
theorem range_vblk {T : TypeId} {w : World} {b : Nat} {l : List Value} (h : VBlk T w b l) : w.rangeAt b 0 l := fun j v hv => by
  have hj : j < l.length := by
    rcases Nat.lt_or_ge j l.length with h | h
    · exact h
    · simp [h] at hv
  rw [Nat.zero_add, h.cell j hj]
  simp [hj] at hv ⊢
  exact hv

namespace Mk

theorem odd_bit (p : Nat) (h : p < 1000000000) : bits BinOp.and IntKind.i64 (p : Int) 1 = ((p % 2 : Nat) : Int) := by
  have := bits_and_i64_nat p 1 (by omega) (by omega)
  rw [Nat.and_one_is_mod] at this
  exact this

/-- A store into the tree's map. -/
theorem put_whole {w : World} {mb n : Nat} {F : Int × Int → Option Value} (h : MF Tryd.prog 84 mk w mb n F) (hn : n < 1000000000) {a b : Int} (ok : okKey (a, b)) (v : Value) :
    ∃ w', (Instr.mapUpdate 80 (.map (some mb)) (.agg #[.int .i64 a, .int .i64 b]) v).run Tryd.prog w.drew = .ok () w' ∧ MF Tryd.prog 84 mk w' mb (n + 1) (mfPut F (a, b) v) ∧ Keep (fun x => x ≠ mb) w w' := by
  obtain ⟨kl, hk⟩ := keyOf_mk (a, b) ok
  obtain ⟨w', h1, h2, h3⟩ := MF.put mk_inj (w := w.drew) (h.drewN 1) keyed Tryd.underlying80 (by unfold maxLen; omega) v hk
  exact ⟨w', h1, h2, ((Keep.refl _ w).drewN 1).trans h3⟩

/-- What Add's loop keeps. -/
def AddRel (w : World) (t mb g cnt : Nat) (O : Nat → Prop) (l : List H) (h : H) (lv pl : Value) (wr : World) : Prop :=
  ∃ j p : Nat, lv = .int .i64 (j : Nat) ∧ pl = .int .i64 (p : Nat) ∧ (p + 1) * 2 ^ j = l.length + 1 ∧ VBlk 82 wr t [.int .i64 (l.length + 1 : Nat), .map (some mb)] ∧
    MF Tryd.prog 84 mk wr mb (cnt + 1 + j) (stepF nodeP noneP l h j) ∧ VBlk 23 wr g ((rt (seg (l ++ [h]) (p * 2 ^ j) (2 ^ j))).map (Value.int .u8)) ∧ Keep (fun b => b < w.heap.size ∧ ¬ O b) w wr

set_option maxRecDepth 100000 in
set_option maxHeartbeats 4000000 in
theorem add_any {w : World} {t cnt : Nat} {O : Nat → Prop} {l : List H} {h : H} (hI : IsTree w t O cnt l) (hh : h.length = 32) (hm : l.length ≤ 1000000) (hcnt : cnt ≤ 900000000) :
    Calls Tryd.prog 21 #[.pointer (some ⟨t, 0, none⟩), .agg (h.map (Value.int .u8)).toArray] w fun e w' => e = .returned (.int .i64 (l.length : Nat)) ∧ IsTree w' t O (cnt + 22) (l ++ [h]) ∧ Keep (fun b => b < w.heap.size ∧ ¬ O b) w w' := by
  have hb : Below w.heap.size w (w.alloc (.cells (h.map (Value.int .u8)).toArray 23)) := (Below.refl _ w).alloc (Nat.le_refl _) _
  have hR : VBlk 23 (w.alloc (.cells (h.map (Value.int .u8)).toArray 23)) w.heap.size (h.map (Value.int .u8)) := VBlk.mk w _ _
  have h0 := hI.below hb (Nat.le_refl _)
  have hok := hI.ok
  have HI := Hid2.mk hI
  obtain ⟨mb, hc, hOt, hOm, hO, hM, -⟩ := h0
  have c0 := hc.cell 0 (by simp)
  have c1 := hc.cell 1 (by simp)
  simp only [List.getD_cons_zero, List.getD_cons_succ] at c0 c1
  have f0 := hc.free 0
  have htm : mb ≠ t := by
    obtain ⟨D, ⟨es, clock, h1, -⟩, -⟩ := hM
    intro e; subst e; unfold VBlk at hc; rw [h1] at hc; cases hc
  have hgt : w.heap.size ≠ t := by have := hI.lt t hI.own; omega
  have hgm : w.heap.size ≠ mb := by have := hI.lt mb hOm; omega
  have hOt' : O t := hOt
  have Hc := Hid2.mk hc
  have HM := Hid2.mk hM
  have HB := Hid2.mk hb
  have HR := Hid2.mk hR
  have hlw : decide ((1048576 : Int) ≤ (l.length : Int)) = false := decide_eq_false (by omega)
  have qm : ∀ (w : World) r, (binOp .eql 80 (.map (some r)) (.map none)).run Tryd.prog w = .ok (.bool false) w := fun w r => run_eql_map_nil w _ _ _ (some r) Tryd.underlying80
  have hw1 : IntKind.i64.wrap ((l.length : Int) + 1) = (l.length : Int) + 1 := IntWalk.i64_in _ (by omega)
  have Hm := Hid2.mk hm
  have Hh := Hid2.mk hh
  clear hc hM hb hR hI hm hh
  go_enter Tryd.func21, Tryd.ntmps21
  go_wp2_with fail
  -- the world behind the count
  have Hc2 := Hid2.mk (Hc.out.set 0 (.int .i64 ((l.length : Int) + 1)))
  have HM2 := Hid2.mk (HM.out.other ⟨t, 0, none⟩ (.int .i64 ((l.length : Int) + 1)) htm)
  have HR2 := Hid2.mk (HR.out.other ⟨t, 0, none⟩ (.int .i64 ((l.length : Int) + 1)) hgt)
  have HK2 := Hid2.mk (show Keep (fun b => b < w.heap.size ∧ ¬ O b) w ((w.alloc (.cells (h.map (Value.int .u8)).toArray 23)).setCell ⟨t, 0, none⟩ (.int .i64 ((l.length : Int) + 1))) from ((Keep.of_below HB.out).mono fun b hb => hb.1).setCell (fun hb => hb.2 hOt) _)
  generalize World.setCell _ _ _ = w2 at Hc2 HM2 HR2 HK2 ⊢
  clear Hc HM HR HB c0 c1 f0 hlw
  obtain ⟨w3, hrun, hm3, hk3⟩ := put_whole HM2.out (by omega) (a := 0) (b := (l.length : Int)) ⟨(by decide : (Lit.int .i64 0).wf = true), wf_nat (by have := Hm.out; omega)⟩ (hv h)
  have Hrun := Hid2.mk hrun
  have HM3 := Hid2.mk hm3
  have Hk3 := Hid2.mk hk3
  clear hrun hm3 hk3
  have d1 := Hc2.out.cell 1 (by simp)
  simp only [List.set_cons_zero, List.getD_cons_zero, List.getD_cons_succ] at d1
  have hiH : (Tryd.prog.info? 23).map (·.size) = some (h.map (Value.int .u8)).length := by rw [infoHash, List.length_map, Hh.out]
  have HiH := Hid2.mk hiH
  clear hiH
  refine wp_region_still_tail 7 (by kernel_rfl) (by kernel_rfl) ?_
  simp only [List.take_succ_cons, List.take_zero, List.drop_succ_cons, List.drop_zero]
  repeat (first | still_step | (refine wpStill_load_row rfl 23 (.tmp 3) rfl w.heap.size 0 rfl (h.map (Value.int .u8)) _ (range_vblk (HR2.out.drewN 1)) Tryd.underlying23 rfl HiH.out ?_))
  try refine wpStill_nil ?_
  change wpList _ _ _ _ _ w2.drew
  have hrun := Hrun.out
  unfold hv at hrun
  go_wp2_with fail
  clear hrun Hrun d1
  have hr0 : AddRel w t mb w.heap.size cnt O l h (.int .i64 0) (.int .i64 (l.length : Nat)) w3 := by
    refine ⟨0, l.length, rfl, rfl, by simp, ?_, ?_, ?_, HK2.out.trans (Hk3.out.mono fun b hb e => hb.2 (e ▸ hOm))⟩
    · exact (Hc2.out.keep Hk3.out (Ne.symm htm))
    · exact HM3.out.congr fun x => (stepF_zero x).symm
    · have e : rt (seg (l ++ [h]) (l.length * 2 ^ 0) (2 ^ 0)) = h := by
        have e1 : l.length * 2 ^ 0 = l.length := by simp
        have e2 : 2 ^ 0 = 1 := rfl
        rw [e1, e2]
        unfold rt
        rw [root_seg1 (by simp)]
        simp
      rw [e]
      exact HR2.out.keep Hk3.out hgm
  have Hr0 := Hid2.mk hr0
  clear hr0 HM3 Hk3 Hc2 HM2 HR2 HK2
  go_loopw [6, 7] (fun lv pl wr => AddRel w t mb w.heap.size cnt O l h lv pl wr) (fun _ pl _ => (intOf pl).toNat)
  case atStart => exact Hr0.out
  case round =>
    obtain ⟨j, p, rfl, rfl, hp, hc, hM, hR, hK⟩ := hrel
    have hpj : 0 < 2 ^ j := Nat.pow_pos (by decide)
    have hp1 : p + 1 ≤ l.length + 1 := by rw [← hp]; exact Nat.le_mul_of_pos_right _ hpj
    have hj1 : 2 ^ j ≤ l.length + 1 := by rw [← hp]; exact Nat.le_mul_of_pos_left _ (by omega)
    have hml := Hm.out
    have hj20 : j ≤ 20 := by
      rcases Nat.lt_or_ge 20 j with h | h
      · have := Nat.pow_le_pow_right (n := 2) (by decide) (show 21 ≤ j from h)
        omega
      · exact h
    have hob := odd_bit p (by omega)
    have hsz := hK.size
    have Hp := Hid2.mk hp
    have Hc := Hid2.mk hc
    have HM := Hid2.mk hM
    have HR := Hid2.mk hR
    have HK := Hid2.mk hK
    have d1 := hc.cell 1 (by simp)
    simp only [List.getD_cons_zero, List.getD_cons_succ] at d1
    have hpb : p ≤ 1000000 := by omega
    clear hp hc hM hR hK hpj hj1 hp1 hml
    rcases Nat.mod_two_eq_zero_or_one p with hmod | hmod
    · rw [hmod] at hob
      have hob2 : bits BinOp.and IntKind.i64 (p : Int) 1 = 0 := hob
      clear hob d1
      go_wp2_with fail
      go_ret
      refine ⟨rfl, ⟨mb, ?_, hOt', hOm, fun b hb => Nat.lt_of_lt_of_le (HI.out.lt b hb) HK.out.size, (HM.out.congr fun x => (stepF_done (p := p / 2) ?_ x).symm).mono (by omega), okh_app hok (okh_one Hh.out)⟩, HK.out⟩
      · have := Hc.out
        simpa using this
      · rw [← Hp.out]; congr 1; omega
    · rw [hmod] at hob
      have hob2 : bits BinOp.and IntKind.i64 (p : Int) 1 = 1 := hob
      obtain ⟨q, rfl⟩ : ∃ q, p = 2 * q + 1 := ⟨p / 2, by omega⟩
      have hL : (2 * q + 1) * 2 ^ j ≤ (l ++ [h]).length := by
        rw [List.length_append]
        have := Hp.out
        have h2 : (2 * q + 1 + 1) * 2 ^ j = (2 * q + 1) * 2 ^ j + 2 ^ j := by rw [Nat.add_mul (2 * q + 1) 1, Nat.one_mul]
        simp only [List.length_cons, List.length_nil]
        generalize (2 * q + 1 + 1) * 2 ^ j = C at this h2
        generalize (2 * q + 1) * 2 ^ j = B at h2 ⊢
        generalize 2 ^ j = D at h2
        omega
      have hF : stepF nodeP noneP l h j ((j : Int), ((2 * q + 1 : Nat) : Int) - 1) = some (hv (rt (seg (l ++ [h]) (2 * q * 2 ^ j) (2 ^ j)))) := by
        have e : ((2 * q + 1 : Nat) : Int) - 1 = ((2 * q : Nat) : Int) := by omega
        rw [e]
        unfold stepF
        rw [if_pos (by simp)]
        exact wholeF_at hL
      have hnode : rt (seg (l ++ [h]) (q * 2 ^ (j + 1)) (2 ^ (j + 1))) = nodeP (rt (seg (l ++ [h]) (2 * q * 2 ^ j) (2 ^ j))) (rt (seg (l ++ [h]) ((2 * q + 1) * 2 ^ j) (2 ^ j))) := by
        have e1 : q * 2 ^ (j + 1) = 2 * q * 2 ^ j := by rw [Nat.pow_succ, Nat.mul_comm (2 ^ j) 2, ← Nat.mul_assoc, Nat.mul_comm q 2]
        have e2 : 2 * q * 2 ^ j + 2 ^ j = (2 * q + 1) * 2 ^ j := by rw [Nat.add_mul (2 * q) 1, Nat.one_mul]
        have e3 : 2 * q * 2 ^ j + 2 ^ (j + 1) ≤ (l ++ [h]).length := by
          have := Hp.out
          have h2 : (2 * q + 1 + 1) * 2 ^ j = (2 * q + 1) * 2 ^ j + 2 ^ j := by rw [Nat.add_mul (2 * q + 1) 1, Nat.one_mul]
          rw [List.length_append, Nat.pow_succ]
          simp only [List.length_cons, List.length_nil]
          generalize (2 * q + 1 + 1) * 2 ^ j = C at this h2
          generalize (2 * q + 1) * 2 ^ j = B at e2 h2
          generalize 2 * q * 2 ^ j = A at e2 ⊢
          omega
        rw [e1]
        unfold rt
        rw [root_double e3, e2]
      have hkk : okKey ((j : Int), ((2 * q + 1 : Nat) : Int) - 1) := ⟨wf_nat (by omega), by
        have e : ((2 * q + 1 : Nat) : Int) - 1 = ((2 * q : Nat) : Int) := by omega
        show (Lit.int .i64 (((2 * q + 1 : Nat) : Int) - 1)).wf = true
        rw [e]; exact wf_nat (by omega)⟩
      have hokL : Okh (l ++ [h]) := okh_app hok (okh_one Hh.out)
      have hla := rt_len (okh_seg hokL (2 * q * 2 ^ j) (2 ^ j))
      have hlb := rt_len (okh_seg hokL ((2 * q + 1) * 2 ^ j) (2 ^ j))
      have Hnode := Hid2.mk hnode
      have hR' := HR.out
      generalize rt (seg (l ++ [h]) (2 * q * 2 ^ j) (2 ^ j)) = ra at hla hF Hnode
      generalize rt (seg (l ++ [h]) ((2 * q + 1) * 2 ^ j) (2 ^ j)) = rb at hlb hR' Hnode
      have HR' := Hid2.mk hR'
      have hlk := look_whole (HM.out.drewN 1) hkk hF
      have Hlk : Hid2 ((Instr.lookup 80 (.map (some mb)) (.agg #[.int .i64 (j : Int), .int .i64 (((2 * q + 1 : Nat) : Int) - 1)]) false).run Tryd.prog wr.drew = .ok (hv ra) wr.drew) := Hid2.mk hlk
      have Hla := Hid2.mk hla
      have Hlb := Hid2.mk hlb
      have hs2 : ((2 * q + 1 : Nat) : Int) / 2 = (q : Int) := by omega
      have hib : (Tryd.prog.info? 23).map (·.size) = some (rb.map (Value.int .u8)).length := by rw [infoHash, List.length_map, hlb]
      have Hib := Hid2.mk hib
      have Hs2 := Hid2.mk hs2
      have Hqb := Hid2.mk hpb
      clear hob hR' hF hnode hkk hla hlb hlk hL HR hib hmod hs2 hpb
      generalize hpp : 2 * q + 1 = p at hob2 Hlk Hs2 Hp Hqb ⊢
      have hpb : p ≤ 1000000 := Hqb.out
      have hp0 : 1 ≤ p := by omega
      have Hpp := Hid2.mk hpp
      have hwp : IntKind.i64.wrap ((p : Int) - 1) = (p : Int) - 1 := IntWalk.i64_in _ (by omega)
      have hwj : IntKind.i64.wrap ((j : Int) + 1) = (j : Int) + 1 := IntWalk.i64_in _ (by omega)
      clear hpp
      go_wp2_with fail
      have hlk := Hlk.out
      refine wp_region_still_tail 10 (by kernel_rfl) (by kernel_rfl) ?_
      simp only [List.take_succ_cons, List.take_zero, List.drop_succ_cons, List.drop_zero]
      repeat (first | still_step | (refine wpStill_load_row rfl 23 (.tmp 3) rfl w.heap.size 0 rfl (rb.map (Value.int .u8)) _ (range_vblk (HR'.out.drewN 1)) Tryd.underlying23 rfl Hib.out ?_))
      try refine wpStill_nil ?_
      change wpList _ _ _ _ _ wr.drew
      clear hlk Hlk
      have hlen := nodeP_len ra rb
      go_wp2_with fail
      refine (Dig.node_any _ _ _ Hla.out Hlb.out).mono ?_
      rintro e w4 ⟨rfl, hb4⟩
      obtain ⟨rr, hrr⟩ : ∃ rr, rr = nodeP ra rb := ⟨_, rfl⟩
      have hrr2 : Dig.sumL (1 :: (ra ++ rb)) = rr := hrr.symm
      rw [hrr2]
      rw [← hrr] at hlen
      have Hrr := Hid2.mk (show rt (seg (l ++ [h]) (q * 2 ^ (j + 1)) (2 ^ (j + 1))) = rr by rw [Hnode.out, hrr])
      have hb4' : Below wr.heap.size wr w4 := (belowN (Below.refl wr.heap.size wr) 1).trans hb4
      have Hc4 := Hid2.mk (Hc.out.below hb4' (Hc.out.lt))
      have HM4 := Hid2.mk (HM.out.below hb4' (HM.out.lt))
      have HR4 := Hid2.mk (HR'.out.below hb4' (HR'.out.lt))
      have HK4 := Hid2.mk (HK.out.trans ((Keep.of_below hb4').mono fun b hb => (Nat.lt_of_lt_of_le hb.1 hsz : b < wr.heap.size)))
      clear hb4 hb4' hrr hrr2 Hnode d1
      have hi : (Tryd.prog.info? 23).map (·.size) = some (rr.map (Value.int .u8)).toArray.size := by rw [infoHash]; simp [hlen]
      have hone : (rr.map (Value.int .u8)).toArray.all (·.oneCell') = true := by simp [Value.oneCell']
      have hrb := Hlb.out
      go_wp2_with (refine wpList_store_row rfl 23 (.tmp 3) (.tmp 62) rfl w.heap.size (rr.map (Value.int .u8)).toArray rfl rfl 23 (rb.map (Value.int .u8)).toArray HR4.out hi (by simp [hlen, hrb]) hone ?_)
      have Hc5 := Hid2.mk (Hc4.out.setRow_other (g := w.heap.size) (rr.map (Value.int .u8)).toArray (Ne.symm hgt))
      have HM5 := Hid2.mk (HM4.out.setRow_other (g := w.heap.size) (rr.map (Value.int .u8)).toArray (Ne.symm hgm))
      have HR5 := Hid2.mk (HR4.out.setRow (rr.map (Value.int .u8)))
      have HK5 := Hid2.mk (HK4.out.trans (show Keep (fun b => b < w.heap.size ∧ ¬ O b) w4 (w4.setRow w.heap.size (rr.map (Value.int .u8)).toArray) from ⟨rfl, rfl, rfl, by simp, fun k hk => Go.setRow_other w4 w.heap.size k _ (by omega)⟩))
      generalize World.setRow w4 _ _ = w5 at Hc5 HM5 HR5 HK5 ⊢
      obtain ⟨w6, hrun, hm6, hk6⟩ := put_whole HM5.out (by omega) (a := (j : Int) + 1) (b := (q : Int)) ⟨(by have := wf_nat (k := j + 1) (by omega); exact this), wf_nat (by have := Hpp.out; omega)⟩ (hv rr)
      have Hrun := Hid2.mk hrun
      have HM6 := Hid2.mk hm6
      have Hk6 := Hid2.mk hk6
      have hir : (Tryd.prog.info? 23).map (·.size) = some (rr.map (Value.int .u8)).length := by rw [infoHash, List.length_map, hlen]
      have Hir := Hid2.mk hir
      have d1 := Hc5.out.cell 1 (by simp)
      simp only [List.getD_cons_zero, List.getD_cons_succ] at d1
      have hs2 := Hs2.out
      clear hrun hm6 hk6 hir hi hone hrb hlen Hc4 HM4 HR4 HK4
      refine wp_region_still_tail 10 (by kernel_rfl) (by kernel_rfl) ?_
      simp only [List.take_succ_cons, List.take_zero, List.drop_succ_cons, List.drop_zero]
      repeat (first | still_step | (refine wpStill_load_row rfl 23 (.tmp 3) rfl w.heap.size 0 rfl (rr.map (Value.int .u8)) _ (range_vblk (HR5.out.drewN 1)) Tryd.underlying23 rfl Hir.out ?_))
      try refine wpStill_nil ?_
      change wpList _ _ _ _ _ w5.drew
      have hrun := Hrun.out
      unfold hv at hrun
      go_wp2_with fail
      clear hrun Hrun
      go_roundw
      case rel =>
        refine ⟨j + 1, q, by go_num, rfl, ?_, Hc5.out.keep Hk6.out (Ne.symm htm), ?_, ?_, HK5.out.trans (Hk6.out.mono fun b hb e => hb.2 (e ▸ hOm))⟩
        · have := Hp.out
          rw [← Hpp.out] at this
          rw [← this, Nat.pow_succ, Nat.mul_comm (2 ^ j) 2, ← Nat.mul_assoc]
          congr 1; omega
        · refine HM6.out.congr fun x => ?_
          have e := stepF_succ (node := nodeP) (none := noneP) (l := l) (h := h) (j := j) (p := q) (by rw [Hpp.out]; exact Hp.out) x
          have e2 : root nodeP noneP (seg (l ++ [h]) (q * 2 ^ (j + 1)) (2 ^ (j + 1))) = rr := Hrr.out
          rw [e2] at e
          exact e.symm
        · rw [Hrr.out]; exact HR5.out.keep Hk6.out hgm
      case measure => simp [intOf]; omega

end Mk
end Go.Proofs.YtlamdhekjlnccaaDoor

/- Blocks (chapter 11): EntryHash, Head, Join, Hash. -/
namespace Go.Proofs.YtlamdhekjlnccaaDoor
open Go.RowKit
namespace K
/-- An entry's digest. -/
def leafH (e : En) : List Int := Dig.sumL (0 :: layE e)
theorem leafH_len (e : En) : (leafH e).length = 32 := Dig.sumL_length _
/-- What EntryHash tells. -/
noncomputable def entV (e : En) : List Int := if chkE e ≠ 0 then Dig.Z32 else leafH e
theorem entV_len (e : En) : (entV e).length = 32 := by unfold entV; split; rfl; exact leafH_len e
def headH (b : Bk) : List Int := Dig.sumL (headL b)
def rootH (b : Bk) : List Int := Mk.rt (b.ents.map leafH)
def joinP (x y : List Int) : List Int := Dig.sumL (1 :: (x ++ y))
/-- A block's digest. -/
def hashH (b : Bk) : List Int := joinP (headH b) (chainP (rootH b) (uvB b.ents.length))
/-- What Hash tells. -/
noncomputable def hashBV (b : Bk) : List Int := if chkB b ≠ 0 then Dig.Z32 else hashH b
theorem hashH_len (b : Bk) : (hashH b).length = 32 := by unfold hashH joinP; exact Dig.sumL_length _
theorem hashBV_len (b : Bk) : (hashBV b).length = 32 := by
  unfold hashBV
  split
  · rfl
  · exact hashH_len b
theorem okh_leaves (es : List En) : Mk.Okh (es.map leafH) := fun x hx => by
  obtain ⟨e, -, rfl⟩ := List.mem_map.1 hx
  exact leafH_len e
theorem entryHash_any {f : Nat} {w : World} {e : En} {cs : List Value} (h : IsE f w e cs) (hlen : chk 16 e.data = 0 → (encV 16 e.data).length ≤ 70368744177664) :
    Calls Tryd.prog 20 #[.agg cs.toArray] w fun r w' => r = .returned (.tuple #[.agg (hashC (entV e)).toArray, .int .i64 (chkE e)]) ∧ Below w.heap.size w w' := by
  have h46 := h.len
  refine enter (args := [.agg cs.toArray]) Tryd.func20 rfl Tryd.ntmps20 rfl ?_
  refine kgo ?_
  refine WL.box rfl rfl rfl rfl rfl fun g w1 hf => ?_
  have hf' : Fresh w g w1 52 cs := hf
  clear hf
  refine WL.alloc (z := .agg (hashC Dig.Z32).toArray) rfl rfl rfl rfl (Dig.zero25) fun c w2 hf2 => ?_
  have hf2' : Fresh w1 c w2 23 (hashC Dig.Z32) := hf2
  clear hf2
  have he1 := hf'.eq
  have he2 := hf2'.eq
  have hz1 := hf'.size
  have hz2 := hf2'.size
  have hw2 : Below w.heap.size w w2 := hf'.below.trans (hf2'.below.mono hf'.below.size)
  have A2 := hf'.blk.below hf2'.below hf'.blk.lt
  have C2 := hf2'.blk
  clear hf' hf2'
  refine kgo ?_
  refine WL.loadMid rfl rfl rfl rfl rfl rfl (VBlk.rangeAt A2) h46 ?_
  refine WL.call rfl rfl rfl rfl rfl Tryd.func41 rfl (by kernel_rfl) (checkEntry_any (IsE.below hw2 h) hlen) ?_
  rintro _ w3 ⟨rfl, hk3⟩
  refine ⟨_, rfl, ?_⟩
  have hw3 := hw2.trans (hk3.mono hw2.size)
  have A3 := A2.below hk3 A2.lt
  have C3 := C2.below hk3 C2.lt
  by_cases hc : chkE e = 0
  rotate_left
  · have hv : entV e = Dig.Z32 := by unfold entV; rw [if_pos hc]
    refine kgo ?_
    refine WL.build (hashC Dig.Z32) rfl rfl rfl rfl rfl (by kernel_rfl) ?_
    refine kgo ?_
    refine WL.storeRow rfl rfl rfl rfl rfl rfl C3 (by rfl) (by rfl) (Ones.int _ _) ?_
    refine kgo ?_
    exact WQ.retCT rfl rfl rfl rfl (by rfl) (C3.setRow _) ⟨by rw [hv], Keep.below (Keep.setRow (Keep.of_below hw3) (fun hk => by omega) _)⟩
  · have hv : entV e = leafH e := by unfold entV; rw [if_neg (by simpa using hc)]
    obtain ⟨hform, -⟩ := chkE_ok hc
    obtain ⟨hkd, -, -, -, htx, -⟩ := formE_rng hform
    have hh : e.hash.length = 32 := by obtain ⟨_, -, -, -, -, hl, -⟩ := h; exact hl
    have hle := layE_len e hh
    refine kgo ?_
    refine WL.loadMid rfl rfl rfl rfl rfl rfl (VBlk.rangeAt A3) h46 ?_
    refine WL.call rfl rfl rfl rfl rfl Tryd.func43 rfl (by kernel_rfl) (layEntry_any h hkd (Bu.nil w3) (by simp only [List.length_nil]; omega)) ?_
    rintro _ w4 ⟨b4, rfl, hb4, hg4⟩
    refine ⟨_, rfl, ?_⟩
    rw [List.nil_append] at hb4
    have hk4 : Below w3.heap.size w3 w4 := hg4.old (Nat.le_refl _) (fun g h => by cases h)
    refine WL.call rfl rfl rfl rfl rfl Tryd.func42 rfl (by kernel_rfl) (leaf_any hb4.sl (by omega)) ?_
    rintro _ w5 ⟨rfl, hk5⟩
    refine ⟨_, rfl, ?_⟩
    have hk35 : Below w3.heap.size w3 w5 := hk4.trans (hk5.mono hk4.size)
    have C5 := C3.below hk35 C3.lt
    have hlen2 : (hashC (leafH e)).length = 32 := by rw [List.length_map]; exact leafH_len e
    refine WL.storeRow rfl rfl rfl rfl rfl rfl C5 hlen2 (by rfl) (Ones.int _ _) ?_
    refine kgo ?_
    exact WQ.retCT rfl rfl rfl rfl hlen2 (C5.setRow _) ⟨by rw [hv, hc], Keep.below (Keep.setRow (Keep.of_below (hw3.trans (hk35.mono hw3.size))) (fun hk => by omega) _)⟩
theorem headTop_any {f : Nat} {w : World} {b : Bk} {cs : List Value} (h : IsB f w b cs) :
    Calls Tryd.prog 12 #[.agg cs.toArray] w fun r w' => r = .returned (.agg (hashC (headH b)).toArray) ∧ Below w.heap.size w w' := by
  have h36 := h.len
  have hpl : b.prev.length = 32 := by obtain ⟨_, -, -, hp, -⟩ := h; exact hp
  refine enter (args := [.agg cs.toArray]) Tryd.func12 rfl Tryd.ntmps12 rfl ?_
  refine kgo ?_
  refine WL.box rfl rfl rfl rfl rfl fun g w1 hf => ?_
  have hf' : Fresh w g w1 26 cs := hf
  clear hf
  refine WL.alloc (z := .agg (hashC Dig.Z32).toArray) rfl rfl rfl rfl (Dig.zero25) fun c w2 hf2 => ?_
  have hf2' : Fresh w1 c w2 23 (hashC Dig.Z32) := hf2
  clear hf2
  have he1 := hf'.eq
  have he2 := hf2'.eq
  have hz1 := hf'.size
  have hz2 := hf2'.size
  have hw2 : Below w.heap.size w w2 := hf'.below.trans (hf2'.below.mono hf'.below.size)
  have A2 := hf'.blk.below hf2'.below hf'.blk.lt
  have C2 := hf2'.blk
  clear hf' hf2'
  refine kgo ?_
  refine WL.loadMid rfl rfl rfl rfl rfl rfl (VBlk.rangeAt A2) h36 ?_
  refine WL.call rfl rfl rfl rfl rfl Tryd.func33 rfl (by kernel_rfl) (head_any (IsB.below hw2 h)) ?_
  rintro _ w3 ⟨b3, rfl, hb3, hk3, -⟩
  refine ⟨_, rfl, ?_⟩
  have hhl : (headL b).length ≤ 70 := by
    have h1 := uvB_len b.index.toNat
    have h2 := uvB_len b.time.toNat
    have h3 := uvB_len b.txn.toNat
    unfold headL; simp only [List.length_append]; omega
  refine WL.call rfl rfl rfl rfl rfl Tryd.func32 rfl (by kernel_rfl) (Dig.progSum_s b3 _ w3 hb3.sl (by omega)) ?_
  rintro _ w4 ⟨rfl, hk4⟩
  refine ⟨_, rfl, ?_⟩
  have hk24 : Below w2.heap.size w2 w4 := hk3.trans (hk4.mono hk3.size)
  have C4 := C2.below hk24 C2.lt
  have hlen : (hashC (Dig.sumL (headL b))).length = 32 := by rw [List.length_map]; exact Dig.sumL_length _
  refine WL.storeRow rfl rfl rfl rfl rfl rfl C4 hlen (by rfl) (Ones.int _ _) ?_
  refine kgo ?_
  exact WQ.retC rfl rfl rfl hlen (C4.setRow _) ⟨rfl, Keep.below (Keep.setRow (Keep.of_below (hw2.trans (hk24.mono hw2.size))) (fun hk => by omega) _)⟩
theorem join_any {w : World} {x y : List Int} (hx : x.length = 32) (hy : y.length = 32) :
    Calls Tryd.prog 11 #[.agg (hashC x).toArray, .agg (hashC y).toArray] w fun r w' => r = .returned (.agg (hashC (joinP x y)).toArray) ∧ Below w.heap.size w w' := by
  have hx' : (hashC x).length = 32 := by rw [List.length_map]; exact hx
  have hy' : (hashC y).length = 32 := by rw [List.length_map]; exact hy
  refine enter (args := [.agg (hashC x).toArray, .agg (hashC y).toArray]) Tryd.func11 rfl Tryd.ntmps11 rfl ?_
  refine kgo ?_
  refine WL.box rfl rfl rfl rfl rfl fun g1 w1 hf1 => ?_
  have hf1' : Fresh w g1 w1 23 (hashC x) := hf1
  clear hf1
  refine WL.box rfl rfl rfl rfl rfl fun g2 w2 hf2 => ?_
  have hf2' : Fresh w1 g2 w2 23 (hashC y) := hf2
  clear hf2
  refine WL.alloc (z := .agg (hashC Dig.Z32).toArray) rfl rfl rfl rfl (Dig.zero25) fun c w3 hf3 => ?_
  have hf3' : Fresh w2 c w3 23 (hashC Dig.Z32) := hf3
  clear hf3
  have he1 := hf1'.eq
  have he2 := hf2'.eq
  have he3 := hf3'.eq
  have hz1 := hf1'.size
  have hz2 := hf2'.size
  have hz3 := hf3'.size
  have hw2 : Below w.heap.size w w2 := hf1'.below.trans (hf2'.below.mono hf1'.below.size)
  have hw3 : Below w.heap.size w w3 := hw2.trans (hf3'.below.mono hw2.size)
  have A := (hf1'.blk.below hf2'.below hf1'.blk.lt).below hf3'.below (by omega)
  have B := hf2'.blk.below hf3'.below hf2'.blk.lt
  have C := hf3'.blk
  clear hf1' hf2' hf3'
  refine kgo ?_
  refine WL.loadMid rfl rfl rfl rfl rfl rfl (VBlk.rangeAt A) hx' ?_
  refine WL.loadMid rfl rfl rfl rfl rfl rfl (VBlk.rangeAt B) hy' ?_
  refine WL.call rfl rfl rfl rfl rfl Tryd.func31 rfl (by kernel_rfl) (Dig.node_any x y w3 hx hy) ?_
  rintro _ w4 ⟨rfl, hk4⟩
  refine ⟨_, rfl, ?_⟩
  have C4 := C.below hk4 C.lt
  have hlen : (hashC (joinP x y)).length = 32 := by rw [List.length_map]; exact Dig.sumL_length _
  refine WL.storeRow rfl rfl rfl rfl rfl rfl C4 hlen (by rfl) (Ones.int _ _) ?_
  refine kgo ?_
  exact WQ.retC rfl rfl rfl hlen (C4.setRow _) ⟨rfl, Keep.below (Keep.setRow (Keep.of_below (hw3.trans (hk4.mono hw3.size))) (fun hk => by omega) _)⟩
set_option maxHeartbeats 4000000 in
theorem hash11_any {f : Nat} {w : World} {b : Bk} {cs : List Value} (h : IsB f w b cs) (hT : Mk.Tab w) (hlen : ∀ e ∈ b.ents, chk 16 e.data = 0 → (encV 16 e.data).length ≤ 70368744177664) :
    Calls Tryd.prog 6 #[.agg cs.toArray] w fun r w' => r = .returned (.tuple #[.agg (hashC (hashBV b)).toArray, .int .i64 (chkB b)]) ∧ Below w.heap.size w w' := by
  have hall := h
  have hcl := h.len
  obtain ⟨se, rfl, hents, hpl, hpb, hr⟩ := h
  obtain ⟨sp, cap, rfl⟩ := hents.slice
  refine enter (args := [.agg (bkC b (.slice sp b.ents.length cap)).toArray]) Tryd.func6 rfl Tryd.ntmps6 rfl ?_
  refine kgo ?_
  refine WL.box rfl rfl rfl rfl rfl fun g w1 hf => ?_
  have hf' : Fresh w g w1 26 (bkC b (.slice sp b.ents.length cap)) := hf
  clear hf
  refine WL.alloc (z := .agg (hashC Dig.Z32).toArray) rfl rfl rfl rfl (Dig.zero25) fun rg w2 hf2 => ?_
  have hf2' : Fresh w1 rg w2 23 (hashC Dig.Z32) := hf2
  clear hf2
  have he1 := hf'.eq
  have he2 := hf2'.eq
  have hz1 := hf'.size
  have hz2 := hf2'.size
  have hw2 : Below w.heap.size w w2 := hf'.below.trans (hf2'.below.mono hf'.below.size)
  have B2 : BkAt 26 g w2 b (.slice sp b.ents.length cap) := ⟨hf'.blk.below hf2'.below hf'.blk.lt, hpl⟩
  have R2 := hf2'.blk
  clear hf' hf2'
  refine kgo ?_
  refine WL.loadMid rfl rfl rfl rfl rfl rfl (VBlk.rangeAt B2.blk) hcl ?_
  refine WL.call rfl rfl rfl rfl rfl Tryd.func18 rfl (by kernel_rfl) (check11_any (IsB.below hw2 hall) hlen) ?_
  rintro _ w3 ⟨rfl, hk3⟩
  refine ⟨_, rfl, ?_⟩
  have hw3 := hw2.trans (hk3.mono hw2.size)
  have B3 := B2.below hk3
  have R3 := R2.below hk3 R2.lt
  by_cases hc : chkB b = 0
  rotate_left
  · have hv : hashBV b = Dig.Z32 := by unfold hashBV; rw [if_pos hc]
    refine kgo ?_
    refine WL.build (hashC Dig.Z32) rfl rfl rfl rfl rfl (by kernel_rfl) ?_
    refine kgo ?_
    refine WL.storeRow rfl rfl rfl rfl rfl rfl R3 (by rfl) (by rfl) (Ones.int _ _) ?_
    refine kgo ?_
    exact WQ.retCT rfl rfl rfl rfl (by rfl) (R3.setRow _) ⟨by rw [hv], Keep.below (Keep.setRow (Keep.of_below hw3) (fun hk => by omega) _)⟩
  have hv : hashBV b = hashH b := by unfold hashBV; rw [if_neg (by simpa using hc)]
  obtain ⟨⟨-, -, -, hl1, hl2⟩, hck, -⟩ := chkB_ok hc
  refine kgo ?_
  refine WL.call rfl rfl rfl rfl rfl Tryd.func19 rfl (by kernel_rfl) (Mk.new_any w3) ?_
  rintro _ w4 ⟨O4, rfl, hI4, hk4, hO4⟩
  refine ⟨_, rfl, ?_⟩
  generalize w3.heap.size + 1 = tb at hI4 ⊢
  have B4 := B3.below hk4
  refine kgo ?_
  refine WL.load rfl rfl rfl rfl rfl rfl B4.ents ?_
  refine kgo ?_
  refine WC.loop (fun i : Nat => [(1, .pointer (some ⟨g, 0, none⟩)), (2, .pointer (some ⟨rg, 0, none⟩)), (5, .pointer (some ⟨tb, 0, none⟩)), (20, .slice sp b.ents.length cap), (21, .int .i64 b.ents.length), (22, .int .i64 i)])
    (fun i wr => i ≤ b.ents.length ∧ Below w3.heap.size w3 wr ∧ ∃ O, Mk.IsTree wr tb O (22 * i) ((b.ents.take i).map leafH) ∧ ∀ x, O x → w3.heap.size ≤ x) (fun i => b.ents.length - i) 0
    ⟨rfl, rfl, rfl, rfl, rfl, rfl, trivial⟩ ⟨Nat.zero_le _, hk4, O4, by simpa using hI4, hO4⟩ ?_
  rintro i wr ⟨hi, hbr, O, hI, hO⟩
  have hwr : Below w.heap.size w wr := hw3.trans (hbr.mono hw3.size)
  have hzr := hbr.size
  by_cases hik : i < b.ents.length
  · obtain ⟨kb, ko, cap', cs, hse, hkb, hc46, hce, hcr⟩ := hents.at hik
    injection hse with hse1 _ hse2
    subst hse1; subst hse2
    have hmem : b.ents.getD i noE ∈ b.ents := by simp [hik]
    have hce0 := hck _ hmem
    have hlen1 := hlen _ hmem
    have hts := take_snoc b.ents noE hik
    generalize b.ents.getD i noE = e at hce hce0 hlen1 hts
    refine kgo ?_
    refine WL.idx i (ko + i * 46) rfl rfl rfl rfl rfl rfl rfl rfl hik rfl ?_
    refine WL.loadMid rfl rfl rfl rfl rfl rfl (fun j u hu => (hwr.cell (p := ⟨kb, ko + i * 46 + j, none⟩) hkb).trans (hcr j u hu)) hc46 ?_
    refine WL.alloc (z := .agg (enC noE zCells).toArray) rfl rfl rfl rfl (fun _ => by kernel_rfl) fun c w5 hf5 => ?_
    have hf5' : Fresh wr c w5 52 (enC noE zCells) := hf5
    clear hf5
    refine kgo ?_
    refine WL.storeRow rfl rfl rfl rfl rfl rfl hf5'.blk hc46 (by rfl) hce.one ?_
    have hk6 : Below wr.heap.size wr (w5.setRow c cs.toArray) := below_setRow hf5'.below (by rw [hf5'.eq]; exact Nat.le_refl _) _
    have C6 : VBlk 52 (w5.setRow c cs.toArray) c cs := hf5'.blk.setRow _
    generalize w5.setRow c cs.toArray = w6 at hk6 C6
    clear hf5'
    have hw6 := hwr.trans (hk6.mono hwr.size)
    refine kgo ?_
    refine WL.loadMid rfl rfl rfl rfl rfl rfl (VBlk.rangeAt C6) hc46 ?_
    refine WL.call rfl rfl rfl rfl rfl Tryd.func20 rfl (by kernel_rfl) (entryHash_any (IsE.below hw6 hce) hlen1) ?_
    rintro _ w7 ⟨rfl, hk7⟩
    refine ⟨_, rfl, ?_⟩
    have hve : entV e = leafH e := by unfold entV; rw [if_neg (by simpa using hce0)]
    rw [hve]
    have hlh : (hashC (leafH e)).length = 32 := by rw [List.length_map]; exact leafH_len e
    refine kgo ?_
    refine WL.alloc (z := .agg (hashC Dig.Z32).toArray) rfl rfl rfl rfl (Dig.zero25) fun hb w8 hf8 => ?_
    have hf8' : Fresh w7 hb w8 23 (hashC Dig.Z32) := hf8
    clear hf8
    refine WL.storeRow rfl rfl rfl rfl rfl rfl hf8'.blk hlh (by rfl) (Ones.int _ _) ?_
    have hk9 : Below w7.heap.size w7 (w8.setRow hb (hashC (leafH e)).toArray) := below_setRow hf8'.below (by rw [hf8'.eq]; exact Nat.le_refl _) _
    have H9 : VBlk 23 (w8.setRow hb (hashC (leafH e)).toArray) hb (hashC (leafH e)) := hf8'.blk.setRow _
    generalize w8.setRow hb (hashC (leafH e)).toArray = w9 at hk9 H9
    clear hf8'
    have hkr9 : Below wr.heap.size wr w9 := (hk6.trans (hk7.mono hk6.size)).trans (hk9.mono (Nat.le_trans hk6.size hk7.size))
    have hI9 := hI.below hkr9 (Nat.le_refl _)
    refine kgo ?_
    refine WL.loadMid rfl rfl rfl rfl rfl rfl (VBlk.rangeAt H9) hlh ?_
    refine WL.call rfl rfl rfl rfl rfl Tryd.func21 rfl (by kernel_rfl) (Mk.add_any hI9 (leafH_len e) (by rw [List.length_map, List.length_take]; omega) (by omega)) ?_
    rintro _ w10 ⟨rfl, hI10, hk10⟩
    refine ⟨_, rfl, ?_⟩
    have hk39 : Below w3.heap.size w3 w9 := hbr.trans (hkr9.mono hzr)
    have hk310 : Below w3.heap.size w3 w10 := hk39.trans (Keep.below (Keep.mono hk10 fun x (hx : x < w3.heap.size) => ⟨Nat.lt_of_lt_of_le hx hk39.size, fun h => by have := hO x h; omega⟩))
    refine kgo ?_
    refine WQ.again (i + 1) ⟨rfl, rfl, rfl, rfl, rfl, rfl, trivial⟩ ⟨hik, hk310, O, ?_, hO⟩ (by show b.ents.length - (i + 1) < b.ents.length - i; omega)
    rw [hts, List.map_append, Nat.mul_succ]
    exact hI10
  · obtain rfl : i = b.ents.length := by omega
    rw [List.take_length] at hI
    have Br := B3.below hbr
    have Rr := R3.below hbr R3.lt
    have hTr := hT.below hwr (Nat.le_refl _)
    refine kgo ?_
    refine WL.load rfl rfl rfl rfl rfl rfl Br.ents ?_
    refine kgo ?_
    refine WL.call rfl rfl rfl rfl rfl Tryd.func22 rfl (by kernel_rfl) (Mk.rootTop_any hI hTr (by rw [List.length_map]; omega) (b.ents.length : Int)) ?_
    rintro _ w11 ⟨rfl, hk11⟩
    refine ⟨_, rfl, ?_⟩
    have hrv : Mk.rootV (b.ents.map leafH) (b.ents.length : Int) = rootH b := by
      unfold Mk.rootV rootH
      rw [if_pos (by rw [List.length_map]; omega), Int.toNat_natCast, List.take_of_length_le (by rw [List.length_map]; omega)]
    have hrl : (rootH b).length = 32 := Mk.rt_len (okh_leaves b.ents)
    rw [hrv]
    have hrl' : (hashC (rootH b)).length = 32 := by rw [List.length_map]; exact hrl
    generalize hRR : rootH b = R at hrl hrl'
    generalize Mk.rootC _ _ = rc
    show WL _ _ _ _ ((_, .tuple #[.agg (hashC R).toArray, .int .i64 rc]) :: _) _
    refine kgo ?_
    refine WL.alloc (z := .agg (hashC Dig.Z32).toArray) rfl rfl rfl rfl (Dig.zero25) fun cb w12 hf12 => ?_
    have hf12' : Fresh w11 cb w12 23 (hashC Dig.Z32) := hf12
    clear hf12
    refine WL.storeRow rfl rfl rfl rfl rfl rfl hf12'.blk hrl' (by rfl) (Ones.int _ _) ?_
    have hk13 : Below w11.heap.size w11 (w12.setRow cb (hashC R).toArray) := below_setRow hf12'.below (by rw [hf12'.eq]; exact Nat.le_refl _) _
    have H13 : VBlk 23 (w12.setRow cb (hashC R).toArray) cb (hashC R) := hf12'.blk.setRow _
    generalize w12.setRow cb (hashC R).toArray = w13 at hk13 H13
    clear hf12'
    have hkr13 : Below wr.heap.size wr w13 := hk11.trans (hk13.mono hk11.size)
    have B13 := Br.below hkr13
    have R13 := Rr.below hkr13 Rr.lt
    have hw13 : Below w.heap.size w w13 := hwr.trans (hkr13.mono hwr.size)
    refine kgo ?_
    refine WC.drawn 6 (fun wx => BkAt 26 g wx b (.slice sp b.ents.length cap) ∧ VBlk 23 wx cb (hashC R)) fun w14 hd14 => ?_
    have hk14 : Below w13.heap.size w13 w14 := hd14.below _
    have hS : BkAt 26 g w14 b (.slice sp b.ents.length cap) ∧ VBlk 23 w14 cb (hashC R) := ⟨B13.below hk14, H13.below hk14 H13.lt⟩
    have hw14 : Below w.heap.size w w14 := hw13.trans (hk14.mono hw13.size)
    refine WD.loadMid 0 [1, 6, 7, 8, 9] rfl (by kernel_rfl) rfl rfl (fun _ _ _ _ _ h => h) rfl rfl rfl rfl (fun wx hx => VBlk.rangeAt hx.1.blk) hcl hS ?_
    refine WD.loadMid 2 [6, 7, 8, 9] rfl (by kernel_rfl) rfl rfl (fun _ _ _ _ _ h => h) rfl rfl rfl rfl (fun wx hx => VBlk.rangeAt hx.2) hrl' hS ?_
    (((first | refine WD.free 3 rfl (by kernel_rfl) rfl rfl (fun _ _ _ _ _ h => h) rfl rfl (.inr hS) ?_ | refine WD.skip 3 rfl (by kernel_rfl) rfl rfl (fun _ _ _ _ _ h => h) rfl (.inr hS) ?_); try (first | ((with_reducible refine WD.topT ?_ ?_); omega) | ((with_reducible refine WD.topF ?_ ?_); omega) | ((with_reducible refine WD.top64 ?_ ?_); omega))))
    refine WD.load 4 [5, 6, 7, 8, 9] rfl (by kernel_rfl) rfl rfl (fun _ _ _ _ _ h => h) rfl rfl rfl rfl (fun wx hx => hx.1.ents) hS ?_
    (((first | refine WD.free 5 rfl (by kernel_rfl) rfl rfl (fun _ _ _ _ _ h => h) rfl rfl (.inr hS) ?_ | refine WD.skip 5 rfl (by kernel_rfl) rfl rfl (fun _ _ _ _ _ h => h) rfl (.inr hS) ?_); try (first | ((with_reducible refine WD.topT ?_ ?_); omega) | ((with_reducible refine WD.topF ?_ ?_); omega) | ((with_reducible refine WD.top64 ?_ ?_); omega))))
    refine WD.one 1 (by kernel_rfl) rfl ?_
    refine WL.call rfl rfl rfl rfl rfl Tryd.func12 rfl (by kernel_rfl) (headTop_any (IsB.below hw14 hall)) ?_
    rintro _ w15 ⟨rfl, hk15⟩
    refine ⟨_, rfl, ?_⟩
    refine WL.nil (WQ.dk (.inr ⟨hS.1.below hk15, hS.2.below hk15 hS.2.lt⟩) ?_)
    refine WD.one 6 (by kernel_rfl) rfl ?_
    refine WL.call rfl rfl rfl rfl rfl Tryd.func23 rfl (by kernel_rfl) (pentriesOf_any hrl (n := b.ents.length) (by omega)) ?_
    rintro _ w16 ⟨rfl, hk16⟩
    refine ⟨_, rfl, ?_⟩
    refine WL.nil (WQ.dk (.inl rfl) ?_)
    refine WD.one 7 (by kernel_rfl) rfl ?_
    refine WL.call rfl rfl rfl rfl rfl Tryd.func11 rfl (by kernel_rfl) (join_any (x := headH b) (Dig.sumL_length _) (chainP_len _ _)) ?_
    rintro _ w17 ⟨rfl, hk17⟩
    refine ⟨_, rfl, ?_⟩
    refine WL.nil (WQ.dk (.inl rfl) ?_)
    have hk1317 : Below w13.heap.size w13 w17 := ((hk14.trans (hk15.mono hk14.size)).trans (hk16.mono (Nat.le_trans hk14.size hk15.size))).trans (hk17.mono (Nat.le_trans hk14.size (Nat.le_trans hk15.size hk16.size)))
    have R17 := R13.below hk1317 R13.lt
    have hw17 : Below w.heap.size w w17 := hw13.trans (hk1317.mono hw13.size)
    have hJ : joinP (headH b) (chainP R (uvB b.ents.length)) = hashBV b := by rw [hv]; unfold hashH; rw [hRR]
    rw [hJ]
    have hbl : (hashC (hashBV b)).length = 32 := by rw [List.length_map]; exact hashBV_len b
    refine WD.one 8 (by kernel_rfl) rfl ?_
    refine WL.storeRow rfl rfl rfl rfl rfl rfl R17 hbl (by rfl) (Ones.int _ _) ?_
    refine WL.nil (WQ.dk (.inl rfl) ?_)
    refine WD.one 9 (by kernel_rfl) rfl ?_
    refine WL.pure rfl rfl rfl rfl ?_
    refine WL.nil (WQ.dk (.inl rfl) ?_)
    refine WD.done (by kernel_rfl) ?_
    refine kgo ?_
    exact WQ.retCT rfl rfl rfl rfl hbl (R17.setRow _) ⟨by rw [hc], Keep.below (Keep.setRow (Keep.of_below hw17) (fun hk => by omega) _)⟩
end K
end Go.Proofs.YtlamdhekjlnccaaDoor

/- Rows of digests. -/
namespace Go.Proofs.YtlamdhekjlnccaaDoor
open Go.RowKit Go.Maps

theorem wpList_load_arr {P : Program} {ops : Array Oper} {rest : List Oper} {op : Oper} {a : Act} {w : World} {Q : Exit → Act → World → Prop} (hgd : op.guard = none) (ty : TypeId) (x : Operand) (ho : op.op = .load ty x)
    (b o : Nat) (hx : a.eval x = .pointer (some ⟨b, o, none⟩)) (cs : List Value) (d : TypeDesc) (hc : w.rangeAt b o cs)
    (hu : P.underlying ty = some d) (hd : d.isRow = true) (hi : (P.info? ty).map (·.size) = some cs.length)
    (h : wpList P ops Q rest (a.put op.dst (.agg cs.toArray)) w) : wpList P ops Q (op :: rest) a w :=
  wpList_load_mid hgd ty x ho b o hx cs d hc hu hd hi h

namespace Mk

/-- The cells of digests, one behind another. -/
def cellsH (hs : List H) : List Value := hs.flatMap fun h => h.map (Value.int .u8)
theorem cellsH_app (a b : List H) : cellsH (a ++ b) = cellsH a ++ cellsH b := by simp [cellsH]
theorem cellsH_len {hs : List H} (h : Okh hs) : (cellsH hs).length = hs.length * 32 := by
  induction hs with
  | nil => rfl
  | cons a r ih =>
    have h1 := h a List.mem_cons_self
    have h2 := ih (fun x hx => h x (List.mem_cons_of_mem _ hx))
    have e : cellsH (a :: r) = a.map (Value.int .u8) ++ cellsH r := rfl
    rw [e, List.length_append, List.length_map, h1, h2, List.length_cons, Nat.add_mul]; omega
theorem cellsH_at {hs : List H} (h : Okh hs) : ∀ (k j : Nat), k < hs.length → j < 32 → (cellsH hs)[k * 32 + j]? = ((hs.getD k []).map (Value.int .u8))[j]? := by
  induction hs with
  | nil => intro k j hk; simp at hk
  | cons a r ih =>
    intro k j hk hj
    have h1 := h a List.mem_cons_self
    have e : cellsH (a :: r) = a.map (Value.int .u8) ++ cellsH r := rfl
    have hl : (a.map (Value.int .u8)).length = 32 := by rw [List.length_map, h1]
    rw [e]
    cases k with
    | zero => rw [Nat.zero_mul, Nat.zero_add, List.getElem?_append_left (by omega)]; rfl
    | succ k =>
      rw [List.getElem?_append_right (by omega), hl]
      have e2 : (k + 1) * 32 + j - 32 = k * 32 + j := by omega
      rw [e2, ih (fun x hx => h x (List.mem_cons_of_mem _ hx)) k j (by simpa using hk) hj]
      rfl
theorem ones_cellsH (hs : List H) : Ones (cellsH hs) := fun u hu => by
  unfold cellsH at hu
  obtain ⟨h, -, hu⟩ := List.mem_flatMap.1 hu
  obtain ⟨_, _, rfl⟩ := List.mem_map.1 hu
  rfl

/-- The slice v reads as the digests hs, out of blocks of O. -/
def HS (w : World) (O : Nat → Prop) (v : Value) (hs : List H) : Prop := Okh hs ∧ SlV w O 32 v hs.length (cellsH hs)
theorem HS.at {w : World} {O : Nat → Prop} {v : Value} {hs : List H} (h : HS w O v hs) (k : Nat) (hk : k < hs.length) :
    ∃ b o cap, v = .slice (some ⟨b, o, none⟩) hs.length cap ∧ hs.length ≤ cap ∧ cap ≤ 9223372036854775807 ∧ b < w.heap.size ∧ O b ∧ (hs.getD k []).length = 32 ∧ w.rangeAt b (o + k * 32) ((hs.getD k []).map (Value.int .u8)) := by
  obtain ⟨hok, hl, h1, sp, cap, rfl, h2, h3, h4, h5⟩ := h
  obtain ⟨b, o, rfl, hb, hO, hr⟩ := h5 (by omega)
  have h32 := okh_getD hok hk
  refine ⟨b, o, cap, rfl, h2, h3, hb, hO, h32, fun j u hu => ?_⟩
  have hj : j < 32 := by
    rcases Nat.lt_or_ge j 32 with h | h
    · exact h
    · rw [List.getElem?_eq_none (by rw [List.length_map, h32]; exact h)] at hu; cases hu
  have hkj : k * 32 + j < (cellsH hs).length := by rw [cellsH_len hok]; omega
  have := hr (k * 32 + j) hkj
  rw [Nat.add_assoc, this]
  rw [← cellsH_at hok k j hk hj] at hu
  simp [hu]
theorem HS.form {w : World} {O : Nat → Prop} {v : Value} {hs : List H} (h : HS w O v hs) : ∃ sp cap, v = .slice sp hs.length cap ∧ hs.length ≤ cap ∧ cap ≤ 9223372036854775807 := by
  obtain ⟨hok, hl, h1, sp, cap, rfl, h2, h3, -⟩ := h
  exact ⟨sp, cap, rfl, h2, h3⟩
theorem HS.keep {w w' : World} {O : Nat → Prop} {v : Value} {hs : List H} (h : HS w O v hs) {K : Nat → Prop} (hk : Keep K w w') (hK : ∀ b, O b → b < w.heap.size → K b) : HS w' O v hs := ⟨h.1, h.2.keep hk hK⟩
theorem HS.below {w w' : World} {O : Nat → Prop} {v : Value} {hs : List H} (h : HS w O v hs) {B : Nat} (hk : Below B w w') (hB : w.heap.size ≤ B) : HS w' O v hs := ⟨h.1, h.2.below hk hB⟩
theorem HS.mono {w : World} {O O' : Nat → Prop} {v : Value} {hs : List H} (h : HS w O v hs) (hO : ∀ b, O b → O' b) : HS w O' v hs := ⟨h.1, h.2.mono hO⟩

/-- A tree that the call has made. -/
def TRel (w : World) (t : Nat) (l : List H) (m : Nat) (wr : World) : Prop := ∃ O, IsTree wr t O m l ∧ Below w.heap.size w wr ∧ (∀ b, O b → w.heap.size ≤ b) ∧ w.heap.size ≤ wr.heap.size
theorem TRel.add {w : World} {t m : Nat} {l : List H} {h : H} {wr : World} (hr : TRel w t l m wr) (hh : h.length = 32) (hm : l.length ≤ 1000000) (hc : m ≤ 900000000) :
    Calls Tryd.prog 21 #[.pointer (some ⟨t, 0, none⟩), .agg (h.map (Value.int .u8)).toArray] wr fun e w' => e = .returned (.int .i64 (l.length : Nat)) ∧ TRel w t (l ++ [h]) (m + 22) w' := by
  obtain ⟨O, h1, h2, h3, h4⟩ := hr
  refine (add_any h1 hh hm hc).mono ?_
  rintro e w' ⟨rfl, h5, h6⟩
  exact ⟨rfl, O, h5, h2.trans (h6.mono fun b (hb : b < w.heap.size) => ⟨by omega, fun h => by have := h3 b h; omega⟩).below, h3, Nat.le_trans h4 h6.size⟩
theorem TRel.bel {w : World} {t m : Nat} {l : List H} {wr : World} (hr : TRel w t l m wr) : Below w.heap.size w wr := by obtain ⟨O, h1, h2, h3, h4⟩ := hr; exact h2
theorem TRel.size {w : World} {t m : Nat} {l : List H} {wr : World} (hr : TRel w t l m wr) : w.heap.size ≤ wr.heap.size := by obtain ⟨O, h1, h2, h3, h4⟩ := hr; exact h4
theorem TRel.below {w : World} {t m : Nat} {l : List H} {wr w' : World} (hr : TRel w t l m wr) (hb : Below wr.heap.size wr w') : TRel w t l m w' := by
  obtain ⟨O, h1, h2, h3, h4⟩ := hr
  exact ⟨O, h1.below hb (Nat.le_refl _), h2.trans (hb.mono h4), h3, Nat.le_trans h4 hb.size⟩

theorem take_snoc (hs : List H) (k : Nat) (hk : k < hs.length) : hs.take k ++ [hs.getD k []] = hs.take (k + 1) := by
  rw [List.take_succ_eq_append_getElem hk]
  simp [hk]
end Mk
end Go.Proofs.YtlamdhekjlnccaaDoor

/- Chapter 10: digests compared, new variables. -/
namespace Go.Proofs.YtlamdhekjlnccaaDoor
open Go.RowKit Go.Maps
namespace Mk

theorem Tryd.infoByte : (Tryd.prog.info? 5).map (fun i => (i.zero, i.size, i.bytes)) = some (some (.int .u8 0), 1, 1) := by kernel_rfl
/-- Two digests, compared. -/
theorem eqlH (a b : H) (ha : a.length = 32) (hb : b.length = 32) (W : World) : (binOp .eql 23 (.agg (a.map (Value.int .u8)).toArray) (.agg (b.map (Value.int .u8)).toArray)).run Tryd.prog W = .ok (.bool (decide (a = b))) W := by
  obtain ⟨it, hit, -, hit2, -⟩ := info_parts Tryd.infoByte
  exact run_eql_ints W Tryd.underlying23 Tryd.underlying5 hit hit2 a b ha hb
theorem infoH (l : H) (hl : l.length = 32) : (Tryd.prog.info? 23).map (·.size) = some (l.map (Value.int .u8)).toArray.size := by rw [infoHash]; simp [hl]
theorem oneH (l : H) : (l.map (Value.int .u8)).toArray.all (·.oneCell') = true := by simp [Value.oneCell']
theorem sizeH (a b : H) (ha : a.length = 32) (hb : b.length = 32) : (a.map (Value.int .u8)).toArray.size = (b.map (Value.int .u8)).toArray.size := by simp [ha, hb]
theorem z32_len : Dig.Z32.length = 32 := rfl
/-- What a new variable holds behind a store. -/
theorem alloc_store (w : World) (l : H) :
    (w.alloc (.cells (Dig.Z32.map (Value.int .u8)).toArray 23)).heap[w.heap.size]? = some (.cells (Dig.Z32.map (Value.int .u8)).toArray 23 (0, 0)) ∧
    VBlk 23 ((w.alloc (.cells (Dig.Z32.map (Value.int .u8)).toArray 23)).setRow w.heap.size (l.map (Value.int .u8)).toArray) w.heap.size (l.map (Value.int .u8)) ∧
    Below w.heap.size w ((w.alloc (.cells (Dig.Z32.map (Value.int .u8)).toArray 23)).setRow w.heap.size (l.map (Value.int .u8)).toArray) :=
  ⟨heap_alloc_new _ _, VBlk.setRow (VBlk.mk w (Dig.Z32.map (Value.int .u8)) 23) _, below_setRow ((Below.refl _ w).alloc (Nat.le_refl _) _) (Nat.le_refl _) _⟩
theorem refNode_a {a b : H} (w : World) (ha : a.length = 32) (hb : b.length = 32) : Calls Tryd.prog 13 #[.agg (a.map (Value.int .u8)).toArray, .agg (b.map (Value.int .u8)).toArray] w fun e w' => e = .returned (.agg ((nodeP a b).map (Value.int .u8)).toArray) ∧ Below w.heap.size w w' := Dig.refNode_any a b w ha hb

theorem rootTop_a {w : World} {t cnt : Nat} {O : Nat → Prop} {l : List H} (h : IsTree w t O cnt l) (hT : Tab w) (hm : l.length ≤ 1048576) (size : Int) :
    Calls Tryd.prog 22 #[.pointer (some ⟨t, 0, none⟩), .int .i64 size] w fun e w' => e = .returned (.tuple #[.agg ((rootV l size).map (Value.int .u8)).toArray, .int .i64 (rootC l size)]) ∧ Below w.heap.size w w' := rootTop_any h hT hm size

end Mk
end Go.Proofs.YtlamdhekjlnccaaDoor

/- The reference's half, Root. -/
namespace Go.Proofs.YtlamdhekjlnccaaDoor
open Go.RowKit Go.Maps
namespace Mk
theorem HS.take {w : World} {O : Nat → Prop} {sp : Option Addr} {n cap : Nat} {hs : List H} (h : HS w O (.slice sp n cap) hs) {k : Nat} (hk : k ≤ hs.length) : HS w O (.slice sp k cap) (hs.take k) := by
  obtain ⟨hok, hl, h1, sp', cap', e, h2, h3, h4, h5⟩ := h
  obtain ⟨rfl, rfl, rfl⟩ : sp = sp' ∧ n = hs.length ∧ cap = cap' := by simpa using e
  have hlt : (hs.take k).length = k := by rw [List.length_take]; omega
  have ht : cellsH hs = cellsH (hs.take k) ++ cellsH (hs.drop k) := by rw [← cellsH_app, List.take_append_drop]
  refine ⟨okh_take hok k, cellsH_len (okh_take hok k), ones_cellsH _, sp, cap, by rw [hlt], by rw [hlt]; omega, h3, h4, fun h0 => ?_⟩
  rw [hlt] at h0
  obtain ⟨b, o, e1, hb, hO, hr⟩ := h5 (by omega)
  refine ⟨b, o, e1, hb, hO, fun j hj => ?_⟩
  have hj2 : j < (cellsH hs).length := by rw [ht, List.length_append]; omega
  rw [hr j hj2, ht]
  simp [List.getElem?_append_left hj, hj]

set_option maxHeartbeats 1000000 in
theorem refHalf_any (n : Nat) (w : World) (h1 : 2 ≤ n) (h2 : n ≤ 1000000) : Calls Tryd.prog 28 #[.int .i64 (n : Nat)] w fun e w' => e = .returned (.int .i64 (half n : Nat)) ∧ w = w' := by
  go_enter Tryd.func28, Tryd.ntmps28
  go_wp2_with fail
  go_loopw [3] (fun i wr => ∃ k j : Nat, i = .int .i64 (k : Nat) ∧ Hid2 (k = 2 ^ j) ∧ 1 ≤ k ∧ k < n ∧ wr = w) (fun i _ => n - (intOf i).toNat)
  case atStart => exact ⟨1, 0, rfl, Hid2.mk rfl, by omega, by omega, rfl⟩
  case round =>
    obtain ⟨k, j, rfl, Hk, hk1, hkn, rfl⟩ := hrel
    by_cases hl : k < n - k
    · have g1 : (k : Int) < n - k := by omega
      have hkk : Hid2 (2 * k = 2 ^ (j + 1)) := Hid2.mk (by rw [Hk.out, Nat.pow_succ, Nat.mul_comm])
      go_wp2_with fail
      go_roundw
      case rel => exact ⟨2 * k, j + 1, by go_num, hkk, by omega, by omega, trivial⟩
      case measure => simp [intOf]; omega
    · have g1 : (n : Int) - k ≤ k := by omega
      have Hh := Hid2.mk (show half n = k by
        have := half_eq (n := n) (j := j) (by rw [← Hk.out]; exact hkn) (by rw [Nat.pow_succ, ← Hk.out]; omega)
        rw [this, Hk.out])
      go_wp2_with fail
      go_ret
      rw [Hh.out]
      exact ⟨rfl, rfl⟩

/-- What is behind a beginning of a row of digests. -/
theorem HS.drop {w : World} {O : Nat → Prop} {b o n cap : Nat} {hs : List H} (h : HS w O (.slice (some ⟨b, o, none⟩) n cap) hs) {k : Nat} (hk : k ≤ hs.length) : HS w O (.slice (some ⟨b, o + k * 32, none⟩) (n - k) (cap - k)) (hs.drop k) := by
  obtain ⟨hok, hl, h1, sp', cap', e, h2, h3, h4, h5⟩ := h
  obtain ⟨rfl, rfl, rfl⟩ : some ⟨b, o, none⟩ = sp' ∧ n = hs.length ∧ cap = cap' := by simpa using e
  have hlt : (hs.drop k).length = hs.length - k := List.length_drop
  refine ⟨okh_drop hok k, cellsH_len (okh_drop hok k), ones_cellsH _, some ⟨b, o + k * 32, none⟩, cap - k, by rw [hlt], by rw [hlt]; omega, by omega, (fun h => by cases h), fun h0 => ?_⟩
  rw [hlt] at h0
  obtain ⟨b', o', e1, hb, hO, hr⟩ := h5 (by omega)
  obtain ⟨rfl, rfl⟩ : b = b' ∧ o = o' := by simpa using e1
  have ht : cellsH hs = cellsH (hs.take k) ++ cellsH (hs.drop k) := by rw [← cellsH_app, List.take_append_drop]
  have hlen : (cellsH (hs.take k)).length = k * 32 := by rw [cellsH_len (okh_take hok k), List.length_take, Nat.min_eq_left hk]
  refine ⟨b, _, rfl, hb, hO, fun j hj => ?_⟩
  have hj2 : k * 32 + j < (cellsH hs).length := by rw [ht, List.length_append]; omega
  rw [Nat.add_assoc, hr (k * 32 + j) hj2, ht, ← hlen]
  rw [List.getD_eq_getElem?_getD, List.getD_eq_getElem?_getD, List.getElem?_append_right (by omega), Nat.add_sub_cancel_left]

theorem rt_nil : rt [] = Dig.sumL [] := by unfold rt; rw [root_nil]; rfl
theorem rt_one (a : H) : rt [a] = a := by unfold rt; rw [root_one]
theorem rt_two {l : List H} (h : 2 ≤ l.length) : rt l = nodeP (rt (l.take (half l.length))) (rt (l.drop (half l.length))) := by unfold rt; rw [root_two h]

set_option maxRecDepth 100000 in
set_option maxHeartbeats 4000000 in
theorem refRoot_any : ∀ (n : Nat) {w : World} {O : Nat → Prop} {v : Value} {l : List H}, l.length = n → HS w O v l → n ≤ 1000000 →
    Calls Tryd.prog 9 #[v] w fun e w' => e = .returned (.agg ((rt l).map (Value.int .u8)).toArray) ∧ Below w.heap.size w w' := by
  intro n
  induction n using Nat.strongRecOn with
  | ind n ih =>
    intro w O v l hln h hn
    have hz := zeroHash
    obtain ⟨hb, hR⟩ := new_hash w
    have H0 := Hid2.mk (h.below hb (Nat.le_refl _))
    have hok := h.1
    have HB := Hid2.mk hb
    have HR := Hid2.mk hR
    have Hih := Hid2.mk ih
    obtain ⟨sp, cap, rfl, hc, hc'⟩ := h.form
    rw [hln] at hc H0 ⊢
    clear hb hR ih h
    have Hln := Hid2.mk hln
    clear hln
    by_cases h0 : n = 0
    · subst h0
      have hl0 : l = [] := List.eq_nil_of_length_eq_zero Hln.out
      subst hl0
      have hlen := Dig.sumL_length []
      have Hrr := Hid2.mk rt_nil
      go_enter Tryd.func9, Tryd.ntmps9
      go_wp2_with fail
      generalize World.alloc _ _ = w1 at HR HB ⊢
      refine (Dig.refSum_s _ [] _ (Sl.nil _ _) (by simp)).mono ?_
      rintro e w2 ⟨rfl, hb2⟩
      have HB2 := Hid2.mk (HB.out.trans (hb2.mono HB.out.size))
      have HR2 := Hid2.mk (HR.out.below hb2 HR.out.lt)
      clear hb2 HB HR H0
      generalize Dig.sumL [] = rr at hlen Hrr ⊢
      go_wp2_with (refine wpList_store_row rfl 23 (.tmp 2) (.tmp 8) rfl w.heap.size (rr.map (Value.int .u8)).toArray rfl rfl 23 (Dig.Z32.map (Value.int .u8)).toArray HR2.out (infoH rr hlen) (sizeH _ _ z32_len hlen) (oneH _) ?_)
      refine bodyPost_ret (results_cell_row rfl _ _ w.heap.size 23 (rr.map (Value.int .u8)).toArray (0, 0) _ rfl (setRow_heap _ _ _ _ _ _ HR2.out) Tryd.underlying23 rfl (infoH rr hlen)) rfl ⟨by rw [Hrr.out], below_setRow HB2.out (Nat.le_refl _) _⟩
    · by_cases h1 : n = 1
      · subst h1
        obtain ⟨a, rfl⟩ : ∃ a, l = [a] := List.length_eq_one_iff.1 Hln.out
        have Hrr := Hid2.mk (rt_one a)
        obtain ⟨b, o, cap', hv, -, -, hb, -, h32, hrow⟩ := H0.out.at 0 (by simp)
        obtain ⟨rfl, rfl⟩ : sp = some ⟨b, o, none⟩ ∧ cap = cap' := by simpa using hv
        have e0 : [a].getD 0 [] = a := rfl
        have e1 : o + 0 * 32 = o := by omega
        rw [e0] at h32 hrow
        rw [e1] at hrow
        have Hrow := Hid2.mk hrow
        have Hi := Hid2.mk (show (Tryd.prog.info? 23).map (·.size) = some (a.map (Value.int .u8)).length by rw [infoHash, List.length_map, h32])
        clear hv hrow e0 e1
        go_enter Tryd.func9, Tryd.ntmps9
        go_wp2_with (first | (refine wpList_load_mid rfl 23 (.tmp 12) rfl b o rfl (a.map (Value.int .u8)) _ Hrow.out Tryd.underlying23 rfl Hi.out ?_) | (refine wpList_store_row rfl 23 (.tmp 2) (.tmp 13) rfl w.heap.size (a.map (Value.int .u8)).toArray rfl rfl 23 (Dig.Z32.map (Value.int .u8)).toArray HR.out (infoH a h32) (sizeH _ _ z32_len h32) (oneH _) ?_))
        refine bodyPost_ret (results_cell_row rfl _ _ w.heap.size 23 (a.map (Value.int .u8)).toArray (0, 0) _ rfl (setRow_heap _ _ _ _ _ _ HR.out) Tryd.underlying23 rfl (infoH a h32)) rfl ⟨by rw [Hrr.out], below_setRow HB.out (Nat.le_refl _) _⟩
      · have h2 : 2 ≤ n := by omega
        have g0 : ((n : Int) == 0) = false := by simp; omega
        have g1 : ((n : Int) == 1) = false := by simp; omega
        have hkl := half_lt h2
        have hkp := half_pos n
        have Hrt := Hid2.mk (show rt l = nodeP (rt (l.take (half n))) (rt (l.drop (half n))) by have := rt_two (l := l) (by rw [Hln.out]; exact h2); rw [Hln.out] at this; exact this)
        obtain ⟨b, o, cap', hv, -, -, hb, -, -, -⟩ := H0.out.at 0 (by rw [Hln.out]; omega)
        rw [Hln.out] at hv
        obtain ⟨rfl, rfl⟩ : sp = some ⟨b, o, none⟩ ∧ cap = cap' := by simpa using hv
        have Ht0 := Hid2.mk (H0.out.take (k := half n) (by rw [Hln.out]; omega))
        have Hd0 := Hid2.mk (H0.out.drop (k := half n) (by rw [Hln.out]; omega))
        have la := rt_len (okh_take hok (half n))
        have lb := rt_len (okh_drop hok (half n))
        have llt : (l.take (half n)).length = half n := by rw [List.length_take, Hln.out]; omega
        have lld : (l.drop (half n)).length = n - half n := by rw [List.length_drop, Hln.out]
        clear hv h0 h1
        go_enter Tryd.func9, Tryd.ntmps9
        go_wp2_with fail
        refine (refHalf_any n _ h2 hn).mono ?_
        rintro e w' ⟨rfl, rfl⟩
        generalize half n = k at hkl hkp Hrt Ht0 Hd0 la lb llt lld ⊢
        generalize l.take k = A at Hrt Ht0 la llt
        generalize l.drop k = B at Hrt Hd0 lb lld
        have hkc : (k : Int) ≤ cap := by omega
        have hck : ¬ cap = k := by omega
        have hkn : (k : Int) ≤ n := by omega
        have hLlt := Hid2.mk llt
        have hLld := Hid2.mk lld
        clear llt lld
        go_wp2_with fail
        generalize World.alloc _ _ = w1 at H0 HB HR Ht0 Hd0 ⊢
        have hS : True := trivial
        refine wp_region_till 8 (fun _ => True) (by kernel_rfl) ?_
        refine till_free (i := 0) rfl (by kernel_rfl) (by kernel_rfl) (by kernel_rfl) rfl (fun _ _ _ h => h) (.inr hS) (by rfl) (fun _ => by first | (go_simp; done) | (go_simp; with_reducible rfl)) ?_  -- move (tmp 0)
        refine till_free (i := 1) rfl (by kernel_rfl) (by kernel_rfl) (by kernel_rfl) rfl (fun _ _ _ h => h) (.inr hS) (by rfl) (fun _ => by first | (go_simp; done) | (go_simp; with_reducible rfl)) ?_  -- move (tmp 3)
        refine till_free (i := 2) rfl (by kernel_rfl) (by kernel_rfl) (by kernel_rfl) rfl (fun _ _ _ h => h) (.inr hS) (by rfl) (fun _ => by first | (go_simp; done) | (go_simp; with_reducible rfl)) ?_  -- slice 22 (tmp 17) none (some (tmp 18)) none
        refine till_free (i := 4) rfl (by kernel_rfl) (by kernel_rfl) (by kernel_rfl) rfl (fun _ _ _ h => h) (.inr hS) (by rfl) (fun _ => by first | (go_simp; done) | (go_simp; with_reducible rfl)) ?_  -- move (tmp 0)
        refine till_free (i := 5) rfl (by kernel_rfl) (by kernel_rfl) (by kernel_rfl) rfl (fun _ _ _ h => h) (.inr hS) (by rfl) (fun _ => by first | (go_simp; done) | (go_simp; with_reducible rfl)) ?_  -- move (tmp 3)
        refine till_free (i := 6) rfl (by kernel_rfl) (by kernel_rfl) (by kernel_rfl) rfl (fun _ _ _ h => h) (.inr hS) (by rfl) (fun _ => by first | (go_simp; done) | (go_simp; with_reducible rfl)) ?_  -- slice 22 (tmp 21) (some (tmp 22)) none none
        have hd1 : Below w1.heap.size w1 w1.drew := belowN (Below.refl w1.heap.size w1) 1
        have Ht1 := Hid2.mk (Ht0.out.below hd1 (Nat.le_refl _))
        have Hd1 := Hid2.mk (Hd0.out.below hd1 (Nat.le_refl _))
        have HBd := Hid2.mk (belowN HB.out 1)
        have HRd := Hid2.mk (HR.out.drewN 1)
        refine till_one (i := 3) (by kernel_rfl) rfl ?_; intro K hK
        go_simp
        refine (Hih.out k hkl hLlt.out Ht1.out (by omega)).mono ?_
        rintro e w2 ⟨rfl, hb2⟩
        have Hd2 := Hid2.mk (Hd1.out.below hb2 (Nat.le_refl _))
        have HB2 := Hid2.mk (HBd.out.trans (hb2.mono HBd.out.size))
        have HR2 := Hid2.mk (HRd.out.below hb2 HRd.out.lt)
        refine hK _ _ (.inr trivial) ?_
        clear hK K hb2 hd1
        refine till_one (i := 7) (by kernel_rfl) rfl ?_; intro K hK
        go_simp
        refine (Hih.out (n - k) (by omega) hLld.out Hd2.out (by omega)).mono ?_
        rintro e w3 ⟨rfl, hb3⟩
        have HB3 := Hid2.mk (HB2.out.trans (hb3.mono HB2.out.size))
        have HR3 := Hid2.mk (HR2.out.below hb3 HR2.out.lt)
        refine hK _ _ (.inr trivial) ?_
        clear hK K hb3
        generalize rt A = ra at Hrt la ⊢
        generalize rt B = rb at Hrt lb ⊢
        have hlen := nodeP_len ra rb
        refine till_one (i := 8) (by kernel_rfl) rfl ?_; intro K hK
        go_simp
        refine (refNode_a _ la lb).mono ?_
        rintro e w4 ⟨rfl, hb4⟩
        obtain ⟨rr, hrr⟩ : ∃ rr, rr = nodeP ra rb := ⟨_, rfl⟩
        have Hrr := Hid2.mk (show rt l = rr by rw [Hrt.out, hrr])
        rw [← hrr] at hlen ⊢
        have HB4 := Hid2.mk (HB3.out.trans (hb4.mono HB3.out.size))
        have HR4 := Hid2.mk (HR3.out.below hb4 HR3.out.lt)
        refine hK _ _ (.inl rfl) ?_
        clear hK K hb4 hrr Hrt
        refine till_one (i := 9) (by kernel_rfl) rfl ?_; intro K hK
        refine Dig.step_store_row rfl 23 (.tmp 2) (.tmp 25) rfl w.heap.size (rr.map (Value.int .u8)).toArray rfl rfl 23 (Dig.Z32.map (Value.int .u8)).toArray HR4.out (infoH rr hlen) (sizeH _ _ z32_len hlen) (oneH _) ?_
        refine hK _ _ (.inl rfl) ?_
        clear hK K
        refine till_done (by kernel_rfl) ?_ _
        go_wp2_with fail
        refine bodyPost_ret (results_cell_row rfl _ _ w.heap.size 23 (rr.map (Value.int .u8)).toArray (0, 0) _ rfl (setRow_heap _ _ _ _ _ _ HR4.out) Tryd.underlying23 rfl (infoH rr hlen)) rfl ⟨by rw [Hrr.out], below_setRow HB4.out (Nat.le_refl _) _⟩

end Mk
end Go.Proofs.YtlamdhekjlnccaaDoor

/- The document's Leaf (chapter 2). -/
namespace Go.Proofs.YtlamdhekjlnccaaDoor
open Go.RowKit
namespace K
theorem rleaf_any {w : World} {v : Value} {l : List Int} (hv : Sl .u8 w v l) (hn : l.length ≤ 17592186044416) :
    Calls Tryd.prog 29 #[v] w fun e w' => e = .returned (.agg (hashC (Dig.sumL (0 :: l))).toArray) ∧ Below w.heap.size w w' := by
  refine enter (args := [v]) Tryd.func29 rfl Tryd.ntmps29 rfl ?_
  refine kgo ?_
  refine WL.alloc (z := .agg (hashC Dig.Z32).toArray) rfl rfl rfl rfl (Dig.zero25) fun g w1 hf => ?_
  have hf' : Fresh w g w1 23 (hashC Dig.Z32) := hf
  clear hf
  have hz := hf'.size
  have he := hf'.eq
  refine kgo ?_
  refine WL.lit rfl rfl rfl rfl rfl rfl rfl fun b2 w2 hb2 hk2 hg2 => ?_
  have hw2 : Below w.heap.size w w2 := hf'.below.trans (hk2.mono (by omega))
  refine kgo ?_
  refine WL.app rfl rfl rfl rfl rfl hb2 rfl (hv.of_below hw2) (by simp only [List.length_cons, List.length_nil]; omega) fun b3 w3 hb3 hg3 => ?_
  have hk3 : Below w1.heap.size w1 w3 := hk2.trans (hg3.old hk2.size hg2)
  refine WL.call rfl rfl rfl rfl rfl Tryd.func27 rfl (by kernel_rfl) (Dig.refSum_s b3 _ w3 hb3.sl (by rw [List.length_append]; simp only [List.length_cons, List.length_nil]; omega)) ?_
  rintro _ w4 ⟨rfl, hk4⟩
  refine ⟨_, rfl, ?_⟩
  have hk4' : Below w1.heap.size w1 w4 := hk3.trans (hk4.mono hk3.size)
  have B4 := hf'.blk.below hk4' hf'.blk.lt
  have hlen : (hashC (Dig.sumL (0 :: l))).length = 32 := by rw [List.length_map]; exact Dig.sumL_length _
  refine WL.storeRow rfl rfl rfl rfl rfl rfl B4 hlen (by rfl) (Ones.int _ _) ?_
  refine kgo ?_
  exact WQ.retC rfl rfl rfl hlen (B4.setRow _) ⟨rfl, below_setRow (hf'.below.trans (hk4'.mono (by omega))) (by omega) _⟩
end K
end Go.Proofs.YtlamdhekjlnccaaDoor

/- Blocks (chapter 11): the document's Leaves. -/
namespace Go.Proofs.YtlamdhekjlnccaaDoor
open Go.RowKit
namespace K
theorem elemH : ElemV Tryd.prog 34 23 32 32 := ElemV.mk' (z := .agg (hashC Dig.Z32).toArray) Tryd.underlying34 (by kernel_rfl) rfl (by omega)
set_option maxHeartbeats 4000000 in
theorem rleaves_any {f : Nat} {w : World} {b : Bk} {cs : List Value} (h : IsB f w b cs) (hck : ∀ e ∈ b.ents, chkE e = 0) (hle : b.ents.length ≤ 200) :
    Calls Tryd.prog 10 #[.agg cs.toArray] w fun r w' => Below w.heap.size w w' ∧ ∃ v, r = .returned v ∧ Mk.HS w' (fun x => w.heap.size ≤ x) v (b.ents.map leafH) := by
  have hcl := h.len
  obtain ⟨se, rfl, hents, hpl, hpb, hr⟩ := h
  obtain ⟨sp, cap, rfl⟩ := hents.slice
  refine enter (args := [.agg (bkC b (.slice sp b.ents.length cap)).toArray]) Tryd.func10 rfl Tryd.ntmps10 rfl ?_
  refine kgo ?_
  refine WL.box rfl rfl rfl rfl rfl fun g w1 hf => ?_
  have hf' : Fresh w g w1 26 (bkC b (.slice sp b.ents.length cap)) := hf
  clear hf
  have hg := hf'.eq
  have hz1 := hf'.size
  have hw1 : Below w.heap.size w w1 := hf'.below
  have B1 : BkAt 26 g w1 b (.slice sp b.ents.length cap) := ⟨hf'.blk, hpl⟩
  clear hf'
  refine kgo ?_
  refine WC.loop (fun i : Nat × Value => [(1, .pointer (some ⟨g, 0, none⟩)), (3, i.2), (4, .int .i64 i.1)])
    (fun i wr => i.1 ≤ b.ents.length ∧ Below w1.heap.size w1 wr ∧ OwnV 23 32 wr (fun x => w1.heap.size ≤ x) i.2 i.1 (Mk.cellsH ((b.ents.take i.1).map leafH))) (fun i => b.ents.length - i.1) (0, .slice none 0 0)
    ⟨rfl, rfl, rfl, trivial⟩ ⟨Nat.zero_le _, Below.refl _ _, OwnV.nil _ _ _ _⟩ ?_
  rintro ⟨i, vk⟩ wr ⟨hi, hbr, hown⟩
  simp only at hi hbr hown ⊢
  have Br := B1.below hbr
  have hwr : Below w.heap.size w wr := hw1.trans (hbr.mono hw1.size)
  have hzr := hbr.size
  refine kgo ?_
  refine WL.load rfl rfl rfl rfl rfl rfl Br.ents ?_
  by_cases hik : i < b.ents.length
  · obtain ⟨kb, ko, cap', cs, hse, hkb, hc46, hce, hcr⟩ := hents.at hik
    injection hse with hse1 _ hse2
    subst hse1; subst hse2
    have hmem : b.ents.getD i noE ∈ b.ents := by simp [hik]
    have hce0 := hck _ hmem
    have hts := take_snoc b.ents noE hik
    generalize b.ents.getD i noE = e at hce hce0 hts
    obtain ⟨hform, -⟩ := chkE_ok hce0
    obtain ⟨-, -, -, -, htx, -⟩ := formE_rng hform
    have hh : e.hash.length = 32 := by obtain ⟨_, -, -, -, -, hl, -⟩ := hce; exact hl
    have hle := layE_len e hh
    refine kgo ?_
    refine WL.load rfl rfl rfl rfl rfl rfl Br.ents ?_
    refine kgo ?_
    refine WL.idx i (ko + i * 46) rfl rfl rfl rfl rfl rfl rfl rfl hik rfl ?_
    refine WL.loadMid rfl rfl rfl rfl rfl rfl (fun j u hu => (hwr.cell (p := ⟨kb, ko + i * 46 + j, none⟩) hkb).trans (hcr j u hu)) hc46 ?_
    refine WL.call rfl rfl rfl rfl rfl Tryd.func30 rfl (by kernel_rfl) (rBytes_any (IsE.below hwr hce) hform) ?_
    rintro _ w7 ⟨b7, rfl, hb7, hk7, ho7⟩
    refine ⟨_, rfl, ?_⟩
    refine WL.call rfl rfl rfl rfl rfl Tryd.func29 rfl (by kernel_rfl) (rleaf_any hb7.sl (by omega)) ?_
    rintro _ w8 ⟨rfl, hk8⟩
    refine ⟨_, rfl, ?_⟩
    have hlh : (hashC (leafH e)).length = 32 := by rw [List.length_map]; exact leafH_len e
    refine WL.lit1 (cs := hashC (leafH e)) rfl rfl rfl rfl rfl rfl rfl hlh ⟨by omega, by omega⟩ (by kernel_rfl) fun g9 w9 hf9 => ?_
    have hk79 : Below wr.heap.size wr w9 := (hk7.trans (hk8.mono hk7.size)).trans (hf9.below.mono (Nat.le_trans hk7.size hk8.size))
    have hown9 := hown.keep (Keep.of_below hk79) fun x hx => hown.lt hx
    have hsl := SlV.fresh1 hf9 (Ones.int _ _)
    rw [hlh] at hsl
    refine WL.appV rfl rfl rfl rfl elemH rfl hown9 rfl hsl (by omega) (by omega) fun v10 w10 ho10 hg10 => ?_
    have hbel10 : Below w1.heap.size w1 w10 := (hbr.trans (hk79.mono hzr)).trans (hg10.old (by have := hk79.size; omega) fun g hg => hown9.own hg)
    refine kgo ?_
    refine WQ.again (i + 1, v10) ⟨rfl, rfl, rfl, trivial⟩ ⟨hik, hbel10, ?_⟩ (by show b.ents.length - (i + 1) < b.ents.length - i; omega)
    show OwnV _ _ _ _ _ (i + 1) (Mk.cellsH ((b.ents.take (i + 1)).map leafH))
    have e1 : Mk.cellsH ((b.ents.take (i + 1)).map leafH) = Mk.cellsH ((b.ents.take i).map leafH) ++ hashC (leafH e) := by
      rw [hts, List.map_append, Mk.cellsH_app]
      simp [Mk.cellsH]
    rw [e1]
    exact ho10.mono fun x hx => by have := hk79.size; omega
  · obtain rfl : i = b.ents.length := by omega
    rw [List.take_length] at hown
    refine kgo ?_
    refine WQ.ret1 rfl rfl ⟨hwr, vk, rfl, okh_leaves b.ents, ?_⟩
    rw [List.length_map]
    exact hown.slV.mono fun x hx => by omega
end K
end Go.Proofs.YtlamdhekjlnccaaDoor

/- BlockJoins (chapter 11): the law. -/
namespace Go.Proofs.YtlamdhekjlnccaaDoor
open Go.RowKit
namespace K
set_option maxHeartbeats 16000000 in
theorem blockJoins_law {f : Nat} {w : World} {b : Bk} {c1 : List Value} {oh : List Int} (h : IsB f w b c1) (hm : ∀ e ∈ b.ents, Sml f e.data) (hoh : oh.length = 32) (hT : Mk.Tab w) :
    Calls Tryd.prog 3 #[.agg c1.toArray, .agg (hashC oh).toArray] w fun e w' => e = .returned (.bool true) ∧ Below w.heap.size w w' := by
  have hall := h
  have hl1 := h.len
  have hol : (hashC oh).length = 32 := by rw [List.length_map]; exact hoh
  obtain ⟨se, rfl, hents, hpl, hpb, hr⟩ := h
  obtain ⟨sp, cap, rfl⟩ := hents.slice
  refine enter (args := [.agg (bkC b (.slice sp b.ents.length cap)).toArray, .agg (hashC oh).toArray]) Tryd.func3 rfl Tryd.ntmps3 rfl ?_
  refine kgo ?_
  refine WL.box rfl rfl rfl rfl rfl fun g1 w1 hf1 => ?_
  have hf1' : Fresh w g1 w1 26 (bkC b (.slice sp b.ents.length cap)) := hf1
  clear hf1
  refine WL.box rfl rfl rfl rfl rfl fun g2 w2 hf2 => ?_
  have hf2' : Fresh w1 g2 w2 23 (hashC oh) := hf2
  clear hf2
  have hw2 : Below w.heap.size w w2 := hf1'.below.trans (hf2'.below.mono hf1'.below.size)
  have B2 : BkAt 26 g1 w2 b (.slice sp b.ents.length cap) := ⟨hf1'.blk.below hf2'.below hf1'.blk.lt, hpl⟩
  have P2 := hf2'.blk
  clear hf1' hf2'
  refine kgo ?_
  refine WL.loadMid rfl rfl rfl rfl rfl rfl (VBlk.rangeAt B2.blk) hl1 ?_
  refine WL.call rfl rfl rfl rfl rfl Tryd.func5 rfl (by kernel_rfl) (heavy_any (IsB.below hw2 hall) hm) ?_
  rintro _ w3 ⟨hk3, p1, rfl, hp1⟩
  refine ⟨_, rfl, ?_⟩
  have hw3 := hw2.trans (hk3.mono hw2.size)
  have B3 := B2.below hk3
  have P3 := P2.below hk3 P2.lt
  cases p1 with
  | true =>
    refine kgo ?_
    exact WQ.ret1 rfl rfl ⟨rfl, hw3⟩
  | false =>
  have hlen := hp1 rfl
  refine kgo ?_
  refine WL.loadMid rfl rfl rfl rfl rfl rfl (VBlk.rangeAt B3.blk) hl1 ?_
  refine WL.call rfl rfl rfl rfl rfl Tryd.func6 rfl (by kernel_rfl) (hash11_any (IsB.below hw3 hall) (hT.below hw3 (Nat.le_refl _)) hlen) ?_
  rintro _ w4 ⟨rfl, hk4⟩
  refine ⟨_, rfl, ?_⟩
  have hbl : (hashC (hashBV b)).length = 32 := by rw [List.length_map]; exact hashBV_len b
  refine kgo ?_
  refine WL.alloc (z := .agg (hashC Dig.Z32).toArray) rfl rfl rfl rfl (Dig.zero25) fun hb w5 hf5 => ?_
  have hf5' : Fresh w4 hb w5 23 (hashC Dig.Z32) := hf5
  clear hf5
  refine WL.storeRow rfl rfl rfl rfl rfl rfl hf5'.blk hbl (by rfl) (Ones.int _ _) ?_
  have hk6 : Below w4.heap.size w4 (w5.setRow hb (hashC (hashBV b)).toArray) := below_setRow hf5'.below (by rw [hf5'.eq]; exact Nat.le_refl _) _
  have H6 : VBlk 23 (w5.setRow hb (hashC (hashBV b)).toArray) hb (hashC (hashBV b)) := hf5'.blk.setRow _
  generalize w5.setRow hb (hashC (hashBV b)).toArray = w6 at hk6 H6
  clear hf5'
  have hk36 : Below w3.heap.size w3 w6 := hk4.trans (hk6.mono hk4.size)
  have hw6 := hw3.trans (hk36.mono hw3.size)
  have B6 := B3.below hk36
  have P6 := P3.below hk36 P3.lt
  by_cases hc : chkB b = 0
  rotate_left
  · refine kgo ?_
    refine WL.call rfl rfl rfl rfl rfl Tryd.func7 rfl (by kernel_rfl) known_any ?_
    rintro _ w9 ⟨rfl, hk9⟩
    refine ⟨_, rfl, ?_⟩
    refine kgo ?_
    exact WQ.ret1 rfl rfl ⟨rfl, hw6.trans (hk9.mono hw6.size)⟩
  obtain ⟨⟨-, -, -, hln1, hln2⟩, hck, -⟩ := chkB_ok hc
  have hv : hashBV b = hashH b := by unfold hashBV; rw [if_neg (by simpa using hc)]
  have hrl : (rootH b).length = 32 := Mk.rt_len (okh_leaves b.ents)
  have hcl2 : (hashC (chainP (rootH b) (uvB b.ents.length))).length = 32 := by rw [List.length_map]; exact chainP_len _ _
  refine kgo ?_
  refine WC.mid (fun c : Nat => [(2, .pointer (some ⟨g1, 0, none⟩)), (3, .pointer (some ⟨g2, 0, none⟩)), (5, .pointer (some ⟨hb, 0, none⟩)), (7, .pointer (some ⟨c, 0, none⟩))])
    (fun c wx => BkAt 26 g1 wx b (.slice sp b.ents.length cap) ∧ VBlk 23 wx g2 (hashC oh) ∧ VBlk 23 wx hb (hashC (hashBV b)) ∧ VBlk 23 wx c (hashC (chainP (rootH b) (uvB b.ents.length))) ∧ Below w.heap.size w wx) rfl ?_ ?_
  · refine WC.drawn 6 (fun wx => BkAt 26 g1 wx b (.slice sp b.ents.length cap)) fun w7 hd7 => ?_
    have ka : Below w6.heap.size w6 w7 := hd7.below _
    have hS : BkAt 26 g1 w7 b (.slice sp b.ents.length cap) := B6.below ka
    refine WD.loadMid 0 [1, 2, 6, 8] rfl (by kernel_rfl) rfl rfl (fun _ _ _ _ _ h => h) rfl rfl rfl rfl (fun wx hx => VBlk.rangeAt hx.blk) hl1 hS ?_
    (((first | refine WD.free 3 rfl (by kernel_rfl) rfl rfl (fun _ _ _ _ _ h => h) rfl rfl (.inr hS) ?_ | refine WD.skip 3 rfl (by kernel_rfl) rfl rfl (fun _ _ _ _ _ h => h) rfl (.inr hS) ?_); try (first | ((with_reducible refine WD.topT ?_ ?_); omega) | ((with_reducible refine WD.topF ?_ ?_); omega) | ((with_reducible refine WD.top64 ?_ ?_); omega))))
    refine WD.load 4 [5, 6, 8] rfl (by kernel_rfl) rfl rfl (fun _ _ _ _ _ h => h) rfl rfl rfl rfl (fun wx hx => hx.ents) hS ?_
    (((first | refine WD.free 5 rfl (by kernel_rfl) rfl rfl (fun _ _ _ _ _ h => h) rfl rfl (.inr hS) ?_ | refine WD.skip 5 rfl (by kernel_rfl) rfl rfl (fun _ _ _ _ _ h => h) rfl (.inr hS) ?_); try (first | ((with_reducible refine WD.topT ?_ ?_); omega) | ((with_reducible refine WD.topF ?_ ?_); omega) | ((with_reducible refine WD.top64 ?_ ?_); omega))))
    refine WD.two 1 7 (by kernel_rfl) rfl rfl ?_ ?_
    · refine WL.call rfl rfl rfl rfl rfl Tryd.func10 rfl (by kernel_rfl) (rleaves_any (IsB.below (hw6.trans (ka.mono hw6.size)) hall) hck hln2) ?_
      rintro _ x8 ⟨kb, lv, rfl, hls⟩
      refine ⟨_, rfl, ?_⟩
      have ka : Below w6.heap.size w6 x8 := ka.trans (kb.mono ka.size)
      have hS := hS.below kb
      clear kb
      refine WL.nil (WQ.dk (.inr hS) ?_)
      refine WD.two 2 7 (by kernel_rfl) rfl rfl ?_ ?_
      · refine WL.call rfl rfl rfl rfl rfl Tryd.func9 rfl (by kernel_rfl) (Mk.refRoot_any (b.ents.map leafH).length rfl hls (by rw [List.length_map]; omega)) ?_
        rintro _ x9 ⟨rfl, kb⟩
        refine ⟨_, rfl, ?_⟩
        have ka : Below w6.heap.size w6 x9 := ka.trans (kb.mono ka.size)
        have hS := hS.below kb
        clear kb
        refine WL.nil (WQ.dk (.inr hS) ?_)
        refine WD.two 6 7 (by kernel_rfl) rfl rfl ?_ ?_
        · refine WL.call rfl rfl rfl rfl rfl Tryd.func8 rfl (by kernel_rfl) (rentriesOf_any (la := rootH b) hrl (n := b.ents.length) (by omega)) ?_
          rintro _ x10 ⟨rfl, kb⟩
          refine ⟨_, rfl, ?_⟩
          have ka : Below w6.heap.size w6 x10 := ka.trans (kb.mono ka.size)
          have hS := hS.below kb
          clear kb
          refine WL.nil (WQ.dk (.inl rfl) ?_)
          refine WD.one 7 (by kernel_rfl) rfl ?_
          refine WL.alloc (z := .agg (hashC Dig.Z32).toArray) rfl rfl rfl rfl (Dig.zero25) fun c x11 hf => ?_
          have hf' : Fresh x10 c x11 23 (hashC Dig.Z32) := hf
          clear hf
          have kb := hf'.below
          have C := hf'.blk
          have hcw : w6.heap.size ≤ c := by have := hf'.eq; have := ka.size; omega
          clear hf'
          have ka : Below w6.heap.size w6 x11 := ka.trans (kb.mono ka.size)
          have hS := hS.below kb
          clear kb
          refine WL.nil (WQ.dk (.inl rfl) ?_)
          refine WD.one 8 (by kernel_rfl) rfl ?_
          have kc := ka
          refine WL.storeRow rfl rfl rfl rfl rfl rfl C hcl2 (by rfl) (Ones.int _ _) ?_
          have hne : w6.heap.size ≤ c := hcw
          refine WL.nil (WQ.dk (.inl rfl) ?_)
          refine WD.done (by kernel_rfl) ?_
          have kd : Below w6.heap.size w6 (x11.setRow c (hashC (chainP (rootH b) (uvB b.ents.length))).toArray) := Keep.below (Keep.setRow (Keep.of_below ka) (fun hk => by omega) _)
          exact WQ.meet c ⟨rfl, rfl, rfl, rfl, trivial⟩ ⟨B6.below kd, P6.below kd P6.lt, H6.below kd H6.lt, C.setRow _, hw6.trans (kd.mono hw6.size)⟩
        · refine WL.alloc (z := .agg (hashC Dig.Z32).toArray) rfl rfl rfl rfl (Dig.zero25) fun c x12 hf => ?_
          have hf' : Fresh x9 c x12 23 (hashC Dig.Z32) := hf
          clear hf
          have kb := hf'.below
          have C := hf'.blk
          have hcw : w6.heap.size ≤ c := by have := hf'.eq; have := ka.size; omega
          clear hf'
          have ka : Below w6.heap.size w6 x12 := ka.trans (kb.mono ka.size)
          have hS := hS.below kb
          clear kb
          refine WL.nil (WQ.dk (.inr hS) ?_)
          refine WD.one 6 (by kernel_rfl) rfl ?_
          refine WL.call rfl rfl rfl rfl rfl Tryd.func8 rfl (by kernel_rfl) (rentriesOf_any (la := rootH b) hrl (n := b.ents.length) (by omega)) ?_
          rintro _ x13 ⟨rfl, kb⟩
          refine ⟨_, rfl, ?_⟩
          have C := C.below kb C.lt
          have ka : Below w6.heap.size w6 x13 := ka.trans (kb.mono ka.size)
          have hS := hS.below kb
          clear kb
          refine WL.nil (WQ.dk (.inl rfl) ?_)
          refine WD.one 8 (by kernel_rfl) rfl ?_
          have kc := ka
          refine WL.storeRow rfl rfl rfl rfl rfl rfl C hcl2 (by rfl) (Ones.int _ _) ?_
          have hne : w6.heap.size ≤ c := hcw
          refine WL.nil (WQ.dk (.inl rfl) ?_)
          refine WD.done (by kernel_rfl) ?_
          have kd : Below w6.heap.size w6 (x13.setRow c (hashC (chainP (rootH b) (uvB b.ents.length))).toArray) := Keep.below (Keep.setRow (Keep.of_below ka) (fun hk => by omega) _)
          exact WQ.meet c ⟨rfl, rfl, rfl, rfl, trivial⟩ ⟨B6.below kd, P6.below kd P6.lt, H6.below kd H6.lt, C.setRow _, hw6.trans (kd.mono hw6.size)⟩
      · refine WL.alloc (z := .agg (hashC Dig.Z32).toArray) rfl rfl rfl rfl (Dig.zero25) fun c x14 hf => ?_
        have hf' : Fresh x8 c x14 23 (hashC Dig.Z32) := hf
        clear hf
        have kb := hf'.below
        have C := hf'.blk
        have hcw : w6.heap.size ≤ c := by have := hf'.eq; have := ka.size; omega
        clear hf'
        have hls := hls.below kb (Nat.le_refl _)
        have ka : Below w6.heap.size w6 x14 := ka.trans (kb.mono ka.size)
        have hS := hS.below kb
        clear kb
        refine WL.nil (WQ.dk (.inr hS) ?_)
        refine WD.one 2 (by kernel_rfl) rfl ?_
        refine WL.call rfl rfl rfl rfl rfl Tryd.func9 rfl (by kernel_rfl) (Mk.refRoot_any (b.ents.map leafH).length rfl hls (by rw [List.length_map]; omega)) ?_
        rintro _ x15 ⟨rfl, kb⟩
        refine ⟨_, rfl, ?_⟩
        have C := C.below kb C.lt
        have ka : Below w6.heap.size w6 x15 := ka.trans (kb.mono ka.size)
        have hS := hS.below kb
        clear kb
        refine WL.nil (WQ.dk (.inr hS) ?_)
        refine WD.one 6 (by kernel_rfl) rfl ?_
        refine WL.call rfl rfl rfl rfl rfl Tryd.func8 rfl (by kernel_rfl) (rentriesOf_any (la := rootH b) hrl (n := b.ents.length) (by omega)) ?_
        rintro _ x16 ⟨rfl, kb⟩
        refine ⟨_, rfl, ?_⟩
        have C := C.below kb C.lt
        have ka : Below w6.heap.size w6 x16 := ka.trans (kb.mono ka.size)
        have hS := hS.below kb
        clear kb
        refine WL.nil (WQ.dk (.inl rfl) ?_)
        refine WD.one 8 (by kernel_rfl) rfl ?_
        have kc := ka
        refine WL.storeRow rfl rfl rfl rfl rfl rfl C hcl2 (by rfl) (Ones.int _ _) ?_
        have hne : w6.heap.size ≤ c := hcw
        refine WL.nil (WQ.dk (.inl rfl) ?_)
        refine WD.done (by kernel_rfl) ?_
        have kd : Below w6.heap.size w6 (x16.setRow c (hashC (chainP (rootH b) (uvB b.ents.length))).toArray) := Keep.below (Keep.setRow (Keep.of_below ka) (fun hk => by omega) _)
        exact WQ.meet c ⟨rfl, rfl, rfl, rfl, trivial⟩ ⟨B6.below kd, P6.below kd P6.lt, H6.below kd H6.lt, C.setRow _, hw6.trans (kd.mono hw6.size)⟩
    · refine WL.alloc (z := .agg (hashC Dig.Z32).toArray) rfl rfl rfl rfl (Dig.zero25) fun c x17 hf => ?_
      have hf' : Fresh w7 c x17 23 (hashC Dig.Z32) := hf
      clear hf
      have kb := hf'.below
      have C := hf'.blk
      have hcw : w6.heap.size ≤ c := by have := hf'.eq; have := ka.size; omega
      clear hf'
      have ka : Below w6.heap.size w6 x17 := ka.trans (kb.mono ka.size)
      have hS := hS.below kb
      clear kb
      refine WL.nil (WQ.dk (.inr hS) ?_)
      refine WD.one 1 (by kernel_rfl) rfl ?_
      refine WL.call rfl rfl rfl rfl rfl Tryd.func10 rfl (by kernel_rfl) (rleaves_any (IsB.below (hw6.trans (ka.mono hw6.size)) hall) hck hln2) ?_
      rintro _ x18 ⟨kb, lv, rfl, hls⟩
      refine ⟨_, rfl, ?_⟩
      have C := C.below kb C.lt
      have ka : Below w6.heap.size w6 x18 := ka.trans (kb.mono ka.size)
      have hS := hS.below kb
      clear kb
      refine WL.nil (WQ.dk (.inr hS) ?_)
      refine WD.one 2 (by kernel_rfl) rfl ?_
      refine WL.call rfl rfl rfl rfl rfl Tryd.func9 rfl (by kernel_rfl) (Mk.refRoot_any (b.ents.map leafH).length rfl hls (by rw [List.length_map]; omega)) ?_
      rintro _ x19 ⟨rfl, kb⟩
      refine ⟨_, rfl, ?_⟩
      have C := C.below kb C.lt
      have ka : Below w6.heap.size w6 x19 := ka.trans (kb.mono ka.size)
      have hS := hS.below kb
      clear kb
      refine WL.nil (WQ.dk (.inr hS) ?_)
      refine WD.one 6 (by kernel_rfl) rfl ?_
      refine WL.call rfl rfl rfl rfl rfl Tryd.func8 rfl (by kernel_rfl) (rentriesOf_any (la := rootH b) hrl (n := b.ents.length) (by omega)) ?_
      rintro _ x20 ⟨rfl, kb⟩
      refine ⟨_, rfl, ?_⟩
      have C := C.below kb C.lt
      have ka : Below w6.heap.size w6 x20 := ka.trans (kb.mono ka.size)
      have hS := hS.below kb
      clear kb
      refine WL.nil (WQ.dk (.inl rfl) ?_)
      refine WD.one 8 (by kernel_rfl) rfl ?_
      have kc := ka
      refine WL.storeRow rfl rfl rfl rfl rfl rfl C hcl2 (by rfl) (Ones.int _ _) ?_
      have hne : w6.heap.size ≤ c := hcw
      refine WL.nil (WQ.dk (.inl rfl) ?_)
      refine WD.done (by kernel_rfl) ?_
      have kd : Below w6.heap.size w6 (x20.setRow c (hashC (chainP (rootH b) (uvB b.ents.length))).toArray) := Keep.below (Keep.setRow (Keep.of_below ka) (fun hk => by omega) _)
      exact WQ.meet c ⟨rfl, rfl, rfl, rfl, trivial⟩ ⟨B6.below kd, P6.below kd P6.lt, H6.below kd H6.lt, C.setRow _, hw6.trans (kd.mono hw6.size)⟩
  rintro c w8 ⟨B8, P8, H8, C8, hw8⟩
  rw [hv] at hbl H8
  have hbl2 := hashH_len b
  have hjl : (joinP oh (hashH b)).length = 32 := Dig.sumL_length _
  have hj2 : (joinP (headH b) (chainP (rootH b) (uvB b.ents.length))).length = 32 := Dig.sumL_length _
  have hnode : ∀ {wx : World}, Calls Tryd.prog 13 #[.agg (hashC oh).toArray, .agg (hashC (hashH b)).toArray] wx fun e w' => e = .returned (.agg (hashC (joinP oh (hashH b))).toArray) ∧ Below wx.heap.size wx w' := fun {wx} => Dig.refNode_any oh (hashH b) wx hoh hbl2
  have hjeq : joinP (headH b) (chainP (rootH b) (uvB b.ents.length)) = hashH b := by unfold hashH; rfl
  refine kgo ?_
  refine WC.drawn 12 (fun wx => BkAt 26 g1 wx b (.slice sp b.ents.length cap) ∧ VBlk 23 wx g2 (hashC oh) ∧ VBlk 23 wx hb (hashC (hashH b)) ∧ VBlk 23 wx c (hashC (chainP (rootH b) (uvB b.ents.length)))) fun w9 hd9 => ?_
  have kS : ∀ {wx wy : World}, (BkAt 26 g1 wx b (.slice sp b.ents.length cap) ∧ VBlk 23 wx g2 (hashC oh) ∧ VBlk 23 wx hb (hashC (hashH b)) ∧ VBlk 23 wx c (hashC (chainP (rootH b) (uvB b.ents.length)))) → Below wx.heap.size wx wy →
      (BkAt 26 g1 wy b (.slice sp b.ents.length cap) ∧ VBlk 23 wy g2 (hashC oh) ∧ VBlk 23 wy hb (hashC (hashH b)) ∧ VBlk 23 wy c (hashC (chainP (rootH b) (uvB b.ents.length)))) :=
    fun h hk => ⟨h.1.below hk, h.2.1.below hk h.2.1.lt, h.2.2.1.below hk h.2.2.1.lt, h.2.2.2.below hk h.2.2.2.lt⟩
  have hS := kS ⟨B8, P8, H8, C8⟩ (hd9.below _)
  have hw9 : Below w.heap.size w w9 := hw8.trans ((hd9.below w8.heap.size).mono hw8.size)
  refine WD.loadMid 0 [1, 3, 5, 6, 7, 8, 9, 10, 11, 12, 13, 14, 15, 16, 17, 18] rfl (by kernel_rfl) rfl rfl (fun _ _ _ _ _ h => h) rfl rfl rfl rfl (fun wx hx => VBlk.rangeAt hx.1.blk) hl1 hS ?_
  refine WD.loadMid 2 [3, 5, 6, 7, 8, 9, 10, 11, 12, 13, 14, 15, 16, 17, 18] rfl (by kernel_rfl) rfl rfl (fun _ _ _ _ _ h => h) rfl rfl rfl rfl (fun wx hx => VBlk.rangeAt hx.2.2.2) hcl2 hS ?_
  refine WD.loadMid 4 [5, 6, 7, 8, 9, 10, 11, 12, 13, 14, 15, 16, 17, 18] rfl (by kernel_rfl) rfl rfl (fun _ _ _ _ _ h => h) rfl rfl rfl rfl (fun wx hx => VBlk.rangeAt hx.2.2.1) hbl hS ?_
  refine WD.one 1 (by kernel_rfl) rfl ?_
  refine WL.call rfl rfl rfl rfl rfl Tryd.func12 rfl (by kernel_rfl) (headTop_any (IsB.below hw9 hall)) ?_
  rintro _ w10 ⟨rfl, hk10⟩
  refine ⟨_, rfl, ?_⟩
  have hS := kS hS hk10
  have hw10 := hw9.trans (hk10.mono hw9.size)
  refine WL.nil (WQ.dk (.inr hS) ?_)
  refine WD.one 3 (by kernel_rfl) rfl ?_
  refine WL.call rfl rfl rfl rfl rfl Tryd.func11 rfl (by kernel_rfl) (join_any (x := headH b) (Dig.sumL_length _) (chainP_len _ _)) ?_
  rintro _ w11 ⟨rfl, hk11⟩
  refine ⟨_, rfl, ?_⟩
  have hS := kS hS hk11
  have hw11 := hw10.trans (hk11.mono hw10.size)
  refine WL.nil (WQ.dk (.inr hS) ?_)
  refine WD.one 5 (by kernel_rfl) rfl ?_
  refine WL.eqlH rfl rfl rfl rfl rfl rfl hj2 hbl2 ?_
  refine WL.as 30 (.bool true) rfl (congrArg Value.bool (decide_eq_true hjeq)) ?_
  refine WL.nil (WQ.dk (.inr hS) ?_)
  (((first | refine WD.free 6 rfl (by kernel_rfl) rfl rfl (fun _ _ _ _ _ h => h) rfl rfl (.inr hS) ?_ | refine WD.skip 6 rfl (by kernel_rfl) rfl rfl (fun _ _ _ _ _ h => h) rfl (.inr hS) ?_); try (first | ((with_reducible refine WD.topT ?_ ?_); omega) | ((with_reducible refine WD.topF ?_ ?_); omega) | ((with_reducible refine WD.top64 ?_ ?_); omega))))
  refine WD.loadMid 7 [9, 12, 13, 14, 15, 16, 17, 18] rfl (by kernel_rfl) rfl rfl (fun _ _ _ _ _ h => h) rfl rfl rfl rfl (fun wx hx => VBlk.rangeAt hx.2.1) hol hS ?_
  refine WD.loadMid 8 [9, 12, 13, 14, 15, 16, 17, 18] rfl (by kernel_rfl) rfl rfl (fun _ _ _ _ _ h => h) rfl rfl rfl rfl (fun wx hx => VBlk.rangeAt hx.2.2.1) hbl hS ?_
  refine WD.loadMid 10 [12, 13, 14, 15, 16, 17, 18] rfl (by kernel_rfl) rfl rfl (fun _ _ _ _ _ h => h) rfl rfl rfl rfl (fun wx hx => VBlk.rangeAt hx.2.1) hol hS ?_
  refine WD.loadMid 11 [12, 13, 14, 15, 16, 17, 18] rfl (by kernel_rfl) rfl rfl (fun _ _ _ _ _ h => h) rfl rfl rfl rfl (fun wx hx => VBlk.rangeAt hx.2.2.1) hbl hS ?_
  refine WD.one 9 (by kernel_rfl) rfl ?_
  refine WL.on rfl rfl ?_
  refine WL.call rfl rfl rfl rfl rfl Tryd.func11 rfl (by kernel_rfl) (join_any hoh hbl2) ?_
  rintro _ w12 ⟨rfl, hk12⟩
  refine ⟨_, rfl, ?_⟩
  have hS := kS hS hk12
  have hw12 := hw11.trans (hk12.mono hw11.size)
  refine WL.nil (WQ.dk (.inr hS) ?_)
  refine WD.one 12 (by kernel_rfl) rfl ?_
  refine WL.on rfl rfl ?_
  refine WL.call rfl rfl rfl rfl rfl Tryd.func13 rfl (by kernel_rfl) hnode ?_
  rintro _ w13 ⟨rfl, hk13⟩
  refine ⟨_, rfl, ?_⟩
  have hw13 := hw12.trans (hk13.mono hw12.size)
  refine WL.nil (WQ.dk (.inl rfl) ?_)
  refine WD.one 13 (by kernel_rfl) rfl ?_
  refine WL.on rfl rfl ?_
  refine WL.eqlH rfl rfl rfl rfl rfl rfl hjl hjl ?_
  refine WL.as 38 (.bool true) rfl (congrArg Value.bool (decide_eq_true rfl)) ?_
  refine WL.nil (WQ.dk (.inl rfl) ?_)
  (((first | refine WD.free 14 rfl (by kernel_rfl) rfl rfl (fun _ _ _ _ _ h => h) rfl rfl (.inl rfl) ?_ | refine WD.skip 14 rfl (by kernel_rfl) rfl rfl (fun _ _ _ _ _ h => h) rfl (.inl rfl) ?_); try (first | ((with_reducible refine WD.topT ?_ ?_); omega) | ((with_reducible refine WD.topF ?_ ?_); omega) | ((with_reducible refine WD.top64 ?_ ?_); omega))); ((first | refine WD.free 15 rfl (by kernel_rfl) rfl rfl (fun _ _ _ _ _ h => h) rfl rfl (.inl rfl) ?_ | refine WD.skip 15 rfl (by kernel_rfl) rfl rfl (fun _ _ _ _ _ h => h) rfl (.inl rfl) ?_); try (first | ((with_reducible refine WD.topT ?_ ?_); omega) | ((with_reducible refine WD.topF ?_ ?_); omega) | ((with_reducible refine WD.top64 ?_ ?_); omega))))
  refine WD.one 16 (by kernel_rfl) rfl ?_
  refine WL.on rfl rfl ?_
  refine WL.call rfl rfl rfl rfl rfl Tryd.func7 rfl (by kernel_rfl) known_any ?_
  rintro _ w14 ⟨rfl, hk14⟩
  refine ⟨_, rfl, ?_⟩
  refine WL.nil (WQ.dk (.inl rfl) ?_)
  (((first | refine WD.free 17 rfl (by kernel_rfl) rfl rfl (fun _ _ _ _ _ h => h) rfl rfl (.inl rfl) ?_ | refine WD.skip 17 rfl (by kernel_rfl) rfl rfl (fun _ _ _ _ _ h => h) rfl (.inl rfl) ?_); try (first | ((with_reducible refine WD.topT ?_ ?_); omega) | ((with_reducible refine WD.topF ?_ ?_); omega) | ((with_reducible refine WD.top64 ?_ ?_); omega))))
  refine WD.one 18 (by kernel_rfl) rfl ?_
  refine WL.pure rfl rfl rfl rfl ?_
  refine WL.nil (WQ.dk (.inl rfl) ?_)
  refine WD.done (by kernel_rfl) ?_
  refine kgo ?_
  exact WQ.ret1 rfl rfl ⟨rfl, hw13.trans (hk14.mono hw13.size)⟩
end K
end Go.Proofs.YtlamdhekjlnccaaDoor

/- The library's table, as the row lays it (chapter 11; began as MkArgs). -/
namespace Go.Proofs.YtlamdhekjlnccaaDoor
open Go.ChangeShapes Go.WideShapes Go.ChangeAt Go.RowKit
namespace Mk

/-- What the row lays, and its variable's name. -/
def laidL : List (String × DataW Unit) := Rows.blockJoinsRow.laid
def tabName : String := (laidL.map (·.1)).headD Rows.blockJoinsRow.func
theorem laidL_is : laidL = [(tabName, Rows.laid_math_bits_deBruijn64tab)] := rfl
theorem gTab : Tryd.prog.globalNamed tabName = some 0 := by kernel_rfl
theorem tTab : (Tryd.prog.globals[0]?).map (·.type) = some 116 := by kernel_rfl
theorem datum_is : (Rows.laid_math_bits_deBruijn64tab : DataW Unit) = .agg (Lib.deBruijn64tab.map fun n : Nat => .lit (.int .u8 (n : Int))) := rfl

theorem of_laid {W : World} (h : laidMetH Tryd.prog laidL W) : Tab W := by
  rw [MakeChecks.laidMetH_plain _ _ _ (by kernel_rfl), laidL_is] at h
  obtain ⟨ps, ⟨g0, t0, cs0, f0, p0, q0, hg0, ht0, hv0, hd0, _, _⟩, _, _⟩ := h
  obtain rfl := Option.some.inj (gTab.symm.trans hg0)
  obtain rfl := Option.some.inj (tTab.symm.trans ht0)
  obtain ⟨xs, m1, rfl, hx1, hlen, hn3, hel⟩ := DataW.trod_array Tryd.underlying116 hd0
  have c5 : Tryd.prog.cellsOf 5 = 1 := by kernel_rfl
  simp only [Prod.mk.injEq] at hx1
  have hxs : Lib.deBruijn64tab.map (fun n : Nat => (DataW.lit (.int .u8 (n : Int)) : DataW Unit)) = xs.map (·.1) := by
    have := hx1.1
    rw [datum_is] at this
    injection this
  intro j hj
  have hj64 : j < 64 := hj
  have h0 := hel j hj64
  obtain ⟨x, hx⟩ : ∃ x, xs[j]? = some x := ⟨xs[j]'(by omega), List.getElem?_eq_getElem (by omega)⟩
  rw [hx] at h0
  obtain ⟨k, e1, e2, _⟩ := DataW.trod_int Tryd.underlying5 h0
  have e1' : (cs0.toList.drop j).take 1 = [.int .u8 k] := by
    rw [c5, Nat.mul_one] at e1; exact e1
  have hk : (Lib.deBruijn64tab.map (fun n : Nat => (DataW.lit (.int .u8 (n : Int)) : DataW Unit)))[j]? = some x.1 := by rw [hxs, List.getElem?_map, hx]; rfl
  rw [e2, List.getElem?_map] at hk
  have hjl : j < Lib.deBruijn64tab.length := hj
  rw [List.getElem?_eq_getElem hjl] at hk
  simp only [Option.map_some, Option.some.injEq, DataW.lit.injEq, Lit.int.injEq, true_and] at hk
  have hcell := World.var?_cell hg0 hv0 j
  have e3 : cs0[j]? = some (.int .u8 k) := by
    have : ((cs0.toList.drop j).take 1)[0]? = some (.int .u8 k) := by rw [e1']; rfl
    simpa using this
  show W.cell? ⟨0, j, none⟩ = _
  rw [hcell, e3, ← hk]
  have : Lib.deBruijn64tab.getD j 0 = Lib.deBruijn64tab[j] := by simp [hjl]
  rw [this]

/-- The door's own heap meets the condition. -/
theorem door_met (os : Os) (args : Array Value) : laidMetH Tryd.prog laidL ((World.doorLaid Tryd.prog 14 os).forCall (fun _ _ => 0) ⟨#[], args, []⟩).memory :=
  laidMetH_of_parts3 (fuel := 8) (laidMet_of_run' 8 (by kernel_rfl) (by kernel_rfl)) (by kernel_rfl) (by kernel_rfl)
end Mk
end Go.Proofs.YtlamdhekjlnccaaDoor

/- Values that come in: what they read as. -/
namespace Go.Proofs.YtlamdhekjlnccaaDoor
open Go.ChangeShapes Go.WideShapes Go.ChangeAt Go.RowKit
namespace K

section
variable {H : Type} {P : Program}
/-- All weights are within reach. -/
def WOk (P : Program) (t : TypeId) (d : DataW H) : Prop := ∀ n ∈ d.weights P t, n ≤ reachBytes
theorem weightsAll_mem {e : TypeId} : ∀ {ds : List (DataW H)} {d : DataW H} {n : Nat}, d ∈ ds → n ∈ d.weights P e → n ∈ DataW.weightsAll P e ds
  | d0 :: ds, d, n, hd, hn => by
    rw [DataW.weightsAll, List.mem_append]
    rcases List.mem_cons.1 hd with rfl | hd
    · exact .inl hn
    · exact .inr (weightsAll_mem hd hn)
theorem WOk.slice {t e : TypeId} {elems spare : List (DataW H)} (hu : P.underlying t = some (.slice e)) (h : WOk P t (.slice elems spare)) : (elems.length + spare.length) * P.bytesOf e ≤ reachBytes ∧ ∀ d ∈ elems, WOk P e d := by
  unfold WOk at h
  rw [DataW.weights, hu] at h
  simp only [List.mem_cons, List.mem_append] at h
  exact ⟨h _ (.inl rfl), fun d hd n hn => h n (.inr (.inl (weightsAll_mem hd hn)))⟩
theorem WOk.agg {t : TypeId} {fs : Array Field} {parts : List (DataW H)} (hu : P.underlying t = some (.struct fs)) (h : WOk P t (.agg parts)) {i : Nat} {f : Field} {d : DataW H} (hf : fs[i]? = some f) (hd : parts[i]? = some d) : WOk P f.type d := by
  unfold WOk at h
  rw [DataW.weights, hu] at h
  exact fun n hn => h n (DataW.weights_mem_each (j := i) (by simp [hf]) hd n hn)
theorem WOk.string {t : TypeId} {l : List UInt8} (h : WOk P t (.lit (.string l) : DataW H)) : l.length ≤ reachBytes := h _ (by simp [DataW.weights])
end

section
variable {H : Type} {enc : TypeId × Value → H} {W : World} {base : Nat} {held : Bool}
theorem reach_le {n : Nat} (h : n ≤ reachBytes) : n ≤ 140737488355328 := Nat.le_trans h (by decide)

/-- A slice, opened at each place. -/
theorem open_sl2 {t e : TypeId} {fuel : Nat} {v : Value} {x : DataW H × List MemPlace} (m : Nat) (hm0 : 0 < m) (hu : Tryd.prog.underlying t = some (.slice e)) (hce : Tryd.prog.cellsOf e = m) (h : DataW.trod enc Tryd.prog W base (fun _ => true) held fuel t [v] = some x) :
    ∃ sp len cap, v = .slice sp len cap ∧ len ≤ cap ∧ cap ≤ 9223372036854775807 ∧ ∃ n elems rest, n < fuel ∧ (x.1 = .slice (elems.map (·.1)) rest ∨ (x.1 = .nil ∧ elems = [])) ∧ elems.length = len ∧
      ∀ i, i < len → ∃ (b o : Nat) (cs : List Value) (y : DataW H × List MemPlace), sp = some ⟨b, o, none⟩ ∧ b < W.heap.size ∧ cs.length = m ∧ W.rangeAt b (o + i * m) cs ∧ elems[i]? = some y ∧ DataW.trod enc Tryd.prog W base (fun _ => true) held n e cs = some y := by
  rcases DataW.trod_slice hu h with ⟨hcs, rfl⟩ | ⟨a, len, cap, elems, rest, n, rfl, hcs, rfl, hb, hl, hcap, hlen, hel, -, -⟩
  · obtain rfl : v = .slice none 0 0 := by simpa using hcs
    cases fuel with
    | zero => simp [DataW.trod] at h
    | succ f => exact ⟨none, 0, 0, rfl, Nat.le_refl _, by omega, f, [], [], by omega, .inr ⟨rfl, rfl⟩, rfl, fun i hi => absurd hi (by omega)⟩
  · obtain rfl : v = .slice (some a) len cap := by simpa using hcs
    refine ⟨some a, len, cap, rfl, hl, by unfold maxLen at hcap; exact hcap, n, elems, rest.map (·.1), by omega, .inl rfl, hlen, fun i hi => ?_⟩
    have h1 := hel i hi
    rw [hce] at h1
    obtain ⟨y, hy⟩ : ∃ y, elems[i]? = some y := ⟨elems[i], List.getElem?_eq_getElem (by omega)⟩
    rw [hy] at h1
    obtain ⟨cs, hc1, hc2⟩ := Option.bind_eq_some_iff.1 h1
    obtain ⟨-, hcl, hat⟩ := World.cells?_some hc1
    have h00 := hel 0 (by omega)
    rw [hce] at h00
    obtain ⟨y0, hy0⟩ : ∃ y, elems[0]? = some y := ⟨elems[0], List.getElem?_eq_getElem (by omega)⟩
    rw [hy0] at h00
    obtain ⟨cs0, hc01, -⟩ := Option.bind_eq_some_iff.1 h00
    obtain ⟨-, hcl0, hat0⟩ := World.cells?_some hc01
    have hx0 := hat0 0 hm0
    have e0 : (a.add (0 * m)).add 0 = a := by rw [Nat.zero_mul]; rfl
    rw [e0, List.getElem?_eq_getElem (by omega)] at hx0
    have hsp := cell_spot hx0
    obtain ⟨b, o, s⟩ := a
    simp only at hsp
    subst hsp
    refine ⟨b, o, cs, y, rfl, block_lt_of_cell hx0, hcl, fun j u hj => ?_, hy, hc2⟩
    have hjl : j < m := by
      rcases Nat.lt_or_ge j m with h | h
      · exact h
      · rw [List.getElem?_eq_none (by omega)] at hj; cases hj
    have := hat j hjl
    rw [addr_add, addr_add] at this
    rw [this]; exact hj

theorem Six.mono {P P' : V → List Value → Prop} {w : World} {v : Value} {l : List V} (h : Six P w v l) (hP : ∀ x cs, P x cs → P' x cs) : Six P' w v l := by
  obtain ⟨sp, cap, h1, h2, h3, h4⟩ := h
  refine ⟨sp, cap, h1, h2, h3, fun h0 => ?_⟩
  obtain ⟨b, o, e, hlt, hr⟩ := h4 h0
  refine ⟨b, o, e, hlt, fun j hj => ?_⟩
  obtain ⟨cs, hc, hp, hat⟩ := hr j hj
  exact ⟨cs, hc, hP _ _ hp, hat⟩
theorem IsV.mono {w : World} : ∀ {f f' : Nat} {v : V} {cs : List Value}, f ≤ f' → IsV f w v cs → IsV f' w v cs
  | 0, _, _, _, _, h => h.elim
  | f + 1, f', v, cs, hf, h => by
    obtain ⟨g, rfl⟩ : ∃ g, f' = g + 1 := ⟨f' - 1, by omega⟩
    obtain ⟨sn, sk, h1, h2, h3, h4, h5, h6, h7⟩ := h
    exact ⟨sn, sk, h1, h2, h3, h4, h5, h6, Six.mono h7 fun _ _ hp => IsV.mono (by omega) hp⟩
theorem Sml.mono : ∀ {f f' : Nat} {v : V}, f ≤ f' → Sml f v → Sml f' v
  | 0, _, _, _, h => h.elim
  | f + 1, f', v, hf, h => by
    obtain ⟨g, rfl⟩ : ∃ g, f' = g + 1 := ⟨f' - 1, by omega⟩
    exact ⟨h.1, h.2.1, fun x hx => Sml.mono (by omega) (h.2.2 x hx)⟩

theorem cellsV : Tryd.prog.cellsOf 48 = 6 := by kernel_rfl
theorem cellsI : Tryd.prog.cellsOf 3 = 1 := by kernel_rfl
theorem cellsS : Tryd.prog.cellsOf 9 = 1 := by kernel_rfl
theorem cellsSS : Tryd.prog.cellsOf 45 = 1 := by kernel_rfl
theorem cellsVV : Tryd.prog.cellsOf 46 = 1 := by kernel_rfl
theorem bytesS : Tryd.prog.bytesOf 9 = 16 := by kernel_rfl
theorem bytesV : Tryd.prog.bytesOf 48 = 88 := by kernel_rfl

theorem open_strs2 {fuel : Nat} {v : Value} {x : DataW H × List MemPlace} (h : DataW.trod enc Tryd.prog W base (fun _ => true) held fuel 45 [v] = some x) (hz : WOk Tryd.prog 45 x.1) :
    ∃ l, Strs W v l ∧ l.length ≤ 140737488355328 := by
  obtain ⟨sp, len, cap, rfl, hl, hc, n, elems, rest, -, hx, hlen, hel⟩ := open_sl2 1 (by omega) Tryd.underlying45 cellsS h
  have key : ∀ i, i < len → ∃ (s : ByteArray), s.size ≤ 140737488355328 ∧ ∃ b o, sp = some ⟨b, o, none⟩ ∧ b < W.heap.size ∧ W.cell? ⟨b, o + i, none⟩ = some (.string s) := by
    intro i hi
    obtain ⟨b, o, cs, y, hsp, hb, hcl, hat, hy, ht⟩ := hel i hi
    obtain ⟨s, rfl, rfl, -⟩ := DataW.trod_string Tryd.underlying9 ht
    have hw : WOk Tryd.prog 9 (.lit (.string s.data.toList) : DataW H) := by
      rcases hx with hx | ⟨-, rfl⟩
      · rw [hx] at hz
        exact (hz.slice Tryd.underlying45).2 _ (List.mem_map.2 ⟨_, List.mem_of_getElem? hy, rfl⟩)
      · cases hy
    have := hw.string
    rw [Array.length_toList] at this
    refine ⟨s, reach_le this, b, o, hsp, hb, ?_⟩
    have := hat 0 _ rfl
    rw [Nat.mul_one] at this
    exact this
  have : Inhabited ByteArray := ⟨noT⟩
  obtain ⟨g, hg⟩ := Deep.choose_lt key
  have hget : ∀ k, k < len → ((List.range len).map g).getD k noT = g k := fun k hk => by simp [hk]
  have hll : ((List.range len).map g).length = len := by simp
  refine ⟨(List.range len).map g, ⟨sp, cap, by rw [hll], by rw [hll]; exact hl, hc, fun j hj => ?_, fun h0 => ?_⟩, ?_⟩
  · rw [hll] at hj; rw [hget j hj]; exact (hg j hj).1
  · rw [hll] at h0
    obtain ⟨-, b, o, hsp, hb, -⟩ := hg 0 h0
    refine ⟨b, o, hsp, hb, fun j hj => ?_⟩
    rw [hll] at hj
    obtain ⟨-, b2, o2, hsp2, -, hcell⟩ := hg j hj
    rw [hsp] at hsp2
    cases hsp2
    rw [hget j hj]; exact hcell
  · rw [hll]
    rcases hx with hx | ⟨-, rfl⟩
    · rw [hx] at hz
      have := (hz.slice Tryd.underlying45).1
      rw [bytesS, List.length_map, hlen] at this
      exact reach_le (by omega)
    · simp at hlen; omega

theorem open_vals2 : ∀ (fuel : Nat), (∀ n, n < fuel → ∀ {cs : List Value} {x : DataW H × List MemPlace}, DataW.trod enc Tryd.prog W base (fun _ => true) held n 48 cs = some x → WOk Tryd.prog 48 x.1 → ∃ v, IsV n W v cs ∧ Sml n v) →
    ∀ {v : Value} {x : DataW H × List MemPlace}, DataW.trod enc Tryd.prog W base (fun _ => true) held fuel 46 [v] = some x → WOk Tryd.prog 46 x.1 → ∃ l n, n < fuel ∧ IsVs n W v l ∧ (∀ y ∈ l, Sml n y) ∧ l.length ≤ 140737488355328 := by
  intro fuel ih v x h hz
  obtain ⟨sp, len, cap, rfl, hl, hc, n, elems, rest, hn, hx, hlen, hel⟩ := open_sl2 6 (by omega) Tryd.underlying46 cellsV h
  have key : ∀ i, i < len → ∃ (y : V), Sml n y ∧ ∃ b o cs, sp = some ⟨b, o, none⟩ ∧ b < W.heap.size ∧ cs.length = 6 ∧ IsV n W y cs ∧ W.rangeAt b (o + i * 6) cs := by
    intro i hi
    obtain ⟨b, o, cs, y, hsp, hb, hcl, hat, hy, ht⟩ := hel i hi
    have hw : WOk Tryd.prog 48 y.1 := by
      rcases hx with hx | ⟨-, rfl⟩
      · rw [hx] at hz
        exact (hz.slice Tryd.underlying46).2 _ (List.mem_map.2 ⟨_, List.mem_of_getElem? hy, rfl⟩)
      · cases hy
    obtain ⟨v, hv, hs⟩ := ih n hn ht hw
    exact ⟨v, hs, b, o, cs, hsp, hb, hcl, hv, hat⟩
  obtain ⟨g, hg⟩ := Deep.choose_lt key
  have hget : ∀ k, k < len → ((List.range len).map g).getD k noV = g k := fun k hk => by simp [hk]
  have hll : ((List.range len).map g).length = len := by simp
  refine ⟨(List.range len).map g, n, hn, ⟨sp, cap, by rw [hll], by rw [hll]; exact hl, hc, fun h0 => ?_⟩, fun y hy => ?_, ?_⟩
  · rw [hll] at h0
    obtain ⟨-, b, o, -, hsp, hb, -⟩ := hg 0 h0
    refine ⟨b, o, hsp, hb, fun j hj => ?_⟩
    rw [hll] at hj
    obtain ⟨-, b2, o2, cs, hsp2, -, hcl, hv, hat⟩ := hg j hj
    rw [hsp] at hsp2
    cases hsp2
    rw [hget j hj]
    exact ⟨cs, hcl, hv, hat⟩
  · obtain ⟨i, hi, rfl⟩ := List.mem_map.1 hy
    exact (hg i (List.mem_range.1 hi)).1
  · rw [hll]
    rcases hx with hx | ⟨-, rfl⟩
    · rw [hx] at hz
      have := (hz.slice Tryd.underlying46).1
      rw [bytesV, List.length_map, hlen] at this
      exact reach_le (by omega)
    · simp at hlen; omega

theorem take1 {l : List Value} {o : Nat} {v : Value} (h : (l.drop o).take 1 = [v]) : l[o]? = some v := by
  have : ((l.drop o).take 1)[0]? = some v := by rw [h]; rfl
  simpa [List.getElem?_take] using this
set_option maxRecDepth 100000 in
set_option maxHeartbeats 1000000 in
theorem open_val : ∀ (fuel : Nat) {cs : List Value} {x : DataW H × List MemPlace}, DataW.trod enc Tryd.prog W base (fun _ => true) held fuel 48 cs = some x → WOk Tryd.prog 48 x.1 → ∃ v, IsV fuel W v cs ∧ Sml fuel v := by
  intro fuel
  induction fuel using Nat.strongRecOn with
  | _ fuel ih =>
    intro cs x h hz
    obtain ⟨xs, n, rfl, rfl, hl, hxl, hx⟩ := DataW.trod_struct Tryd.underlying48 h
    have hxl' : xs.length = 6 := hxl
    rw [cellsV] at hl
    have e : ∀ i, i < 6 → ∃ y, xs[i]? = some y := fun i hi => ⟨xs[i], List.getElem?_eq_getElem (by omega)⟩
    obtain ⟨x0, e0⟩ := e 0 (by omega)
    obtain ⟨x1, e1⟩ := e 1 (by omega)
    obtain ⟨x2, e2⟩ := e 2 (by omega)
    obtain ⟨x3, e3⟩ := e 3 (by omega)
    obtain ⟨x4, e4⟩ := e 4 (by omega)
    obtain ⟨x5, e5⟩ := e 5 (by omega)
    have h0 := hx 0 _ rfl
    have h1 := hx 1 _ rfl
    have h2 := hx 2 _ rfl
    have h3 := hx 3 _ rfl
    have h4 := hx 4 _ rfl
    have h5 := hx 5 _ rfl
    rw [e0] at h0; rw [e1] at h1; rw [e2] at h2; rw [e3] at h3; rw [e4] at h4; rw [e5] at h5
    have z : ∀ {i : Nat} {f : Field} {y : DataW H × List MemPlace}, _ → xs[i]? = some y → WOk Tryd.prog f.type y.1 := fun {i f y} hf hy => WOk.agg Tryd.underlying48 hz (i := i) (f := f) hf (by rw [List.getElem?_map, hy]; rfl)
    have z3 : WOk Tryd.prog 9 x3.1 := z (i := 3) rfl e3
    have z4 : WOk Tryd.prog 45 x4.1 := z (i := 4) rfl e4
    have z5 : WOk Tryd.prog 46 x5.1 := z (i := 5) rfl e5
    obtain ⟨a, ha, -, wa⟩ := DataW.trod_int Tryd.underlying3 h0
    obtain ⟨b, hb, -, wb⟩ := DataW.trod_int Tryd.underlying3 h1
    obtain ⟨c, hc, -, wc⟩ := DataW.trod_int Tryd.underlying3 h2
    obtain ⟨s, hs, hs2, -⟩ := DataW.trod_string Tryd.underlying9 h3
    have t0 : cs[0]? = some (.int .i64 a) := take1 (by rw [← cellsI]; exact ha)
    have t1 : cs[1]? = some (.int .i64 b) := take1 (by rw [← cellsI]; exact hb)
    have t2 : cs[2]? = some (.int .i64 c) := take1 (by rw [← cellsI]; exact hc)
    have t3 : cs[3]? = some (.string s) := take1 (by rw [← cellsS]; exact hs)
    match cs, hl with
    | [c0, c1, c2, c3, c4, c5], _ =>
      simp at t0 t1 t2 t3
      subst t0; subst t1; subst t2; subst t3
      have h4' : DataW.trod enc Tryd.prog W base (fun _ => true) held n 45 [c4] = some x4 := h4
      have h5' : DataW.trod enc Tryd.prog W base (fun _ => true) held n 46 [c5] = some x5 := h5
      obtain ⟨names, hnm, hnl⟩ := open_strs2 h4' z4
      obtain ⟨kids, k, hk, hkd, hks, hkl⟩ := open_vals2 n (fun q hq {cs x} h1 h2 => ih q (by omega) h1 h2) h5' z5
      rw [hs2] at z3
      have hsz := z3.string
      rw [Array.length_toList] at hsz
      refine ⟨.mk a b c s names kids, ⟨c4, c5, rfl, wa, wb, wc, reach_le hsz, hnm, Six.mono hkd fun _ _ hp => IsV.mono (by omega) hp⟩, hnl, hkl, fun y hy => Sml.mono (by omega) (hks y hy)⟩
set_option maxRecDepth 100000 in
/-- A row of values that comes in. -/
theorem open_vals {b0 : Nat} {r : Reach} {v : Value} {d : DataW H} {p : List MemPlace} (hval : Value.okWide Tryd.prog W r b0 46 v) (h : DataW.Trod enc Tryd.prog W base (fun _ => true) held 46 v d p) :
    (∀ n ∈ d.weights Tryd.prog 46, n ≤ reachBytes) → ∃ f l, IsVs f W v l ∧ (∀ x ∈ l, Sml f x) ∧ l.length ≤ 140737488355328 := by
  intro hz
  obtain ⟨a, len, cap, rfl⟩ := okWide_slice Tryd.underlying46 hval
  obtain ⟨fuel, hf⟩ := h
  obtain ⟨l, n, -, h1, h2, h3⟩ := open_vals2 fuel (fun n _ {cs x} h1 h2 => open_val n h1 h2) (v := .slice a len cap) hf hz
  exact ⟨n, l, h1, h2, h3⟩
set_option maxRecDepth 100000
/-- A value that comes in. -/
theorem open_valA {b0 : Nat} {r : Reach} {v : Value} {d : DataW H} {p : List MemPlace} (hval : Value.okWide Tryd.prog W r b0 48 v) (h : DataW.Trod enc Tryd.prog W base (fun _ => true) held 48 v d p) :
    (∀ n ∈ d.weights Tryd.prog 48, n ≤ reachBytes) → ∃ f x cs, v = .agg cs.toArray ∧ IsV f W x cs ∧ Sml f x := by
  intro hz
  obtain ⟨cs, rfl, -⟩ := okWide_struct Tryd.underlying48 hval
  obtain ⟨fuel, hf⟩ := h
  obtain ⟨x, h1, h2⟩ := open_val fuel (cs := cs.toList) hf hz
  exact ⟨fuel, x, cs.toList, by rw [Array.toArray_toList], h1, h2⟩
/-- A row of bytes that comes in, with its size. -/
theorem open_bytes {b0 : Nat} {r : Reach} {v : Value} {d : DataW H} {p : List MemPlace} (hval : Value.okWide Tryd.prog W r b0 39 v) (h : DataW.Trod enc Tryd.prog W base (fun _ => true) held 39 v d p) :
    (∀ n ∈ d.weights Tryd.prog 39, n ≤ reachBytes) → ∃ l, Sl .u8 W v l ∧ (∀ c ∈ l, 0 ≤ c ∧ c ≤ 255) ∧ l.length ≤ 140737488355328 := by
  intro hz
  obtain ⟨l, hs, hw⟩ := open_sl Tryd.underlying39 Tryd.underlying5 (by kernel_rfl) hval h
  refine ⟨l, hs, fun c hc => ?_, ?_⟩
  · have := hw c hc
    simp [Lit.wf, IntKind.min, IntKind.max, IntKind.bits, IntKind.signed] at this
    omega
  · obtain ⟨sp0, cap0, rfl, -⟩ := hs
    obtain ⟨fuel, hf⟩ := h
    obtain ⟨sp, len, cap, e, -, -, n, elems, rest, -, hx, hlen, -⟩ := open_sl2 1 (by omega) Tryd.underlying39 (by kernel_rfl) (v := .slice sp0 l.length cap0) hf
    injection e with _ e2 _
    rcases hx with hx | ⟨-, rfl⟩
    · have hz' : WOk Tryd.prog 39 d := hz
      simp only at hx
      rw [hx] at hz'
      have := (hz'.slice Tryd.underlying39).1
      rw [show Tryd.prog.bytesOf 5 = 1 by kernel_rfl, List.length_map, hlen] at this
      exact reach_le (by omega)
    · simp at hlen; omega
end
end K
end Go.Proofs.YtlamdhekjlnccaaDoor

/- Blocks and entries that come in: what they read as. -/
namespace Go.Proofs.YtlamdhekjlnccaaDoor
open Go.ChangeShapes Go.WideShapes Go.ChangeAt Go.RowKit
namespace K
section
variable {H : Type} {enc : TypeId × Value → H} {W : World} {base : Nat} {held : Bool}
/-- A digest. -/
theorem open_hash {fuel : Nat} {cs : List Value} {x : DataW H × List MemPlace} (h : DataW.trod enc Tryd.prog W base (fun _ => true) held fuel 23 cs = some x) (hl : cs.length = 32) :
    ∃ l : List Int, cs = hashC l ∧ l.length = 32 ∧ Byt l := by
  obtain ⟨xs, m, -, -, -, hxl, hx⟩ := DataW.trod_array Tryd.underlying23 h
  have he : Tryd.prog.cellsOf 5 = 1 := by kernel_rfl
  have hel : ∀ i, i < 32 → ∃ q : Int, cs[i]? = some (.int .u8 q) ∧ 0 ≤ q ∧ q ≤ 255 := by
    intro i hi
    have h1 := hx i hi
    rw [he, Nat.mul_one, List.getElem?_eq_getElem (by omega)] at h1
    obtain ⟨q, e1, -, e2⟩ := DataW.trod_int Tryd.underlying5 h1
    refine ⟨q, take1 e1, ?_⟩
    simp [Lit.wf, IntKind.min, IntKind.max, IntKind.bits, IntKind.signed] at e2
    omega
  have : Inhabited Int := ⟨0⟩
  obtain ⟨g, hg⟩ := Deep.choose_lt hel
  refine ⟨(List.range 32).map g, ?_, by simp, fun c hc => ?_⟩
  · refine List.ext_getElem? fun i => ?_
    by_cases hi : i < 32
    · rw [(hg i hi).1]; simp [hi]
    · rw [List.getElem?_eq_none (by omega), List.getElem?_eq_none (by simp; omega)]
  · obtain ⟨i, hi, rfl⟩ := List.mem_map.1 hc
    exact (hg i (List.mem_range.1 hi)).2
theorem cut5 {α : Type} (cs : List α) : cs = cs.take 5 ++ ((cs.drop 5).take 6 ++ ((cs.drop 11).take 32 ++ cs.drop 43)) := by
  have h1 : cs.drop 43 = (cs.drop 11).drop 32 := by rw [List.drop_drop]
  have h2 : cs.drop 11 = (cs.drop 5).drop 6 := by rw [List.drop_drop]
  rw [h1, List.take_append_drop, h2, List.take_append_drop, List.take_append_drop]
theorem r64_of_wf {x : Int} (h : (Lit.int .i64 x).wf = true) : R64 x := by
  simp [Lit.wf, IntKind.min, IntKind.max, IntKind.bits, IntKind.signed] at h; omega
set_option maxRecDepth 100000 in
set_option maxHeartbeats 2000000 in
theorem open_en {fuel : Nat} {cs : List Value} {x : DataW H × List MemPlace} (h : DataW.trod enc Tryd.prog W base (fun _ => true) held fuel 52 cs = some x) (hz : WOk Tryd.prog 52 x.1) :
    ∃ e, IsE fuel W e cs ∧ Sml fuel e.data := by
  obtain ⟨xs, n, rfl, rfl, hl, hxl, hx⟩ := DataW.trod_struct Tryd.underlying52 h
  have hxl' : xs.length = 9 := hxl
  have hcl : cs.length = 46 := hl.trans (by kernel_rfl)
  have e : ∀ i, i < 9 → ∃ y, xs[i]? = some y := fun i hi => ⟨xs[i], List.getElem?_eq_getElem (by omega)⟩
  obtain ⟨x0, e0⟩ := e 0 (by omega)
  obtain ⟨x1, e1⟩ := e 1 (by omega)
  obtain ⟨x2, e2⟩ := e 2 (by omega)
  obtain ⟨x3, e3⟩ := e 3 (by omega)
  obtain ⟨x4, e4⟩ := e 4 (by omega)
  obtain ⟨x5, e5⟩ := e 5 (by omega)
  obtain ⟨x6, e6⟩ := e 6 (by omega)
  obtain ⟨x7, e7⟩ := e 7 (by omega)
  obtain ⟨x8, e8⟩ := e 8 (by omega)
  have h0 := hx 0 _ rfl
  have h1 := hx 1 _ rfl
  have h2 := hx 2 _ rfl
  have h3 := hx 3 _ rfl
  have h4 := hx 4 _ rfl
  have h5 := hx 5 _ rfl
  have h6 := hx 6 _ rfl
  have h7 := hx 7 _ rfl
  have h8 := hx 8 _ rfl
  rw [e0] at h0; rw [e1] at h1; rw [e2] at h2; rw [e3] at h3; rw [e4] at h4; rw [e5] at h5; rw [e6] at h6; rw [e7] at h7; rw [e8] at h8
  have z : ∀ {i : Nat} {f : Field} {y : DataW H × List MemPlace}, _ → xs[i]? = some y → WOk Tryd.prog f.type y.1 := fun {i f y} hf hy => WOk.agg Tryd.underlying52 hz (i := i) (f := f) hf (by rw [List.getElem?_map, hy]; rfl)
  have z1 : WOk Tryd.prog 9 x1.1 := z (i := 1) rfl e1
  have z5 : WOk Tryd.prog 48 x5.1 := z (i := 5) rfl e5
  obtain ⟨a, ha, -, wa⟩ := DataW.trod_int Tryd.underlying3 h0
  obtain ⟨s, hs, hs2, -⟩ := DataW.trod_string Tryd.underlying9 h1
  obtain ⟨b, hb, -, wb⟩ := DataW.trod_int Tryd.underlying3 h2
  obtain ⟨c, hc, -, wc⟩ := DataW.trod_int Tryd.underlying3 h3
  obtain ⟨d, hd, -, wd⟩ := DataW.trod_int Tryd.underlying3 h4
  have h5' : DataW.trod enc Tryd.prog W base (fun _ => true) held n 48 ((cs.drop 5).take (Tryd.prog.cellsOf 48)) = some x5 := h5
  rw [cellsV] at h5'
  obtain ⟨v, hv, hvs⟩ := open_val n h5' z5
  have h6' : DataW.trod enc Tryd.prog W base (fun _ => true) held n 23 ((cs.drop 11).take (Tryd.prog.cellsOf 23)) = some x6 := h6
  rw [show Tryd.prog.cellsOf 23 = 32 by kernel_rfl] at h6'
  obtain ⟨hh, hhe, hhl, hhb⟩ := open_hash h6' (by simp [hcl])
  obtain ⟨g, hg, -⟩ := DataW.trod_bool Tryd.underlying4 h7
  have h8' : DataW.trod enc Tryd.prog W base (fun _ => true) held n 50 ((cs.drop 44).take (Tryd.prog.cellsOf 50)) = some x8 := h8
  rw [show Tryd.prog.cellsOf 50 = 2 by kernel_rfl] at h8'
  obtain ⟨ys, n8, -, -, hl8, hyl, hy⟩ := DataW.trod_struct Tryd.underlying50 h8'
  have hyl' : ys.length = 2 := hyl
  obtain ⟨y0, f0⟩ : ∃ y, ys[0]? = some y := ⟨ys[0], List.getElem?_eq_getElem (by omega)⟩
  obtain ⟨y1, f1⟩ : ∃ y, ys[1]? = some y := ⟨ys[1], List.getElem?_eq_getElem (by omega)⟩
  have k0 := hy 0 _ rfl
  have k1 := hy 1 _ rfl
  rw [f0] at k0; rw [f1] at k1
  obtain ⟨ab, hab, -, wab⟩ := DataW.trod_int Tryd.underlying3 k0
  obtain ⟨ae, hae, -, wae⟩ := DataW.trod_int Tryd.underlying3 k1
  have t0 : cs[0]? = some (.int .i64 a) := take1 (by rw [← cellsI]; exact ha)
  have t1 : cs[1]? = some (.string s) := take1 (by rw [← cellsS]; exact hs)
  have t2 : cs[2]? = some (.int .i64 b) := take1 (by rw [← cellsI]; exact hb)
  have t3 : cs[3]? = some (.int .i64 c) := take1 (by rw [← cellsI]; exact hc)
  have t4 : cs[4]? = some (.int .i64 d) := take1 (by rw [← cellsI]; exact hd)
  have t43 : cs[43]? = some (.bool g) := take1 (by rw [← show Tryd.prog.cellsOf 4 = 1 by kernel_rfl]; exact hg)
  have t44 : ((cs.drop 44).take 2)[0]? = some (.int .i64 ab) := take1 (by rw [← cellsI]; exact hab)
  have t45 : ((cs.drop 44).take 2)[1]? = some (.int .i64 ae) := take1 (by rw [← cellsI]; exact hae)
  have t44' : cs[44]? = some (.int .i64 ab) := by simpa using t44
  have t45' : cs[45]? = some (.int .i64 ae) := by simpa using t45
  have hsz : s.size ≤ 140737488355328 := by
    rw [hs2] at z1
    have := z1.string
    rw [Array.length_toList] at this
    exact reach_le this
  have hhead : cs.take 5 = [.int .i64 a, .string s, .int .i64 b, .int .i64 c, .int .i64 d] := by
    refine List.ext_getElem? fun i => ?_
    match i with
    | 0 => simpa using t0
    | 1 => simpa using t1
    | 2 => simpa using t2
    | 3 => simpa using t3
    | 4 => simpa using t4
    | i + 5 => rw [List.getElem?_eq_none (by simp; omega), List.getElem?_eq_none (by simp)]
  have htail : cs.drop 43 = [.bool g, .int .i64 ab, .int .i64 ae] := by
    refine List.ext_getElem? fun i => ?_
    match i with
    | 0 => simpa using t43
    | 1 => simpa using t44'
    | 2 => simpa using t45'
    | i + 3 => rw [List.getElem?_eq_none (by simp; omega), List.getElem?_eq_none (by simp)]
  refine ⟨⟨a, s, b, c, d, v, hh, g, ab, ae⟩, ⟨(cs.drop 5).take 6, ?_, IsV.mono (by omega) hv, by simp [hcl], IsV.one hv, hhl, hhb, hsz, r64_of_wf wa, r64_of_wf wb, r64_of_wf wc, r64_of_wf wd, r64_of_wf wab, r64_of_wf wae⟩, Sml.mono (by omega) hvs⟩
  have := cut5 cs
  rw [hhead, htail, hhe] at this
  exact this.trans rfl
theorem cellsE : Tryd.prog.cellsOf 52 = 46 := by kernel_rfl
/-- A row of entries. -/
theorem open_ens (fuel : Nat) {v : Value} {x : DataW H × List MemPlace} (h : DataW.trod enc Tryd.prog W base (fun _ => true) held fuel 24 [v] = some x) (hz : WOk Tryd.prog 24 x.1) :
    ∃ l n, n < fuel ∧ Els 46 noE (IsE n W) (fun _ => True) W v l ∧ ∀ y ∈ l, Sml n y.data := by
  obtain ⟨sp, len, cap, rfl, hl, hc, n, elems, rest, hn, hx, hlen, hel⟩ := open_sl2 46 (by omega) Tryd.underlying24 cellsE h
  have key : ∀ i, i < len → ∃ (y : En), Sml n y.data ∧ ∃ b o cs, sp = some ⟨b, o, none⟩ ∧ b < W.heap.size ∧ cs.length = 46 ∧ IsE n W y cs ∧ W.rangeAt b (o + i * 46) cs := by
    intro i hi
    obtain ⟨b, o, cs, y, hsp, hb, hcl, hat, hy, ht⟩ := hel i hi
    have hw : WOk Tryd.prog 52 y.1 := by
      rcases hx with hx | ⟨-, rfl⟩
      · rw [hx] at hz
        exact (hz.slice Tryd.underlying24).2 _ (List.mem_map.2 ⟨_, List.mem_of_getElem? hy, rfl⟩)
      · cases hy
    obtain ⟨v, hv, hs⟩ := open_en ht hw
    exact ⟨v, hs, b, o, cs, hsp, hb, hcl, hv, hat⟩
  have : Inhabited En := ⟨noE⟩
  obtain ⟨g, hg⟩ := Deep.choose_lt key
  have hget : ∀ k, k < len → ((List.range len).map g).getD k noE = g k := fun k hk => by simp [hk]
  have hll : ((List.range len).map g).length = len := by simp
  refine ⟨(List.range len).map g, n, hn, ⟨sp, cap, by rw [hll], by rw [hll]; exact hl, hc, fun h0 => ?_, fun h0 => ?_⟩, fun y hy => ?_⟩
  · subst h0
    rcases DataW.trod_slice Tryd.underlying24 h with ⟨hcs, -⟩ | ⟨a, len', cap', elems', rest', n', -, hcs, -⟩
    · injection hcs with hcs
      injection hcs
    · injection hcs with hcs
      injection hcs with h1
      cases h1
  · rw [hll] at h0
    obtain ⟨-, b, o, -, hsp, hb, -⟩ := hg 0 h0
    refine ⟨b, o, hsp, hb, trivial, fun j hj => ?_⟩
    rw [hll] at hj
    obtain ⟨-, b2, o2, cs, hsp2, -, hcl, hv, hat⟩ := hg j hj
    rw [hsp] at hsp2
    cases hsp2
    rw [hget j hj]
    exact ⟨cs, hcl, hv, hat⟩
  · obtain ⟨i, hi, rfl⟩ := List.mem_map.1 hy
    exact (hg i (List.mem_range.1 hi)).1
set_option maxRecDepth 100000 in
set_option maxHeartbeats 2000000 in
theorem open_blk {fuel : Nat} {cs : List Value} {x : DataW H × List MemPlace} (h : DataW.trod enc Tryd.prog W base (fun _ => true) held fuel 26 cs = some x) (hz : WOk Tryd.prog 26 x.1) :
    ∃ f b, IsB f W b cs ∧ ∀ e ∈ b.ents, Sml f e.data := by
  obtain ⟨xs, n, rfl, rfl, hl, hxl, hx⟩ := DataW.trod_struct Tryd.underlying26 h
  have hxl' : xs.length = 5 := hxl
  have hcl : cs.length = 36 := hl.trans (by kernel_rfl)
  have e : ∀ i, i < 5 → ∃ y, xs[i]? = some y := fun i hi => ⟨xs[i], List.getElem?_eq_getElem (by omega)⟩
  obtain ⟨x0, e0⟩ := e 0 (by omega)
  obtain ⟨x1, e1⟩ := e 1 (by omega)
  obtain ⟨x2, e2⟩ := e 2 (by omega)
  obtain ⟨x3, e3⟩ := e 3 (by omega)
  obtain ⟨x4, e4⟩ := e 4 (by omega)
  have h0 := hx 0 _ rfl
  have h1 := hx 1 _ rfl
  have h2 := hx 2 _ rfl
  have h3 := hx 3 _ rfl
  have h4 := hx 4 _ rfl
  rw [e0] at h0; rw [e1] at h1; rw [e2] at h2; rw [e3] at h3; rw [e4] at h4
  have z : ∀ {i : Nat} {f : Field} {y : DataW H × List MemPlace}, _ → xs[i]? = some y → WOk Tryd.prog f.type y.1 := fun {i f y} hf hy => WOk.agg Tryd.underlying26 hz (i := i) (f := f) hf (by rw [List.getElem?_map, hy]; rfl)
  have z4 : WOk Tryd.prog 24 x4.1 := z (i := 4) rfl e4
  obtain ⟨a, ha, -, wa⟩ := DataW.trod_int Tryd.underlying3 h0
  obtain ⟨b, hb, -, wb⟩ := DataW.trod_int Tryd.underlying3 h1
  obtain ⟨c, hc, -, wc⟩ := DataW.trod_int Tryd.underlying3 h2
  have h3' : DataW.trod enc Tryd.prog W base (fun _ => true) held n 23 ((cs.drop 3).take (Tryd.prog.cellsOf 23)) = some x3 := h3
  rw [show Tryd.prog.cellsOf 23 = 32 by kernel_rfl] at h3'
  obtain ⟨hh, hhe, hhl, hhb⟩ := open_hash h3' (by simp [hcl])
  have h4' : DataW.trod enc Tryd.prog W base (fun _ => true) held n 24 ((cs.drop 35).take (Tryd.prog.cellsOf 24)) = some x4 := h4
  rw [show Tryd.prog.cellsOf 24 = 1 by kernel_rfl] at h4'
  obtain ⟨se, hse⟩ : ∃ se, (cs.drop 35).take 1 = [se] := ⟨cs[35], by rw [List.drop_eq_getElem_cons (by omega)]; rfl⟩
  rw [hse] at h4'
  obtain ⟨l, m, hm, hels, hsm⟩ := open_ens n h4' z4
  have t0 : cs[0]? = some (.int .i64 a) := take1 (by rw [← cellsI]; exact ha)
  have t1 : cs[1]? = some (.int .i64 b) := take1 (by rw [← cellsI]; exact hb)
  have t2 : cs[2]? = some (.int .i64 c) := take1 (by rw [← cellsI]; exact hc)
  refine ⟨m, ⟨a, b, c, hh, l⟩, ⟨se, ?_, hels, hhl, hhb, r64_of_wf wa, r64_of_wf wb, r64_of_wf wc⟩, hsm⟩
  have hhead : cs.take 3 = [.int .i64 a, .int .i64 b, .int .i64 c] := by
    refine List.ext_getElem? fun i => ?_
    match i with
    | 0 => simpa using t0
    | 1 => simpa using t1
    | 2 => simpa using t2
    | i + 3 => rw [List.getElem?_eq_none (by simp; omega), List.getElem?_eq_none (by simp)]
  have h35 : cs.drop 35 = [se] := by rw [← hse, List.take_of_length_le (by simp [hcl])]
  have hcut : cs = cs.take 3 ++ ((cs.drop 3).take 32 ++ cs.drop 35) := by
    have h2 : cs.drop 35 = (cs.drop 3).drop 32 := by rw [List.drop_drop]
    rw [h2, List.take_append_drop, List.take_append_drop]
  rw [hhead, h35, hhe] at hcut
  exact hcut.trans rfl
set_option maxRecDepth 100000
/-- A block that comes in. -/
theorem open_blkA {b0 : Nat} {r : Reach} {v : Value} {d : DataW H} {p : List MemPlace} (hval : Value.okWide Tryd.prog W r b0 26 v) (h : DataW.Trod enc Tryd.prog W base (fun _ => true) held 26 v d p) :
    (∀ n ∈ d.weights Tryd.prog 26, n ≤ reachBytes) → ∃ f x cs, v = .agg cs.toArray ∧ IsB f W x cs ∧ ∀ e ∈ x.ents, Sml f e.data := by
  intro hz
  obtain ⟨cs, rfl, -⟩ := okWide_struct Tryd.underlying26 hval
  obtain ⟨fuel, hf⟩ := h
  obtain ⟨f, x, h1, h2⟩ := open_blk (cs := cs.toList) hf hz
  exact ⟨f, x, cs.toList, by rw [Array.toArray_toList], h1, h2⟩
end
end K
end Go.Proofs.YtlamdhekjlnccaaDoor

/-
  For every block and every digest the law BlockJoins answers true, and the arguments read as they did. The library's table lies as the program's text lays it: that is the card's tie; no other condition.
-/
namespace Go.Proofs.YtlamdhekjlnccaaDoor.blockJoins
open Go.ChangeShapes Go.WideShapes Go.ChangeAt Go.RowKit
open Go.ChangeMaps (open_string shut_string)
open Go.Proofs.YtlamdhekjlnccaaDoor

set_option maxRecDepth 100000 in
theorem lifted (os : Os) (started : os.Started) (H : Type) (enc : TypeId × Value → H) :
    ReturnsInHanded {} Tryd.checked os 3 .any (fun w args => (Rows.blockJoinsSpec.pre enc Tryd.prog Tryd.f3 [] false w args ∧ laidMetH Tryd.prog Mk.laidL w) ∧ sizedMet enc Tryd.prog Tryd.f3 (OpenSpec.ofChange Rows.blockJoinsSpec) false w args)
      (Rows.blockJoinsSpec.post enc Tryd.prog Tryd.f3 false true false false) := by
  refine returnsInHanded_of_change_and (C := Tryd.checked) (X := fun w _ => laidMetH Tryd.prog Mk.laidL w) (fun _ _ _ hh h => h.of_heap hh) Tryd.ownKnob started (by kernel_rfl) Tryd.func3
    (ChangeSpec.witness_shaped (enc := enc) (C := Tryd.checked) (os := os) (X := fun w _ => laidMetH Tryd.prog Mk.laidL w) false (World.doorLaid Tryd.prog 14 os) #[.agg (K.bkC K.noB (.slice none 0 0)).toArray, .agg (Array.replicate 32 (.int .u8 0))] 8 rfl (World.shaped_of_RefB (by kernel_rfl) (by kernel_rfl)) (by kernel_rfl) (by kernel_rfl) (by kernel_rfl) (Mk.door_met os _)) ?_
  intro W base args ds gs before hval0 hW hcnd hsz hL _
  have hval : ∀ (j : Nat) t v, Tryd.f3.params[j]? = some t → args[j]? = some v → Value.okWide Tryd.prog W .any base t v := hval0
  have hW' := hW
  obtain ⟨p, q, hA0, hV, rfl, hfz, hnd⟩ := hW
  have hA : DataW.TrodAll enc Tryd.prog W 0 (fun _ => true) true Tryd.f3.params.toList args.toList ds p := hA0
  rw [Tryd.params3] at hA hval
  obtain ⟨v0, vs0, d0, ds0, p0, q0, hargs, rfl, rfl, h0, r0⟩ := trodAll_cons hA
  obtain ⟨v1, vs1, d1, ds1, p1, q1, rfl, rfl, rfl, h1, r1⟩ := trodAll_cons r0
  obtain ⟨rfl, rfl, rfl⟩ := trodAll_nil r1
  obtain rfl : args = #[v0, v1] := by cases args; simp_all
  obtain ⟨rfl, rfl⟩ := trodVars_none hV
  have k0 := h0
  have lt0 : ∀ x ∈ p0, x.block < W.heap.size := by obtain ⟨m, hm⟩ := k0; exact DataW.trod_lt m _ _ _ hm
  obtain ⟨f0, x0, c0, rfl, iv0, sm0⟩ := K.open_blkA (hval 0 26 v0 rfl rfl) h0 (fun n hn => by have := List.all_eq_true.1 hsz n (DataW.weights_mem_each (j := 0) rfl rfl n hn); simpa using this)
  have k1 := h1
  have lt1 : ∀ x ∈ p1, x.block < W.heap.size := by obtain ⟨m, hm⟩ := k1; exact DataW.trod_lt m _ _ _ hm
  obtain ⟨l1, rfl, ln1, wf1⟩ := open_arr Tryd.underlying23 Tryd.underlying5 (by kernel_rfl) (by kernel_rfl) (hval 1 23 v1 rfl rfl) h1
  clear hA0 hval0
  have hT := Mk.of_laid hL
  refine (K.blockJoins_law iv0 sm0 ln1 hT).mono fun e W' ⟨he, bel⟩ => ?_
  subst he
  exact ⟨_, rfl, _, _, _, [], _, [], hW', trodAll_mk1 (shut_bool Tryd.underlying4 _), (trodAll_cons_mk (Below.trod Tryd.laid (by kernel_rfl) (of_decide_eq_true (by kernel_rfl)) k0 bel lt0) (trodAll_cons_mk (Below.trod Tryd.laid (by kernel_rfl) (of_decide_eq_true (by kernel_rfl)) k1 bel lt1) trodAll_mk0)), rfl, bel.frame _, fun h => by cases h⟩

theorem over : Rows.blockJoinsRow.holds Tryd.pinned (OpenSpec.ofChange Rows.blockJoinsSpec) :=
  OpenClaim.holds_of_wide 3 Tryd.f3 rfl rfl rfl rfl rfl rfl rfl ⟨rfl, rfl, rfl, rfl, rfl⟩ rfl rfl rfl rfl rfl (by kernel_rfl) Tryd.func3 (by kernel_rfl)
    (of_decide_eq_true (by kernel_rfl)) (by unfold Func.isWrapper; first | (rw [if_pos (by decide +kernel)]; kernel_rfl) | (rw [if_neg (by decide +kernel)]; exact ⟨rfl, rfl⟩))
    (fun os started H enc _ => lifted os started H enc)

/-- The statement: the tied card. -/
theorem proved : Rows.BlockJoinsCardSaid :=
  Claim7.holds_tied_plain_at .later [] [.data] true (true, "84a6f94ee7ef8a3ee10fb84961d244daa4941039294a535ba3205dc60f92636a") false
    over (fun _ h => by cases h) (by kernel_rfl) (fun _ h => by cases h) blockJoins_row_tie rfl ⟨rfl, rfl⟩ (by kernel_rfl) rfl
    (fun f fn hf hfn => by
      obtain rfl : f = 3 := Option.some.inj ((show Tryd.prog.funcNamed Rows.blockJoinsRow.func = some 3 by kernel_rfl).symm.trans hf) |>.symm
      obtain rfl : fn = Tryd.f3 := (Option.some.inj (Tryd.func3.symm.trans hfn)).symm
      exact ⟨by kernel_rfl, fun j t ht => by
        rw [Tryd.params3] at ht
        have hm : t ∈ [26, 23] := by simpa using Array.mem_of_getElem? ht
        have hall : ([26, 23].all fun u => !Tryd.prog.wantsStandIn u) = true := by kernel_rfl
        exact (show Tryd.prog.wantsStandIn t = false by simpa using List.all_eq_true.1 hall t hm)⟩)
    (by kernel_rfl)
end Go.Proofs.YtlamdhekjlnccaaDoor.blockJoins
