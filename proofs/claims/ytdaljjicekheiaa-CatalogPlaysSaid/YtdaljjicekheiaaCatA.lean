/- The catalog: what it is in memory; the smallest functions. -/
import Derived.Test.YtdaljjicekheiaaRow
import Derived.Test.YtdaljjicekheiaaMapF
namespace Go.Proofs.Ytdaljjicekheiaa
open Go.RowKit Go.Maps
namespace Cat

/-- A table: its name, whether it is dropped, its indexes' fields. Its number is its place and one. -/
structure Tb where
  name : ByteArray
  dropped : Bool
  fs : List ByteArray
def noTb : Tb := ⟨ByteArray.empty, false, []⟩

/-- May it be a name? -/
def isNm (s : ByteArray) : Bool := decide (1 ≤ s.size) && decide (s.size ≤ 40)

/-- Place i of the cells is the table t. -/
def IsTab (eF : TypeId) (w : World) (O : Nat → Prop) (cells : List Value) (i : Nat) (t : Tb) : Prop :=
  cells.getD (i * 4) undef = .int .i64 (i + 1 : Nat) ∧ cells.getD (i * 4 + 1) undef = .string t.name ∧ cells.getD (i * 4 + 2) undef = .bool t.dropped ∧
    OwnV eF 1 w O (cells.getD (i * 4 + 3) undef) t.fs.length (t.fs.map Value.string)

/-- The slice tv is the tables L. -/
def Tabs (eT eF : TypeId) (w : World) (O : Nat → Prop) (tv : Value) (L : List Tb) : Prop :=
  ∃ cells, OwnV eT 4 w O tv L.length cells ∧ ∀ i, i < L.length → IsTab eF w O cells i (L.getD i noTb)

/-- What holds of all tables. -/
structure Good (L : List Tb) : Prop where
  len : L.length ≤ 64
  each : ∀ i, i < L.length → (L.getD i noTb).name.size ≤ 40 ∧ (L.getD i noTb).fs.length ≤ 16 ∧ (∀ f ∈ (L.getD i noTb).fs, f.size ≤ 40) ∧ ((L.getD i noTb).dropped = true → (L.getD i noTb).fs = [])

/-- A field's key. -/
def mk (x : Int × ByteArray) : Value := .agg #[.int .i64 x.1, .string x.2]
/-- Is a text among others? -/
def mem (l : List ByteArray) (f : ByteArray) : Bool := l.any fun g => decide (g = f)
theorem mem_iff (l : List ByteArray) (f : ByteArray) : mem l f = true ↔ f ∈ l := by unfold mem; simp
theorem mem_nil (f : ByteArray) : mem [] f = false := rfl
theorem mem_snoc (l : List ByteArray) (g f : ByteArray) : mem (l ++ [g]) f = (mem l f || decide (g = f)) := by unfold mem; simp
/-- Is there an index? (The number counts from one.) -/
def has (L : List Tb) (id : Int) (f : ByteArray) : Bool := decide (1 ≤ id) && decide (id ≤ L.length) && mem (L.getD (id - 1).toNat noTb).fs f
def there (L : List Tb) (id : Int) : Bool := decide (1 ≤ id) && decide (id ≤ L.length) && !(L.getD (id - 1).toNat noTb).dropped
/-- What the map of indexes holds. -/
def hasF (L : List Tb) (x : Int × ByteArray) : Option Value := if has L x.1 x.2 = true then some (.bool true) else none
/-- The digits of the dropped tables. -/
def Bits (dr : Nat) (L : List Tb) : Prop := dr < 18446744073709551616 ∧ ∀ i, dr.testBit i = (L.getD i noTb).dropped

/-- Block c is a Catalog of the tables L; O: its blocks; n: how often something was laid into its map, at most. -/
def IsCat (w : World) (c : Nat) (O : Nat → Prop) (n : Nat) (L : List Tb) : Prop :=
  ∃ tv dr mb, VBlk 69 w c [tv, .int .u64 (dr : Nat), .map (some mb)] ∧ O c ∧ O mb ∧ (∀ b, O b → b < w.heap.size) ∧
    Tabs 45 62 w O tv L ∧ Bits dr L ∧ MF Try.prog 75 mk w mb n (hasF L) ∧ Good L

set_option maxHeartbeats 400000 in
theorem isName_any (s : ByteArray) (w : World) : Calls Try.prog 22 #[.string s] w fun e w' => e = .returned (.bool (isNm s)) ∧ w = w' := by
  by_cases h1 : 1 ≤ s.size
  · have h1' : (1 : Int) ≤ s.size := by omega
    go_enter Try.func22, Try.ntmps22
    go_wp2
    go_ret
    exact ⟨by simp [isNm, h1]; omega, rfl⟩
  · have h1' : decide ((1 : Int) ≤ s.size) = false := decide_eq_false (by omega)
    go_enter Try.func22, Try.ntmps22
    go_wp2
    go_ret
    exact ⟨by simp [isNm, h1], rfl⟩

theorem elemIndex : ElemV Try.prog 43 62 1 16 := ElemV.mk' (z := .agg #[.string ByteArray.empty]) Try.underlying43 (by kernel_rfl) rfl (by omega)

set_option maxHeartbeats 400000 in
theorem clone_any {O : Nat → Prop} {v : Value} {n : Nat} {l : List Value} (w : World) (h : SlV w O 1 v n l) (hn : n ≤ 1000000) :
    Calls Try.prog 28 #[v] w fun e w' => ∃ sp c, e = .returned (.slice sp n c) ∧ OwnV 62 1 w' (fun b => w.heap.size ≤ b) (.slice sp n c) n l ∧ Below w.heap.size w w' := by
  rcases h.news with ⟨rfl, rfl, rfl⟩ | ⟨ad, cap, rfl, hc, -⟩
  · go_enter Try.func28, Try.ntmps28
    have hnil := @Lib.run_eql_slice_nil
    go_wp2
    go_ret
    exact ⟨_, _, rfl, OwnV.nil _ _ _ _, Below.refl _ _⟩
  · have hsl : SlV (w.alloc (.cells #[] 62)) O 1 (.slice (some ad) n cap) n l := h.below ((Below.refl _ _).alloc (Nat.le_refl _) _) (Nat.le_refl _)
    have H := Hid2.mk hsl
    have qs : ∀ (w : World) ad n c, (binOp .eql 43 (.slice (some ad) n c) (.slice none 0 0)).run Try.prog w = .ok (.bool false) w := fun w ad n c => Lib.run_eql_slice_nil w 43 62 (some ad) n c 0 0 Try.underlying43
    clear h hsl
    go_enter Try.func28, Try.ntmps28
    go_wp2_with (refine wpList_appV rfl (.tmp 5) (.tmp 6) 43 rfl elemIndex rfl (OwnV.empty _ _ _) rfl H.out (n' := n) (Nat.zero_add _) (by unfold maxLen; omega) (by omega) ?_; intro sp c w1 hown hg hat)
    go_ret
    refine ⟨_, _, rfl, ?_, ?_⟩
    · rw [List.nil_append] at hown
      exact hown.mono (fun b hb => by rcases hb with rfl | rfl <;> simp)
    · have := (grown_keep hg)
      exact (((Below.refl _ w).alloc (Nat.le_refl _) _).trans (this.mono (fun k (hk : k < w.heap.size) => ⟨by simp; omega, fun e => by have e2 : w.heap.size = k := Option.some.inj e; omega⟩)).below)

theorem zeroTable (w : World) : (zeroValue 45).run Try.prog w = .ok (.agg #[.int .i64 0, .string ByteArray.empty, .bool false, .slice none 0 0]) w := by kernel_rfl

theorem infoTable : (Try.prog.info? 45).map (·.size) = some 4 := by kernel_rfl
set_option maxHeartbeats 800000 in
theorem own_any {O : Nat → Prop} {v : Value} {n : Nat} {l : List Value} (id : Int) (nm : ByteArray) (d : Bool) (w : World) (h : SlV w O 1 v n l) (hn : n ≤ 1000000) :
    Calls Try.prog 24 #[.agg #[.int .i64 id, .string nm, .bool d, v]] w fun e w' => ∃ sp c, e = .returned (.agg #[.int .i64 id, .string nm, .bool d, .slice sp n c]) ∧ OwnV 62 1 w' (fun b => w.heap.size ≤ b) (.slice sp n c) n l ∧ Below w.heap.size w w' := by
  have hz := zeroTable
  have hone : ∀ sp c, (#[.int .i64 id, .string nm, .bool d, .slice sp n c] : Array Value).all (·.oneCell') = true := fun _ _ => by simp [Value.oneCell']
  have hb : Below w.heap.size w ((w.alloc (.cells #[.int .i64 id, .string nm, .bool d, v] 45)).alloc (.cells #[.int .i64 0, .string ByteArray.empty, .bool false, .slice none 0 0] 45)) := ((Below.refl _ _).alloc (Nat.le_refl _) _).alloc (by simp) _
  have hs1 := h.below hb (Nat.le_refl _)
  have H := Hid2.mk hs1
  clear h hb hs1
  go_enter Try.func24, Try.ntmps24
  go_wp2_with fail
  refine (clone_any _ H.out hn).mono ?_
  rintro e w1 ⟨sp, c, rfl, hown, hb1⟩
  obtain ⟨k1, k2, hbw, hsz⟩ := two_alloc hb1
  have k1' : VBlk 45 w1 w.heap.size [.int .i64 id, .string nm, .bool d, v] := k1
  have k2' : VBlk 45 w1 (w.heap.size + 1) [.int .i64 0, .string ByteArray.empty, .bool false, .slice none 0 0] := k2
  have k3 := k1'.set 3 (.slice sp n c)
  have c0 := k1'.cell 3 (by simp)
  have f0 := k1'.free 3
  have k4 : VBlk 45 (w1.setCell ⟨w.heap.size, 3, none⟩ (.slice sp n c)) (w.heap.size + 1) [.int .i64 0, .string ByteArray.empty, .bool false, .slice none 0 0] := k2'.other _ _ (by show w.heap.size + 1 ≠ w.heap.size; omega)
  have K3 := Hid2.mk k3
  have K4 := Hid2.mk k4
  clear k1 k2 k1' k2' k3 k4 hb1
  go_wp2_with (first | (refine wpList_load_row rfl 45 (.tmp 1) rfl w.heap.size rfl 45 #[.int .i64 id, .string nm, .bool d, .slice sp n c] (0, 0) _ K3.out Try.underlying45 rfl infoTable ?_) | (refine wpList_store_row rfl 45 (.tmp 2) (.tmp 7) rfl (w.heap.size + 1) #[.int .i64 id, .string nm, .bool d, .slice sp n c] rfl rfl 45 #[.int .i64 0, .string ByteArray.empty, .bool false, .slice none 0 0] K4.out infoTable rfl (hone _ _) ?_))
  refine bodyPost_ret (results_cell_row rfl _ _ (w.heap.size + 1) 45 #[.int .i64 id, .string nm, .bool d, .slice sp n c] (0, 0) _ rfl (setRow_heap _ _ _ _ _ _ K4.out) Try.underlying45 rfl infoTable) rfl ⟨sp, c, rfl, ?_, ?_⟩
  · refine (hown.of_block fun g hg => ?_).mono (fun b (hb : _ ≤ b) => ?_)
    · have h1 : ((w.alloc _).alloc _).heap.size ≤ g := hown.own hg
      have h2 : w.heap.size + 2 ≤ g := by simpa using h1
      rw [Go.setRow_other _ _ _ _ (by omega), Below.heap_setCell _ _ _ _ (by show g ≠ w.heap.size; omega)]
    · have h2 : w.heap.size + 2 ≤ b := by simpa using hb
      omega
  · exact below_setRow (hbw.setCell (Nat.le_refl _) _) (by omega) _
end Cat
end Go.Proofs.Ytdaljjicekheiaa
