/- The catalog: Apply of a drop. -/
import Derived.Test.YtdaljjicekheiaaCatE
import Derived.Laws.Bits64b
namespace Go.Proofs.Ytdaljjicekheiaa
open Go.RowKit Go.Maps
namespace Cat

theorem or_eq (dr k : Nat) (hd : dr < 18446744073709551616) (hk : k < 64) : bits BinOp.or IntKind.u64 (dr : Int) (IntKind.u64.wrap (2 ^ min (IntKind.u64.wrap (IntKind.i64.wrap (k : Int))).toNat 64)) = ((dr ||| 2 ^ k : Nat) : Int) := by
  have h1 : IntKind.i64.wrap (k : Int) = k := IntWalk.i64_in _ (by omega)
  have h2 : (IntKind.u64.wrap (k : Int)).toNat = k := by rw [IntKind.wrap_u64]; omega
  have h3 : min k 64 = k := by omega
  have h4 : (2 : Nat) ^ k < 2 ^ 64 := Nat.pow_lt_pow_right (by omega) hk
  have h5 : ((2 : Int) ^ k) = ((2 ^ k : Nat) : Int) := by simp
  rw [h1, h2, h3, h5]
  generalize 2 ^ k = p at h4 ⊢
  have h6 : IntKind.u64.wrap ((p : Nat) : Int) = ((p : Nat) : Int) := by rw [IntKind.wrap_u64]; omega
  rw [h6]
  exact bits_or_u64_nat dr p hd (by omega)
theorem or_lt (dr k : Nat) (hd : dr < 18446744073709551616) (hk : k < 64) : dr ||| 2 ^ k < 18446744073709551616 :=
  Nat.or_lt_two_pow (n := 64) hd (Nat.pow_lt_pow_right (by omega) hk)

/-- What the map holds when some fields of a table have gone. -/
def delF (L : List Tb) (k : Nat) (l : List ByteArray) (x : Int × ByteArray) : Option Value := if x.1 = (k + 1 : Nat) ∧ mem l x.2 = true then none else hasF L x
theorem delF_nil (L : List Tb) (k : Nat) : delF L k [] = hasF L := by funext x; simp [delF, mem_nil]
theorem delF_snoc (L : List Tb) (k : Nat) (l : List ByteArray) (f : ByteArray) : mfDel (delF L k l) (((k + 1 : Nat) : Int), f) = delF L k (l ++ [f]) := by
  funext x
  obtain ⟨x1, x2⟩ := x
  unfold mfDel delF
  simp only [mem_snoc]
  by_cases h : x1 = (k + 1 : Nat)
  · by_cases h2 : x2 = f
    · subst h; subst h2; simp
    · have : ¬ ((x1, x2) = (((k + 1 : Nat) : Int), f)) := fun e => h2 (by injection e)
      rw [if_neg this]
      have h3 : decide (f = x2) = false := decide_eq_false (fun e => h2 e.symm)
      rw [h3, Bool.or_false]
  · have : ¬ ((x1, x2) = (((k + 1 : Nat) : Int), f)) := fun e => h (by injection e)
    rw [if_neg this, if_neg (fun e => h e.1), if_neg (fun e => h e.1)]
theorem delF_all {L : List Tb} {k : Nat} (hk : k < L.length) (nm : ByteArray) : delF L k (L.getD k noTb).fs = hasF (L.set k ⟨nm, true, []⟩) := by
  funext x
  obtain ⟨x1, x2⟩ := x
  unfold delF hasF has
  by_cases h : x1 = (k + 1 : Nat)
  · subst h
    have e : (((k + 1 : Nat) : Int) - 1).toNat = k := by omega
    simp only [e, List.length_set]
    have e2 : (L.set k ⟨nm, true, []⟩).getD k noTb = ⟨nm, true, []⟩ := by simp [hk]
    rw [e2]
    cases h2 : mem (L.getD k noTb).fs x2 <;> simp [mem_nil]
  · rw [if_neg (fun e => h e.1)]
    by_cases h1 : 1 ≤ x1
    · have e2 : (L.set k ⟨nm, true, []⟩).getD (x1 - 1).toNat noTb = L.getD (x1 - 1).toNat noTb := by
        simp only [List.getD_eq_getElem?_getD]
        rw [List.getElem?_set_ne (by omega)]
      simp only [e2, List.length_set]
    · simp [h1]

theorem ent_cells {w : World} {cs : Array Value} {kind tbl : Int} {txt : ByteArray} (hE : Ent cs kind txt tbl) : (w.alloc (.cells cs 37)).cell? ⟨w.heap.size, 0, none⟩ = some (.int .i64 kind) ∧
    (w.alloc (.cells cs 37)).cell? ⟨w.heap.size, 1, none⟩ = some (.string txt) ∧ (w.alloc (.cells cs 37)).cell? ⟨w.heap.size, 2, none⟩ = some (.int .i64 tbl) := by
  have hrow := heap_alloc_new w (.cells cs 37)
  exact ⟨by rw [cell_of_row _ _ _ _ _ _ hrow]; exact hE.hk, by rw [cell_of_row _ _ _ _ _ _ hrow]; exact hE.htx, by rw [cell_of_row _ _ _ _ _ _ hrow]; exact hE.htb⟩

theorem IsTab.moved {eF : TypeId} {w w' : World} {O : Nat → Prop} {cells cells' : List Value} {i : Nat} {t : Tb} (h : IsTab eF w O cells i t) (hc : ∀ j, j < 4 → cells'.getD (i * 4 + j) undef = cells.getD (i * 4 + j) undef)
    (hb : ∀ b, O b → (∃ cur, w.heap[b]? = some (.cells cur eF (0, 0))) → w'.heap[b]? = w.heap[b]?) : IsTab eF w' O cells' i t := by
  obtain ⟨i0, i1, i2, i3⟩ := h.of_block hb
  refine ⟨(hc 0 (by omega)).trans i0, (hc 1 (by omega)).trans i1, (hc 2 (by omega)).trans i2, ?_⟩
  rw [hc 3 (by omega)]; exact i3
theorem getD_set_ne {α : Type} (l : List α) (i j : Nat) (x d : α) (h : i ≠ j) : (l.set i x).getD j d = l.getD j d := by
  simp only [List.getD_eq_getElem?_getD]; rw [List.getElem?_set_ne h]
theorem getD_set_eq {α : Type} (l : List α) (i : Nat) (x d : α) (h : i < l.length) : (l.set i x).getD i d = x := by simp [h]
theorem bits_drop {dr k : Nat} {L : List Tb} (h : Bits dr L) (hk : k < L.length) (h64 : L.length ≤ 64) (nm : ByteArray) (fs : List ByteArray) : Bits (dr ||| 2 ^ k) (L.set k ⟨nm, true, fs⟩) := by
  refine ⟨or_lt dr k h.1 (by omega), fun i => ?_⟩
  rw [Nat.testBit_or, Nat.testBit_two_pow, h.2 i]
  by_cases e : k = i
  · subst e; rw [getD_set_eq _ _ _ _ hk]; simp
  · rw [getD_set_ne _ _ _ _ _ e]; simp [e]
theorem good_set {L : List Tb} (h : Good L) {k : Nat} {t : Tb} (h1 : t.name.size ≤ 40) (h2 : t.fs.length ≤ 16) (h3 : ∀ f ∈ t.fs, f.size ≤ 40) (h4 : t.dropped = true → t.fs = []) : Good (L.set k t) := by
  refine ⟨by rw [List.length_set]; exact h.len, fun i hi => ?_⟩
  rw [List.length_set] at hi
  by_cases e : k = i
  · subst e; rw [getD_set_eq _ _ _ _ hi]; exact ⟨h1, h2, h3, h4⟩
  · rw [getD_set_ne _ _ _ _ _ e]; exact h.each i hi

theorem wf_small (k : Nat) (h : k < 1000) : (Lit.int .i64 ((k + 1 : Nat) : Int)).wf = true := by
  simp [Lit.wf, IntKind.min, IntKind.max, IntKind.bits, IntKind.signed]; omega

set_option maxRecDepth 100000 in
set_option maxHeartbeats 8000000 in
theorem apply_drop {w : World} {c n : Nat} {O : Nat → Prop} {L : List Tb} {cs : Array Value} {txt : ByteArray} {tbl : Int} (h : IsCat w c O n L) (hE : Ent cs 6 txt tbl) :
    Calls Try.prog 9 #[.pointer (some ⟨c, 0, none⟩), .agg cs] w (AppPost w c n O L 6 txt tbl) := by
  have hz := zeroTable
  have hbel : Below w.heap.size w (w.alloc (.cells cs 37)) := (Below.refl _ w).alloc (Nat.le_refl _) _
  have h1 := h.below hbel (Nat.le_refl _)
  have HE := Hid2.mk hE
  obtain ⟨e0, e1, e2⟩ := ent_cells (w := w) hE
  have H := Hid2.mk h
  have HB := Hid2.mk hbel
  have H1 := Hid2.mk h1
  have HT := Hid2.mk (there_any h1 tbl)
  clear h hbel h1 hE
  cases ht : there L tbl with
  | false =>
    have hx : appC L 6 txt tbl = 7 := by unfold appC; rw [if_neg (by omega), if_pos rfl, ht]; rfl
    have Hx := Hid2.mk hx
    have Ht := Hid2.mk ht
    clear hx ht
    go_enter Try.func9, Try.ntmps9
    go_wp2_with (refine (HT.out).mono ?_; rw [Ht.out]; rintro e w' ⟨rfl, rfl⟩)
    go_ret
    exact appPost_no Hx.out (by omega) H.out HB.out
  | true =>
    obtain ⟨k, rfl, hk⟩ : ∃ k : Nat, tbl = (k + 1 : Nat) ∧ k < L.length := ⟨(tbl - 1).toNat, by unfold there at ht; simp at ht; omega, by unfold there at ht; simp at ht; omega⟩
    have hlen := H.out.good.len
    obtain ⟨t, hte⟩ : ∃ t, t = L.getD k noTb := ⟨_, rfl⟩
    obtain ⟨tv, dr, mb, hc, hOc, hOm, hO3, ⟨cells, hT, hI⟩, hB3, hM3, hG⟩ := H1.out
    have hIk := hI k hk
    rw [← hte] at hIk
    obtain ⟨g, cap, rfl, hcap, hcap2, hg, hOg, x0, x1, x2, sp, cc, x3, hown⟩ := tab_cells hT hk hIk
    have c0 := hc.cell 0 (by simp)
    have c1 := hc.cell 1 (by simp)
    have c2 := hc.cell 2 (by simp)
    have f1 := hc.free 1
    simp only [List.getD_cons_zero, List.getD_cons_succ] at c0 c1 c2
    have Ht := Hid2.mk ht
    have Hc := Hid2.mk hc
    have Hte := Hid2.mk hte
    have HT0 := Hid2.mk hT
    have HI := Hid2.mk hI
    have Hm := Hid2.mk hM3
    have Hown := Hid2.mk hown
    have HX := Hid2.mk (And.intro hOm (And.intro hO3 (And.intro hB3 hG)))
    have hfl : t.fs.length ≤ 16 := by rw [hte]; exact (hG.each k hk).2.1
    clear ht hc hT hI hIk hown hM3 hG hO3 hOm hte
    go_enter Try.func9, Try.ntmps9
    go_wp2_with (refine (HT.out).mono ?_; rw [Ht.out]; rintro e w' ⟨rfl, rfl⟩)
    generalize World.alloc _ _ = w1 at e0 e1 e2 HB H1 HT c0 c1 c2 f1 x0 x1 x2 x3 hg Hc HT0 HI Hm Hown HX ⊢
    refine wp_region_till 12 (fun w' => w'.cell? ⟨c, 1, none⟩ = some (.int .u64 (dr : Nat)) ∧ w'.cell? ⟨w.heap.size, 2, none⟩ = some (.int .i64 ((k + 1 : Nat) : Int))) (by kernel_rfl) ?_
    have hS : w1.drew.cell? ⟨c, 1, none⟩ = some (.int .u64 (dr : Nat)) ∧ w1.drew.cell? ⟨w.heap.size, 2, none⟩ = some (.int .i64 ((k + 1 : Nat) : Int)) := ⟨c1, e2⟩
    refine till_free (i := 0) rfl (by kernel_rfl) (by kernel_rfl) (by kernel_rfl) rfl (fun _ _ _ h => h) (.inr hS) (by rfl) (fun _ => by first | (go_simp; done) | (go_simp; with_reducible rfl)) ?_  -- move (tmp 0)
    refine till_free (i := 1) rfl (by kernel_rfl) (by kernel_rfl) (by kernel_rfl) rfl (fun _ _ _ h => h) (.inr hS) (by rfl) (fun _ => by first | (go_simp; done) | (go_simp; with_reducible rfl)) ?_  -- nilCheck (tmp 71)
    refine till_free (i := 2) rfl (by kernel_rfl) (by kernel_rfl) (by kernel_rfl) rfl (fun _ _ _ h => h) (.inr hS) (by rfl) (fun _ => by first | (go_simp; done) | (go_simp; with_reducible rfl)) ?_  -- fieldAddr 69 (tmp 72) 1
    refine till_read (i := 3) [12] rfl (by kernel_rfl) (by kernel_rfl) (by kernel_rfl) (by kernel_rfl) rfl (fun _ _ _ h => h) (by rfl) (fun w' hw' => by first | (go_simp; done) | (go_simp; with_reducible rfl)) hS ?_  -- load 67 (tmp 73)
    refine till_free (i := 4) rfl (by kernel_rfl) (by kernel_rfl) (by kernel_rfl) rfl (fun _ _ _ h => h) (.inr hS) (by rfl) (fun _ => by first | (go_simp; done) | (go_simp; with_reducible rfl)) ?_  -- fieldAddr 37 (tmp 3) 2
    refine till_read (i := 5) [12] rfl (by kernel_rfl) (by kernel_rfl) (by kernel_rfl) (by kernel_rfl) rfl (fun _ _ _ h => h) (by rfl) (fun w' hw' => by first | (go_simp; done) | (go_simp; with_reducible rfl)) hS ?_  -- load 3 (tmp 75)
    refine till_free (i := 6) rfl (by kernel_rfl) (by kernel_rfl) (by kernel_rfl) rfl (fun _ _ _ h => h) (.inr hS) (by rfl) (fun _ => by first | (go_simp; done) | (go_simp; with_reducible rfl)) ?_  -- binOp Binsub 3 (tmp 76) (const (Value.int IntKind.
    refine till_free (i := 7) rfl (by kernel_rfl) (by kernel_rfl) (by kernel_rfl) rfl (fun _ _ _ h => h) (.inr hS) (by rfl) (fun _ => by first | (go_simp; done) | (go_simp; with_reducible rfl)) ?_  -- convert 3 72 (tmp 77)
    refine till_free (i := 8) rfl (by kernel_rfl) (by kernel_rfl) (by kernel_rfl) rfl (fun _ _ _ h => h) (.inr hS) (by rfl) (fun _ => by first | (go_simp; done) | (go_simp; with_reducible rfl)) ?_  -- binOp Binshl 67 (const (Value.int IntKind.u64 1)) 
    refine till_free (i := 9) rfl (by kernel_rfl) (by kernel_rfl) (by kernel_rfl) rfl (fun _ _ _ h => h) (.inr hS) (by rfl) (fun _ => by first | (go_simp; done) | (go_simp; with_reducible rfl)) ?_  -- binOp Binor 67 (tmp 74) (tmp 79) 67
    refine till_free (i := 10) rfl (by kernel_rfl) (by kernel_rfl) (by kernel_rfl) rfl (fun _ _ _ h => h) (.inr hS) (by rfl) (fun _ => by first | (go_simp; done) | (go_simp; with_reducible rfl)) ?_  -- nilCheck (tmp 71)
    refine till_free (i := 11) rfl (by kernel_rfl) (by kernel_rfl) (by kernel_rfl) rfl (fun _ _ _ h => h) (.inr hS) (by rfl) (fun _ => by first | (go_simp; done) | (go_simp; with_reducible rfl)) ?_  -- fieldAddr 69 (tmp 81) 1
    refine till_one (i := 12) (by kernel_rfl) rfl ?_; intro K hK  -- EFFECT Op.store 67 (Operand.tmp 82) (Operand.tmp 80)
    go_simp
    have hw1 : IntKind.i64.wrap (k : Int) = k := IntWalk.i64_in _ (by omega)
    have hw2 : IntKind.u64.wrap (k : Int) = k := by rw [IntKind.wrap_u64]; omega
    rw [or_eq dr k hB3.1 (by omega), hw1, hw2, Int.toNat_natCast]
    clear hw1 hw2
    have hnc : g ≠ c := by
      obtain ⟨cur, hcur⟩ := HT0.out.tag rfl
      exact tag_ne hcur Hc.out (by decide)
    have hne : w.heap.size ≠ c := fun e => by have := H.out.lt c hOc; omega
    have hmc : mb ≠ c := MF.tag_ne Hm.out Hc.out
    have hc2 : VBlk 69 (w1.setCell ⟨c, 1, none⟩ (.int .u64 ((dr ||| 2 ^ k : Nat) : Int))).drew c [.slice (some ⟨g, 0, none⟩) L.length cap, .int .u64 ((dr ||| 2 ^ k : Nat) : Int), .map (some mb)] := Hc.out.set 1 (.int .u64 ((dr ||| 2 ^ k : Nat) : Int))
    have hk2 : Keep (fun b => b ≠ c) w1 (w1.setCell ⟨c, 1, none⟩ (.int .u64 ((dr ||| 2 ^ k : Nat) : Int))).drew := (Keep.refl _ w1).setCell (fun h => h rfl) _ |>.drewN 1
    have hm2 := Hm.out.keep hk2 hmc
    refine hK _ _ (.inl rfl) ?_
    refine till_done (by kernel_rfl) ?_ _
    clear hK K hS
    generalize (World.setCell _ _ _).drew = w2 at hc2 hk2 hm2 ⊢
    have c0' := hc2.cell 0 (by simp)
    have c2' := hc2.cell 2 (by simp)
    simp only [List.getD_cons_zero, List.getD_cons_succ] at c0' c2'
    have e2' : w2.cell? ⟨w.heap.size, 2, none⟩ = some (.int .i64 ((k + 1 : Nat) : Int)) := by rw [hk2.cell (p := ⟨w.heap.size, 2, none⟩) hne]; exact e2
    have x3' : w2.cell? ⟨g, k * 4 + 3, none⟩ = some (.slice sp t.fs.length cc) := by rw [hk2.cell (p := ⟨g, k * 4 + 3, none⟩) hnc]; exact x3
    have hwk : IntKind.i64.wrap (k : Int) = k := IntWalk.i64_in _ (by omega)
    have hkl : (k : Int) < L.length := by omega
    have hk0 : (0 : Int) ≤ k := by omega
    have Hc2 := Hid2.mk hc2
    have Hk2 := Hid2.mk hk2
    have Hm2 := Hid2.mk hm2
    clear hc2 hk2 hm2 e0 e1 e2 c0 c1 c2 f1 x0 x1 x2 x3
    go_wp2_with fail
    go_quiet (fail)
    clear hwk
    generalize hw3 : World.drewN _ _ = w3
    have y0 : w3.cell? ⟨c, 0, none⟩ = some (.slice (some ⟨g, 0, none⟩) L.length cap) := by rw [← hw3]; exact c0'
    have y2 : w3.cell? ⟨c, 2, none⟩ = some (.map (some mb)) := by rw [← hw3]; exact c2'
    have ye : w3.cell? ⟨w.heap.size, 2, none⟩ = some (.int .i64 ((k + 1 : Nat) : Int)) := by rw [← hw3]; exact e2'
    have y3 : w3.cell? ⟨g, k * 4 + 3, none⟩ = some (.slice sp t.fs.length cc) := by rw [← hw3]; exact x3'
    have Hk3 := Hid2.mk (show Keep (fun b => b ≠ c) w1 w3 by rw [← hw3]; exact Hk2.out.drewN _)
    have Hc3 := Hid2.mk (show VBlk 69 w3 c [.slice (some ⟨g, 0, none⟩) L.length cap, .int .u64 ((dr ||| 2 ^ k : Nat) : Int), .map (some mb)] by rw [← hw3]; exact Hc2.out)
    have Hm3 := Hid2.mk (show MF Try.prog 75 mk w3 mb n (hasF L) by rw [← hw3]; exact Hm2.out)
    clear c0' c2' e2' x3' hw3 Hk2 Hc2 Hm2
    go_wp2_with fail
    go_loopw [96] (fun i wr => ∃ j : Nat, j ≤ t.fs.length ∧ i = .int .i64 (j : Nat) ∧ Keep (fun b => b < w3.heap.size ∧ b ≠ mb) w3 wr ∧ MF Try.prog 75 mk wr mb n (delF L k (t.fs.take j))) (fun i _ => t.fs.length - (intOf i).toNat)
    case atStart => exact ⟨0, by omega, rfl, Keep.refl _ _, by rw [List.take_zero, delF_nil]; exact Hm3.out⟩
    case round =>
      obtain ⟨j, hj, rfl, hkr, hmr⟩ := hrel
      have y2r : wr.cell? ⟨c, 2, none⟩ = some (.map (some mb)) := by rw [hkr.cell (p := ⟨c, 2, none⟩) ⟨Hc3.out.lt, Ne.symm hmc⟩]; exact y2
      have hes : w.heap.size < w3.heap.size := World.block_lt_of_cell? w3 _ ye
      have hem : w.heap.size ≠ mb := fun e => by have := HX.out.1; have := H.out.lt mb this; omega
      have yer : wr.cell? ⟨w.heap.size, 2, none⟩ = some (.int .i64 ((k + 1 : Nat) : Int)) := by rw [hkr.cell (p := ⟨w.heap.size, 2, none⟩) ⟨hes, hem⟩]; exact ye
      have hms : mb < wr.heap.size := hmr.lt
      have Hkr := Hid2.mk hkr
      have Hmr := Hid2.mk hmr
      clear hkr hmr
      by_cases hjl : j < t.fs.length
      · have hjl2 : (j : Int) < t.fs.length := by omega
        have hj0 : (0 : Int) ≤ j := by omega
        obtain ⟨f, hf⟩ : ∃ f, f = t.fs[j] := ⟨_, rfl⟩
        have hiv : OwnV 62 1 wr O (.slice sp t.fs.length cc) t.fs.length (t.fs.map Value.string) := by
          refine Hown.out.of_block fun b hb => ?_
          obtain ⟨cur, hcur⟩ := Hown.out.tag hb
          have h1 : b ≠ c := tag_ne hcur Hc.out (by decide)
          have h2 : b ≠ mb := Ne.symm (MF.tag_ne Hm.out hcur)
          have h3 : b < w3.heap.size := Nat.lt_of_lt_of_le (lt_of_block hcur) Hk3.out.size
          rw [Hkr.out.block b ⟨h3, h2⟩, Hk3.out.block b h1]
        rcases hiv.form with ⟨-, h0, -⟩ | ⟨gi, cpi, cur, hsl, -, -, -⟩
        · omega
        · obtain ⟨rfl, rfl⟩ : sp = some ⟨gi, 0, none⟩ ∧ cc = cpi := by simpa using hsl
          have z0 : wr.cell? ⟨gi, j, none⟩ = some (.string f) := by
            rw [hiv.at j (by simpa using hjl), hf]; simp [hjl]
          have htk : t.fs.take (j + 1) = t.fs.take j ++ [f] := by rw [List.take_succ_eq_append_getElem hjl, hf]
          have Htk := Hid2.mk htk
          have hfs : f.size ≤ maxLen := by
            have := (HX.out.2.2.2.each k hk).2.2.1 f (by rw [← Hte.out, hf]; exact List.getElem_mem hjl)
            unfold maxLen; omega
          have Hfs := Hid2.mk hfs
          clear hf hiv hsl htk hfs
          go_wp2_with fail
          have hS : (wr.alloc (.cells #[.string f] 62)).drew.cell? ⟨c, 2, none⟩ = some (.map (some mb)) ∧ (wr.alloc (.cells #[.string f] 62)).drew.cell? ⟨w.heap.size, 2, none⟩ = some (.int .i64 ((k + 1 : Nat) : Int)) ∧ (wr.alloc (.cells #[.string f] 62)).drew.cell? ⟨wr.heap.size, 0, none⟩ = some (.string f) :=
            ⟨by rw [← y2r]; exact World.cell?_of_block (w := wr) (Below.heap_alloc _ _ _ (World.block_lt_of_cell? wr _ y2r)), by rw [← yer]; exact World.cell?_of_block (w := wr) (Below.heap_alloc _ _ _ (World.block_lt_of_cell? wr _ yer)), (VBlk.mk wr [.string f] _).cell 0 (by simp)⟩
          refine wp_region_till 9 (fun w' => w'.cell? ⟨c, 2, none⟩ = some (.map (some mb)) ∧ w'.cell? ⟨w.heap.size, 2, none⟩ = some (.int .i64 ((k + 1 : Nat) : Int)) ∧ w'.cell? ⟨wr.heap.size, 0, none⟩ = some (.string f)) (by kernel_rfl) ?_
          refine till_free (i := 0) rfl (by kernel_rfl) (by kernel_rfl) (by kernel_rfl) rfl (fun _ _ _ h => h) (.inr hS) (by rfl) (fun _ => by first | (go_simp; done) | (go_simp; with_reducible rfl)) ?_  -- move (tmp 0)
          refine till_free (i := 1) rfl (by kernel_rfl) (by kernel_rfl) (by kernel_rfl) rfl (fun _ _ _ h => h) (.inr hS) (by rfl) (fun _ => by first | (go_simp; done) | (go_simp; with_reducible rfl)) ?_  -- nilCheck (tmp 100)
          refine till_free (i := 2) rfl (by kernel_rfl) (by kernel_rfl) (by kernel_rfl) rfl (fun _ _ _ h => h) (.inr hS) (by rfl) (fun _ => by first | (go_simp; done) | (go_simp; with_reducible rfl)) ?_  -- fieldAddr 69 (tmp 101) 2
          refine till_read (i := 3) [9] rfl (by kernel_rfl) (by kernel_rfl) (by kernel_rfl) (by kernel_rfl) rfl (fun _ _ _ h => h) (by rfl) (fun w' hw' => by first | (go_simp; done) | (go_simp; with_reducible rfl)) hS ?_  -- load 66 (tmp 102)
          refine till_free (i := 4) rfl (by kernel_rfl) (by kernel_rfl) (by kernel_rfl) rfl (fun _ _ _ h => h) (.inr hS) (by rfl) (fun _ => by first | (go_simp; done) | (go_simp; with_reducible rfl)) ?_  -- fieldAddr 37 (tmp 3) 2
          refine till_read (i := 5) [8, 9] rfl (by kernel_rfl) (by kernel_rfl) (by kernel_rfl) (by kernel_rfl) rfl (fun _ _ _ h => h) (by rfl) (fun w' hw' => by first | (go_simp; done) | (go_simp; with_reducible rfl)) hS ?_  -- load 3 (tmp 104)
          refine till_free (i := 6) rfl (by kernel_rfl) (by kernel_rfl) (by kernel_rfl) rfl (fun _ _ _ h => h) (.inr hS) (by rfl) (fun _ => by first | (go_simp; done) | (go_simp; with_reducible rfl)) ?_  -- fieldAddr 62 (tmp 9) 0
          refine till_read (i := 7) [8, 9] rfl (by kernel_rfl) (by kernel_rfl) (by kernel_rfl) (by kernel_rfl) rfl (fun _ _ _ h => h) (by rfl) (fun w' hw' => by first | (go_simp; done) | (go_simp; with_reducible rfl)) hS ?_  -- load 9 (tmp 106)
          refine till_free (i := 8) rfl (by kernel_rfl) (by kernel_rfl) (by kernel_rfl) rfl (fun _ _ _ h => h) (.inr hS) (by rfl) (fun _ => by first | (go_simp; done) | (go_simp; with_reducible rfl)) ?_  -- build 75 #[(0, tmp 105), (1, tmp 107)]
          refine till_one (i := 9) (by kernel_rfl) rfl ?_; intro K hK  -- EFFECT Op.call { callee := Callee.builtin Builtin.delete, args := #[Operand.tmp 103, Operand.tmp 108], argTypes := #[66, 75] }
          obtain ⟨kl, hkk⟩ := keyOf_mk (((k + 1 : Nat) : Int), f) ⟨wf_small k (by omega), Hfs.out⟩
          have hmA : MF Try.prog 75 mk (wr.alloc (.cells #[.string f] 62)).drew mb n (delF L k (t.fs.take j)) := (Hmr.out.alloc _).of_block rfl
          obtain ⟨w5, hrun, hm5, hk5⟩ := hmA.del mk_inj keyed Try.underlying66 hkk 0
          have em : mk (((k + 1 : Nat) : Int), f) = .agg #[.int .i64 ((k : Int) + 1), .string f] := by unfold mk; simp
          rw [em] at hrun
          have hm6 : MF Try.prog 75 mk w5 mb n (delF L k (t.fs.take (j + 1))) := by rw [Htk.out, ← delF_snoc]; exact hm5
          have hk6 : Keep (fun b => b < w3.heap.size ∧ b ≠ mb) w3 w5 :=
            Hkr.out.trans (((Keep.of_below (((Below.refl wr.heap.size wr).alloc (Nat.le_refl _) (.cells #[.string f] 62)).drew)).mono (fun b (hb : b < w3.heap.size ∧ b ≠ mb) => Nat.lt_of_lt_of_le hb.1 Hkr.out.size)).trans (hk5.mono fun b hb => hb.2))
          have Hm6 := Hid2.mk hm6
          have Hk6 := Hid2.mk hk6
          refine step_del rfl (.tmp 103) (.tmp 108) 66 75 rfl (.map (some mb)) (.agg #[.int .i64 ((k : Int) + 1), .string f]) (by go_simp) (by go_simp) hrun ?_
          refine hK _ _ (.inl rfl) ?_
          clear hm5 hk5 hm6 hk6 hrun hmA hS hK K hkk
          refine till_done (by kernel_rfl) ?_ _
          go_wp2_with fail
          go_roundw
          case rel => exact ⟨j + 1, by omega, by go_num, Hk6.out, Hm6.out⟩
          case measure => simp [intOf]; omega
      · have hd2 : decide ((j : Int) < t.fs.length) = false := decide_eq_false (by omega)
        have hjn : j = t.fs.length := by omega
        have hTr : OwnV 45 4 wr O (.slice (some ⟨g, 0, none⟩) L.length cap) L.length cells := by
          refine HT0.out.of_block fun b hb => ?_
          obtain ⟨cur, hcur⟩ := HT0.out.tag hb
          have h1 : b ≠ c := tag_ne hcur Hc.out (by decide)
          have h2 : b ≠ mb := Ne.symm (MF.tag_ne Hm.out hcur)
          have h3 : b < w3.heap.size := Nat.lt_of_lt_of_le (lt_of_block hcur) Hk3.out.size
          rw [Hkr.out.block b ⟨h3, h2⟩, Hk3.out.block b h1]
        have hl4 := hTr.len
        have q2 := hTr.at (k * 4 + 2) (by omega)
        have q3 := hTr.at (k * 4 + 3) (by omega)
        have f2 := hTr.free (k * 4 + 2)
        have f3 := hTr.free (k * 4 + 3)
        have HTr := Hid2.mk hTr
        have Hmr2 := Hid2.mk (show MF Try.prog 75 mk wr mb n (delF L k t.fs) by have := Hmr.out; rw [hjn, List.take_length] at this; exact this)
        clear hTr hjn y0 y2 y3 ye hl4
        go_wp2_with fail
        go_ret
        have hg3 : wr.heap[g]? = w1.heap[g]? := by
          obtain ⟨cur, hcur⟩ := HT0.out.tag rfl
          rw [Hkr.out.block g ⟨Nat.lt_of_lt_of_le (lt_of_block hcur) Hk3.out.size, Ne.symm (MF.tag_ne Hm.out hcur)⟩, Hk3.out.block g hnc]
        have hgm : mb ≠ g := by obtain ⟨cur, hcur⟩ := HT0.out.tag rfl; exact MF.tag_ne Hm.out hcur
        have hl4 := HTr.out.len
        have hc4 : VBlk 69 wr c [.slice (some ⟨g, 0, none⟩) L.length cap, .int .u64 ((dr ||| 2 ^ k : Nat) : Int), .map (some mb)] := Hc3.out.keep Hkr.out ⟨Hc3.out.lt, Ne.symm hmc⟩
        have hOw := (HTr.out.stored (k * 4 + 2) (u := .bool true) rfl).stored (k * 4 + 3) (u := .slice none 0 0) rfl
        have hkf : Keep (fun b => b ≠ g) wr ((wr.setCell ⟨g, k * 4 + 2, none⟩ (.bool true)).setCell ⟨g, k * 4 + 3, none⟩ (.slice none 0 0)) := ((Keep.refl _ wr).setCell (fun h => h rfl) _).setCell (fun h => h rfl) _
        obtain ⟨hOm, hO1, hBt, hG⟩ := HX.out
        have hx : appC L 6 txt ((k + 1 : Nat) : Int) = 0 := by unfold appC; rw [if_neg (by omega), if_pos rfl, Ht.out]; rfl
        have e1 : (((k + 1 : Nat) : Int) - 1).toNat = k := by omega
        have hl : appL L 6 txt ((k + 1 : Nat) : Int) = L.set k ⟨t.name, true, []⟩ := by
          unfold appL
          rw [if_pos hx, if_neg (by omega), if_pos rfl, e1, ← Hte.out]
        refine ⟨O, by rw [hx]; rfl, ?_, ?_, fun b hb => .inl hb⟩
        · rw [hl]
          refine IsCat.mono (n := n) ⟨_, _, mb, hc4.keep hkf (Ne.symm hnc), hOc, hOm, fun b hb => Nat.lt_of_lt_of_le (Nat.lt_of_lt_of_le (Nat.lt_of_lt_of_le (hO1 b hb) Hk3.out.size) Hkr.out.size) hkf.size, ⟨_, by rw [List.length_set]; exact hOw, fun i hi => ?_⟩, bits_drop hBt hk hlen _ _, ?_, good_set hG ?_ (by simp) (by simp) (fun _ => rfl)⟩ (by omega)
          · rw [List.length_set] at hi
            by_cases e : k = i
            · subst e
              rw [getD_set_eq _ _ _ _ hk]
              obtain ⟨i0, i1, i2, i3⟩ := HI.out k hk
              refine ⟨?_, ?_, ?_, ?_⟩
              · rw [getD_set_ne _ _ _ _ _ (by omega), getD_set_ne _ _ _ _ _ (by omega)]; exact i0
              · rw [getD_set_ne _ _ _ _ _ (by omega), getD_set_ne _ _ _ _ _ (by omega), Hte.out]; exact i1
              · rw [getD_set_ne _ _ _ _ _ (by omega), getD_set_eq _ _ _ _ (by omega)]
              · rw [getD_set_eq _ _ _ _ (by simp; omega)]; exact OwnV.nil _ _ _ _
            · rw [getD_set_ne _ _ _ _ _ e]
              refine (HI.out i hi).moved (fun j hj => ?_) (fun b hb hcur => ?_)
              · rw [getD_set_ne _ _ _ _ _ (by omega), getD_set_ne _ _ _ _ _ (by omega)]
              · obtain ⟨cur, hcur⟩ := hcur
                obtain ⟨curg, hcurg⟩ := HT0.out.tag rfl
                rw [hkf.block b (tag_ne hcur hcurg (by decide)), Hkr.out.block b ⟨Nat.lt_of_lt_of_le (lt_of_block hcur) Hk3.out.size, Ne.symm (MF.tag_ne Hm.out hcur)⟩, Hk3.out.block b (tag_ne hcur Hc.out (by decide))]
          · rw [← delF_all hk, ← Hte.out]
            exact Hmr2.out.keep hkf hgm
          · rw [Hte.out]; exact (hG.each k hk).1
        · refine ((Keep.of_below HB.out).mono fun b hb => hb.1).trans ((Hk3.out.mono fun b hb e => hb.2 (e ▸ hOc)).trans ((Hkr.out.mono fun b (hb : b < w.heap.size ∧ ¬ O b) => ⟨Nat.lt_of_lt_of_le (Nat.lt_of_lt_of_le hb.1 HB.out.size) Hk3.out.size, fun e => hb.2 (e ▸ hOm)⟩).trans (hkf.mono fun b hb e => hb.2 (e ▸ hOg))))

end Cat
end Go.Proofs.Ytdaljjicekheiaa
