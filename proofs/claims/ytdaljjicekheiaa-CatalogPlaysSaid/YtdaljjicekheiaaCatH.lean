/- The catalog: Apply of an index. -/
import Derived.Test.YtdaljjicekheiaaCatF
import Derived.StillTailTactics
import Derived.Outline
namespace Go.Proofs.Ytdaljjicekheiaa
open Go.RowKit Go.Maps
namespace Cat

theorem put_has {L : List Tb} {k : Nat} (hk : k < L.length) (txt nm : ByteArray) (d : Bool) : mfPut (hasF L) (((k + 1 : Nat) : Int), txt) (.bool true) = hasF (L.set k ⟨nm, d, (L.getD k noTb).fs ++ [txt]⟩) := by
  funext x
  obtain ⟨x1, x2⟩ := x
  unfold mfPut hasF has
  by_cases h : x1 = (k + 1 : Nat)
  · subst h
    have e : (((k + 1 : Nat) : Int) - 1).toNat = k := by omega
    simp only [e, List.length_set]
    have e2 : (L.set k ⟨nm, d, (L.getD k noTb).fs ++ [txt]⟩).getD k noTb = ⟨nm, d, (L.getD k noTb).fs ++ [txt]⟩ := by simp [hk]
    have e3 : decide ((1 : Int) ≤ ((k + 1 : Nat) : Int)) = true := decide_eq_true (by omega)
    have e4 : decide (((k + 1 : Nat) : Int) ≤ L.length) = true := decide_eq_true (by omega)
    rw [e2, mem_snoc, e3, e4]
    by_cases h2 : x2 = txt
    · subst h2; simp
    · have : ¬ (((((k + 1 : Nat) : Int)), x2) = (((k + 1 : Nat) : Int), txt)) := fun e => h2 (by injection e)
      rw [if_neg this]
      have h3 : decide (txt = x2) = false := decide_eq_false (fun e => h2 e.symm)
      rw [h3, Bool.or_false]
  · have : ¬ ((x1, x2) = (((k + 1 : Nat) : Int), txt)) := fun e => h (by injection e)
    rw [if_neg this]
    by_cases h1 : 1 ≤ x1
    · have e2 : (L.set k ⟨nm, d, (L.getD k noTb).fs ++ [txt]⟩).getD (x1 - 1).toNat noTb = L.getD (x1 - 1).toNat noTb := by
        simp only [List.getD_eq_getElem?_getD]
        rw [List.getElem?_set_ne (by omega)]
      simp only [e2, List.length_set]
    · simp [h1]
theorem bits_same {dr k : Nat} {L : List Tb} (h : Bits dr L) (hk : k < L.length) (t : Tb) (ht : t.dropped = (L.getD k noTb).dropped) : Bits dr (L.set k t) := by
  refine ⟨h.1, fun i => ?_⟩
  rw [h.2 i]
  by_cases e : k = i
  · subst e; rw [getD_set_eq _ _ _ _ hk, ht]
  · rw [getD_set_ne _ _ _ _ _ e]

set_option maxRecDepth 100000 in
set_option maxHeartbeats 4000000 in
theorem apply_index_ok {w : World} {c n : Nat} {O : Nat → Prop} {L : List Tb} {cs : Array Value} {txt : ByteArray} {tbl : Int} (h : IsCat w c O n L) (hE : Ent cs 7 txt tbl) (hn : n < 1000000000)
    (ht : there L tbl = true) (hnm : isNm txt = true) (hh : has L tbl txt = false) (h16 : (L.getD (tbl - 1).toNat noTb).fs.length < 16) :
    Calls Try.prog 9 #[.pointer (some ⟨c, 0, none⟩), .agg cs] w (AppPost w c n O L 7 txt tbl) := by
  have hz := zeroTable
  have hbel : Below w.heap.size w (w.alloc (.cells cs 37)) := (Below.refl _ w).alloc (Nat.le_refl _) _
  have h1 := h.below hbel (Nat.le_refl _)
  have HE := Hid2.mk hE
  obtain ⟨e0, e1, e2⟩ := ent_cells (w := w) hE
  have H := Hid2.mk h
  have HB := Hid2.mk hbel
  have H1 := Hid2.mk h1
  have HT := Hid2.mk (there_any h1 tbl)
  clear h hbel h1 hE
  obtain ⟨k, rfl, hk⟩ : ∃ k : Nat, tbl = (k + 1 : Nat) ∧ k < L.length := ⟨(tbl - 1).toNat, by unfold there at ht; simp at ht; omega, by unfold there at ht; simp at ht; omega⟩
  have hlen := H.out.good.len
  obtain ⟨t, hte⟩ : ∃ t, t = L.getD k noTb := ⟨_, rfl⟩
  have ek : (((k + 1 : Nat) : Int) - 1).toNat = k := by omega
  obtain ⟨tv, dr, mb, hc, hOc, hOm, hO3, ⟨cells, hT, hI⟩, hB3, hM3, hG⟩ := H1.out
  have hIk := hI k hk
  rw [← hte] at hIk
  obtain ⟨g, cap, rfl, hcap, hcap2, hg, hOg, x0, x1, x2, sp, cc, x3, hown⟩ := tab_cells hT hk hIk
  have c0 := hc.cell 0 (by simp)
  have c2 := hc.cell 2 (by simp)
  simp only [List.getD_cons_zero, List.getD_cons_succ] at c0 c2
  have hlk : ∀ m, (Instr.lookup 66 (.map (some mb)) (.agg #[.int .i64 ((k : Int) + 1), .string txt]) false).run Try.prog ((w.alloc (.cells cs 37)).drewN m) = .ok (.bool (has L ((k + 1 : Nat) : Int) txt)) ((w.alloc (.cells cs 37)).drewN m) :=
    fun m => look_has (hM3.drewN m) ((k + 1 : Nat) : Int) txt ⟨HE.out.hwf, HE.out.hsh⟩
  obtain ⟨kl, hkk⟩ := keyOf_mk (((k + 1 : Nat) : Int), txt) ⟨HE.out.hwf, HE.out.hsh⟩
  have Hkk := Hid2.mk hkk
  clear hkk
  have Hte := Hid2.mk hte
  have HT0 := Hid2.mk hT
  have HI := Hid2.mk hI
  have Hm := Hid2.mk hM3
  have Hown := Hid2.mk hown
  have HX := Hid2.mk (And.intro hOm (And.intro hO3 (And.intro hB3 hG)))
  have hfl : t.fs.length ≤ 16 := by rw [hte]; exact (hG.each k hk).2.1
  obtain ⟨nf, hnf⟩ : ∃ nf, nf = t.fs.length := ⟨_, rfl⟩
  rw [← hnf] at x3 hfl
  have hncc : nf ≤ cc := by obtain ⟨sp', cap', e, hle, -⟩ := hown.slice; injection e with _ _ e3; omega
  have Hnf := Hid2.mk hnf
  have Ht := Hid2.mk ht
  have Hnm := Hid2.mk hnm
  have Hc := Hid2.mk hc
  clear ht hc hT hI hIk hown hM3 hG hO3 hOm hte hB3 hnm hnf
  have hlk' := hlk
  rw [hh] at hlk
  clear hlk'
  have hwk : IntKind.i64.wrap (k : Int) = k := IntWalk.i64_in _ (by omega)
  have hkl : (k : Int) < L.length := by omega
  have hk0 : (0 : Int) ≤ k := by omega
  have Hh := Hid2.mk hh
  have Hek := Hid2.mk ek
  have h16 : nf < 16 := by have := h16; rw [ek, ← Hte.out, ← Hnf.out] at this; exact this
  clear hh ek
  have h16' : (nf : Int) < 16 := by omega
  have qm : ∀ (w : World) r, (binOp .eql 66 (.map (some r)) (.map none)).run Try.prog w = .ok (.bool false) w := fun w r => run_eql_map_nil w _ _ _ (some r) Try.underlying66
  go_enter Try.func9, Try.ntmps9
  go_wp2_with (first | (go_at_call 23; refine (HT.out).mono ?_; rw [Ht.out]; rintro e w' ⟨rfl, rfl⟩) | (go_at_call 22; refine (isName_any _ _).mono ?_; rw [Hnm.out]; rintro e w' ⟨rfl, rfl⟩))
  go_quiet (fail)
  clear hlk
  go_wp2_with fail
  go_quiet (fail)
  go_wp2_with fail
  go_quiet (fail)
  clear hwk
  go_wp2_with fail
  generalize hw3 : World.drewN _ _ = w3
  have hdr : w3.heap = (w.alloc (.cells cs 37)).heap ∧ w3.os = (w.alloc (.cells cs 37)).os ∧ w3.tape = (w.alloc (.cells cs 37)).tape ∧ w3.output = (w.alloc (.cells cs 37)).output := by rw [← hw3]; exact ⟨rfl, rfl, rfl, rfl⟩
  clear hw3
  obtain ⟨d1, d2, d3, d4⟩ := hdr
  have db : ∀ b : Nat, w3.heap[b]? = (w.alloc (.cells cs 37)).heap[b]? := fun b => by rw [d1]
  have Hk3 := Hid2.mk (show Keep (fun _ => True) (w.alloc (.cells cs 37)) w3 from ⟨d2, d3, d4, by rw [d1]; exact Nat.le_refl _, fun b _ => db b⟩)
  have y2 : w3.cell? ⟨c, 2, none⟩ = some (.map (some mb)) := by rw [Hk3.out.cell (p := ⟨c, 2, none⟩) trivial]; exact c2
  have y3 : w3.cell? ⟨g, k * 4 + 3, none⟩ = some (.slice sp nf cc) := by rw [Hk3.out.cell (p := ⟨g, k * 4 + 3, none⟩) trivial]; exact x3
  have ye1 : w3.cell? ⟨w.heap.size, 1, none⟩ = some (.string txt) := by rw [Hk3.out.cell (p := ⟨w.heap.size, 1, none⟩) trivial]; exact e1
  have ye2 : w3.cell? ⟨w.heap.size, 2, none⟩ = some (.int .i64 ((k + 1 : Nat) : Int)) := by rw [Hk3.out.cell (p := ⟨w.heap.size, 2, none⟩) trivial]; exact e2
  clear d1 d2 d3 d4 db c0 c2 x0 x1 x2 x3 e0 e1 e2
  have hgo : g < w.heap.size := H.out.lt g hOg
  have hco : c < w.heap.size := H.out.lt c hOc
  have hs3 : w.heap.size < w3.heap.size := World.block_lt_of_cell? w3 _ ye1
  have hS : w3.drew.cell? ⟨g, k * 4 + 3, none⟩ = some (.slice sp nf cc) ∧ w3.drew.cell? ⟨w.heap.size, 1, none⟩ = some (.string txt) := ⟨y3, ye1⟩
  refine wp_region_till 20 (fun w' => w'.cell? ⟨g, k * 4 + 3, none⟩ = some (.slice sp nf cc) ∧ w'.cell? ⟨w.heap.size, 1, none⟩ = some (.string txt)) (by kernel_rfl) ?_
  refine till_free (i := 0) rfl (by kernel_rfl) (by kernel_rfl) (by kernel_rfl) rfl (fun _ _ _ h => h) (.inr hS) (by rfl) (fun _ => by first | (go_simp; done) | (go_simp; with_reducible rfl)) ?_  -- move (tmp 10)
  refine till_free (i := 1) rfl (by kernel_rfl) (by kernel_rfl) (by kernel_rfl) rfl (fun _ _ _ h => h) (.inr hS) (by rfl) (fun _ => by first | (go_simp; done) | (go_simp; with_reducible rfl)) ?_  -- move (tmp 10)
  refine till_free (i := 2) rfl (by kernel_rfl) (by kernel_rfl) (by kernel_rfl) rfl (fun _ _ _ h => h) (.inr hS) (by rfl) (fun _ => by first | (go_simp; done) | (go_simp; with_reducible rfl)) ?_  -- nilCheck (tmp 162)
  refine till_free (i := 3) rfl (by kernel_rfl) (by kernel_rfl) (by kernel_rfl) rfl (fun _ _ _ h => h) (.inr hS) (by rfl) (fun _ => by first | (go_simp; done) | (go_simp; with_reducible rfl)) ?_  -- fieldAddr 45 (tmp 163) 3
  refine till_read (i := 4) [15, 20] rfl (by kernel_rfl) (by kernel_rfl) (by kernel_rfl) (by kernel_rfl) rfl (fun _ _ _ h => h) (by rfl) (fun w' hw' => by first | (go_simp; done) | (go_simp; with_reducible rfl)) hS ?_  -- load 43 (tmp 164)
  refine till_free (i := 5) rfl (by kernel_rfl) (by kernel_rfl) (by kernel_rfl) rfl (fun _ _ _ h => h) (.inr hS) (by rfl) (fun _ => by first | (go_simp; done) | (go_simp; with_reducible rfl)) ?_  -- move (tmp 10)
  refine till_free (i := 6) rfl (by kernel_rfl) (by kernel_rfl) (by kernel_rfl) rfl (fun _ _ _ h => h) (.inr hS) (by rfl) (fun _ => by first | (go_simp; done) | (go_simp; with_reducible rfl)) ?_  -- nilCheck (tmp 166)
  refine till_free (i := 7) rfl (by kernel_rfl) (by kernel_rfl) (by kernel_rfl) rfl (fun _ _ _ h => h) (.inr hS) (by rfl) (fun _ => by first | (go_simp; done) | (go_simp; with_reducible rfl)) ?_  -- fieldAddr 45 (tmp 167) 3
  refine till_read (i := 8) [9, 15, 20] rfl (by kernel_rfl) (by kernel_rfl) (by kernel_rfl) (by kernel_rfl) rfl (fun _ _ _ h => h) (by rfl) (fun w' hw' => by first | (go_simp; done) | (go_simp; with_reducible rfl)) hS ?_  -- load 43 (tmp 168)
  refine till_free (i := 9) rfl (by kernel_rfl) (by kernel_rfl) (by kernel_rfl) rfl (fun _ _ _ h => h) (.inr hS) (by rfl) (fun _ => by first | (go_simp; done) | (go_simp; with_reducible rfl)) ?_  -- call { callee := Callee.builtin Builtin.len, args 
  refine till_free (i := 10) rfl (by kernel_rfl) (by kernel_rfl) (by kernel_rfl) rfl (fun _ _ _ h => h) (.inr hS) (by rfl) (fun _ => by first | (go_simp; done) | (go_simp; with_reducible rfl)) ?_  -- move (tmp 10)
  refine till_free (i := 11) rfl (by kernel_rfl) (by kernel_rfl) (by kernel_rfl) rfl (fun _ _ _ h => h) (.inr hS) (by rfl) (fun _ => by first | (go_simp; done) | (go_simp; with_reducible rfl)) ?_  -- nilCheck (tmp 171)
  refine till_free (i := 12) rfl (by kernel_rfl) (by kernel_rfl) (by kernel_rfl) rfl (fun _ _ _ h => h) (.inr hS) (by rfl) (fun _ => by first | (go_simp; done) | (go_simp; with_reducible rfl)) ?_  -- fieldAddr 45 (tmp 172) 3
  refine till_read (i := 13) [14, 15, 20] rfl (by kernel_rfl) (by kernel_rfl) (by kernel_rfl) (by kernel_rfl) rfl (fun _ _ _ h => h) (by rfl) (fun w' hw' => by first | (go_simp; done) | (go_simp; with_reducible rfl)) hS ?_  -- load 43 (tmp 173)
  refine till_free (i := 14) rfl (by kernel_rfl) (by kernel_rfl) (by kernel_rfl) rfl (fun _ _ _ h => h) (.inr hS) (by rfl) (fun _ => by first | (go_simp; done) | (go_simp; with_reducible rfl)) ?_  -- call { callee := Callee.builtin Builtin.len, args 
  refine till_free (i := 15) rfl (by kernel_rfl) (by kernel_rfl) (by kernel_rfl) rfl (fun _ _ _ h => h) (.inr hS) (by rfl) (fun _ => by first | (go_simp; done) | (go_simp; with_reducible rfl)) ?_  -- slice 43 (tmp 165) none (some (tmp 170)) (some (tm
  refine till_free (i := 16) rfl (by kernel_rfl) (by kernel_rfl) (by kernel_rfl) rfl (fun _ _ _ h => h) (.inr hS) (by rfl) (fun _ => by first | (go_simp; done) | (go_simp; with_reducible rfl)) ?_  -- fieldAddr 37 (tmp 3) 1
  refine till_read (i := 17) [18, 19, 20] rfl (by kernel_rfl) (by kernel_rfl) (by kernel_rfl) (by kernel_rfl) rfl (fun _ _ _ h => h) (by rfl) (fun w' hw' => by first | (go_simp; done) | (go_simp; with_reducible rfl)) hS ?_  -- load 9 (tmp 177)
  refine till_free (i := 18) rfl (by kernel_rfl) (by kernel_rfl) (by kernel_rfl) rfl (fun _ _ _ h => h) (.inr hS) (by rfl) (fun _ => by first | (go_simp; done) | (go_simp; with_reducible rfl)) ?_  -- build 62 #[(0, tmp 178)]
  refine till_one (i := 19) (by kernel_rfl) rfl ?_; intro K hK  -- EFFECT Op.buildSlice 43 1 #[(0, Operand.tmp 179)]
  go_simp
  have hS2 : (w3.alloc (.cells #[.string txt] 62)).drew.cell? ⟨g, k * 4 + 3, none⟩ = some (.slice sp nf cc) ∧ (w3.alloc (.cells #[.string txt] 62)).drew.cell? ⟨w.heap.size, 1, none⟩ = some (.string txt) :=
    ⟨by rw [← y3]; exact World.cell?_of_block (w := w3) (Below.heap_alloc _ _ _ (by show g < w3.heap.size; omega)), by rw [← ye1]; exact World.cell?_of_block (w := w3) (Below.heap_alloc _ _ _ hs3)⟩
  refine hK _ _ (.inr hS2) ?_
  have hb4 : Below w3.heap.size w3 (w3.alloc (.cells #[.string txt] 62)).drew := ((Below.refl _ _).alloc (Nat.le_refl _) _).drew
  have ho5 : SlV (w3.alloc (.cells #[.string txt] 62)).drew O 1 (.slice sp nf cc) nf (t.fs.map Value.string) := by
    rw [Hnf.out]
    exact (Hown.out.slV.keep Hk3.out (fun _ _ _ => trivial)).below hb4 (Nat.le_refl _)
  have hs5 : SlV (w3.alloc (.cells #[.string txt] 62)).drew (fun _ => True) 1 (.slice (some ⟨w3.heap.size, 0, none⟩) 1 1) 1 [.string txt] := SlV.fresh w3 (fun _ => True) _ (m := 1) (n := 1) (l := [.string txt]) rfl (fun u hu => by simp at hu; subst hu; rfl) trivial (by unfold maxLen; omega)
  clear hS hS2 hK K
  refine till_one (i := 20) (by kernel_rfl) rfl ?_; intro K hK  -- EFFECT Op.call { callee := Callee.builtin Builtin.append, args := #[Operand.tmp 176, Operand.tmp 180], argTypes := #[43, 43] }
  refine step_growV rfl (.tmp 176) (.tmp 180) 43 rfl elemIndex rfl ho5 rfl hs5 (by omega) (n' := nf + 1) rfl (by unfold maxLen; omega) (by omega) ?_
  intro sp5 c5 w5 hown5 hgrow
  have hb5 : Below w3.heap.size w3 w5 := hb4.trans (((grown_keep hgrow).mono fun b (hb : b < w3.heap.size) => ⟨Nat.lt_of_lt_of_le hb hb4.size, fun e => by cases e⟩).below)
  have hT5 : OwnV 45 4 w5 O (.slice (some ⟨g, 0, none⟩) L.length cap) L.length cells := HT0.out.of_block fun b hb => by
    have : b = g := (Option.some.inj hb).symm
    rw [this, hb5.block g (by omega), Hk3.out.block g trivial]
  have hl4 := hT5.len
  have q3 := hT5.at (k * 4 + 3) (by omega)
  have f3 := hT5.free (k * 4 + 3)
  have HT5 := Hid2.mk hT5
  have Hb5 := Hid2.mk hb5
  have Hown5 := Hid2.mk hown5
  refine hK _ _ (.inl rfl) ?_
  clear hK K ho5 hs5 hb4 hb5 hown5 hgrow hT5 hl4
  refine till_free (i := 21) rfl (by kernel_rfl) (by kernel_rfl) (by kernel_rfl) rfl (fun _ _ _ h => h) (.inl rfl) (by rfl) (fun _ => by first | (go_simp; done) | (go_simp; with_reducible rfl)) ?_  -- nilCheck (tmp 161)
  refine till_free (i := 22) rfl (by kernel_rfl) (by kernel_rfl) (by kernel_rfl) rfl (fun _ _ _ h => h) (.inl rfl) (by rfl) (fun _ => by first | (go_simp; done) | (go_simp; with_reducible rfl)) ?_  -- fieldAddr 45 (tmp 182) 3
  refine till_one (i := 23) (by kernel_rfl) rfl ?_; intro K hK  -- EFFECT Op.store 43 (Operand.tmp 183) (Operand.tmp 181)
  go_simp
  refine hK _ _ (.inl rfl) ?_
  refine till_done (by kernel_rfl) ?_ _
  clear hK K y3
  have hgs : g ≠ w.heap.size := by omega
  have hgc : g ≠ c := by obtain ⟨cur, hcur⟩ := HT0.out.tag rfl; exact tag_ne hcur Hc.out (by decide)
  have z2 : (w5.setCell ⟨g, k * 4 + 3, none⟩ (.slice sp5 (nf + 1) c5)).cell? ⟨c, 2, none⟩ = some (.map (some mb)) := by
    rw [World.cell?_of_block (w := w5) (Below.heap_setCell _ _ _ _ (by show c ≠ g; omega)), Hb5.out.cell (p := ⟨c, 2, none⟩) (by show c < w3.heap.size; omega)]; exact y2
  have ze1 : (w5.setCell ⟨g, k * 4 + 3, none⟩ (.slice sp5 (nf + 1) c5)).cell? ⟨w.heap.size, 1, none⟩ = some (.string txt) := by
    rw [World.cell?_of_block (w := w5) (Below.heap_setCell _ _ _ _ (by show w.heap.size ≠ g; omega)), Hb5.out.cell (p := ⟨w.heap.size, 1, none⟩) (by show w.heap.size < w3.heap.size; omega)]; exact ye1
  have ze2 : (w5.setCell ⟨g, k * 4 + 3, none⟩ (.slice sp5 (nf + 1) c5)).cell? ⟨w.heap.size, 2, none⟩ = some (.int .i64 ((k + 1 : Nat) : Int)) := by
    rw [World.cell?_of_block (w := w5) (Below.heap_setCell _ _ _ _ (by show w.heap.size ≠ g; omega)), Hb5.out.cell (p := ⟨w.heap.size, 2, none⟩) (by show w.heap.size < w3.heap.size; omega)]; exact ye2
  have hmg : mb ≠ g := by obtain ⟨cur, hcur⟩ := HT0.out.tag rfl; exact MF.tag_ne Hm.out hcur
  have hm6 : MF Try.prog 75 mk (w5.setCell ⟨g, k * 4 + 3, none⟩ (.slice sp5 (nf + 1) c5)) mb n (hasF L) :=
    (((Hm.out.keep Hk3.out trivial).below Hb5.out (Nat.lt_of_lt_of_le Hm.out.lt Hk3.out.size)).other _ _ hmg)
  have hT6 := HT5.out.stored (k * 4 + 3) (u := .slice sp5 (nf + 1) c5) rfl
  have hk6 : Keep (fun b => b < w3.heap.size ∧ b ≠ g) w3 (w5.setCell ⟨g, k * 4 + 3, none⟩ (.slice sp5 (nf + 1) c5)) := ((Keep.of_below Hb5.out).mono fun b hb => hb.1).setCell (fun h => h.2 rfl) _
  have h67 : Keep (fun b => b ≠ g) w5 (w5.setCell ⟨g, k * 4 + 3, none⟩ (.slice sp5 (nf + 1) c5)) := (Keep.refl _ w5).setCell (fun h => h rfl) _
  generalize World.setCell _ _ _ = w6 at z2 ze1 ze2 hm6 hT6 hk6 h67 ⊢
  have hm6d : MF Try.prog 75 mk w6.drew mb n (hasF L) := hm6.of_block rfl
  have hnl : n < maxLen := by unfold maxLen; omega
  obtain ⟨w7, hrun, hm7, hk7⟩ := hm6d.put mk_inj keyed Try.underlying66 hnl (.bool true) Hkk.out
  have em : mk (((k + 1 : Nat) : Int), txt) = .agg #[.int .i64 ((k : Int) + 1), .string txt] := by unfold mk; simp
  rw [em] at hrun
  have Hrun := Hid2.mk hrun
  have Hm7 := Hid2.mk hm7
  have Hk7 := Hid2.mk (show Keep (fun b => b ≠ mb) w6 w7 from ((Keep.refl _ w6).drewN 1).trans hk7)
  clear hm6d hnl hrun hm7 hk7 em
  have HT6 := Hid2.mk hT6
  have Hk6 := Hid2.mk hk6
  have H67 := Hid2.mk h67
  clear hm6 hT6 hk6 h67 q3 f3 y2 ye1 ye2 hz
  go_wp2_with fail
  have hrun := Hrun.out
  refine wp_region_still_tail 9 (by kernel_rfl) (by kernel_rfl) ?_
  simp only [List.take_succ_cons, List.take_zero, List.drop_succ_cons, List.drop_zero]
  repeat still_step
  try refine wpStill_nil ?_
  change wpList _ _ _ _ _ w6.drew
  go_wp2_with fail
  go_ret
  clear hrun
  obtain ⟨hOm, hO1, hBt, hG⟩ := HX.out
  have hmo : mb < w.heap.size := H.out.lt mb hOm
  have hmc : mb ≠ c := MF.tag_ne Hm.out Hc.out
  have hx : appC L 7 txt ((k + 1 : Nat) : Int) = 0 := by
    unfold appC
    rw [if_neg (by omega), if_neg (by omega), if_pos rfl, if_neg (by rw [Ht.out]; simp), if_neg (by rw [Hnm.out]; simp), if_neg (by rw [Hh.out]; simp), Hek.out, if_neg (by rw [← Hte.out, ← Hnf.out]; omega)]
  have hl : appL L 7 txt ((k + 1 : Nat) : Int) = L.set k ⟨t.name, t.dropped, t.fs ++ [txt]⟩ := by
    unfold appL
    rw [if_pos hx, if_neg (by omega), if_neg (by omega), if_pos rfl, Hek.out, ← Hte.out]
  have hnm2 : txt.size ≤ 40 := by
    have := Hnm.out
    unfold isNm at this
    simp at this
    exact this.2
  have hs36 := Hk6.out.size
  have hs67 := Hk7.out.size
  have hs56 := H67.out.size
  have hsA : ∀ b, (w3.alloc (.cells #[.string txt] 62)).drew.heap.size ≤ b → w3.heap.size < b := fun b (hb : (w3.alloc _).heap.size ≤ b) => by simp at hb; omega
  have hc7 : VBlk 69 w7 c [.slice (some ⟨g, 0, none⟩) L.length cap, .int .u64 (dr : Nat), .map (some mb)] :=
    ((Hc.out.keep Hk3.out trivial).keep Hk6.out ⟨by omega, Ne.symm hgc⟩).keep Hk7.out (Ne.symm hmc)
  have hT7 := HT6.out.keep Hk7.out (fun b hb => by have e := Option.some.inj hb; subst e; exact Ne.symm hmg)
  have hO5 : ∀ b, (Value.slice sp5 (nf + 1) c5).ownBlock = some b → w3.heap.size < b := fun b hb => hsA b (Hown5.out.own hb)
  have hl4 := HT0.out.len
  refine ⟨fun b => O b ∨ (Value.slice sp5 (nf + 1) c5).ownBlock = some b, by rw [hx]; rfl, ?_, ?_, fun b hb => hb.imp id fun h => by have := hO5 b h; omega⟩
  · rw [hl]
    refine ⟨_, dr, mb, hc7, .inl hOc, .inl hOm, fun b hb => ?_, ⟨_, by rw [List.length_set]; exact hT7.mono (fun _ h => .inl h), fun i hi => ?_⟩, bits_same hBt hk _ (by rw [← Hte.out]), ?_, good_set hG ?_ ?_ ?_ ?_⟩
    · rcases hb with hb | hb
      · have := H.out.lt b hb; omega
      · have := Hown5.out.lt hb; omega
    · rw [List.length_set] at hi
      by_cases e : k = i
      · subst e
        rw [getD_set_eq _ _ _ _ hk]
        obtain ⟨i0, i1, i2, i3⟩ := HI.out k hk
        refine ⟨?_, ?_, ?_, ?_⟩
        · rw [getD_set_ne _ _ _ _ _ (by omega)]; exact i0
        · rw [getD_set_ne _ _ _ _ _ (by omega), Hte.out]; exact i1
        · rw [getD_set_ne _ _ _ _ _ (by omega), Hte.out]; exact i2
        · rw [getD_set_eq _ _ _ _ (by omega)]
          have e1 : (t.fs ++ [txt]).length = nf + 1 := by rw [List.length_append, ← Hnf.out]; rfl
          have e2 : (t.fs ++ [txt]).map Value.string = t.fs.map Value.string ++ [.string txt] := by simp
          show OwnV _ 1 w7 _ _ (t.fs ++ [txt]).length ((t.fs ++ [txt]).map Value.string)
          rw [e1, e2]
          refine ⟨(Hown5.out.of_block (w' := w7) fun b hb => ?_).1, Hown5.out.2.1, fun b hb => .inr hb⟩
          have := hO5 b hb
          rw [Hk7.out.block b (by show b ≠ mb; omega), H67.out.block b (by show b ≠ g; omega)]
      · rw [getD_set_ne _ _ _ _ _ e]
        have hit : IsTab 62 w7 O (cells.set (k * 4 + 3) (.slice sp5 (nf + 1) c5)) i (L.getD i noTb) := by
          refine (HI.out i hi).moved (fun j hj => ?_) (fun b hb hcur => ?_)
          · rw [getD_set_ne _ _ _ _ _ (by omega)]
          · obtain ⟨cur, hcur⟩ := hcur
            obtain ⟨curg, hcurg⟩ := HT0.out.tag rfl
            have hbw := H.out.lt b hb
            rw [Hk7.out.block b (Ne.symm (MF.tag_ne Hm.out hcur)), Hk6.out.block b ⟨by omega, tag_ne hcur hcurg (by decide)⟩, Hk3.out.block b trivial]
        exact ⟨hit.1, hit.2.1, hit.2.2.1, hit.2.2.2.mono (fun _ h => .inl h)⟩
    · have := put_has hk txt t.name t.dropped
      rw [← Hte.out] at this
      rw [← this]; exact Hm7.out
    · rw [Hte.out]; exact (hG.each k hk).1
    · show (t.fs ++ [txt]).length ≤ 16
      rw [List.length_append, ← Hnf.out]; show nf + 1 ≤ 16; omega
    · intro f hf
      rcases List.mem_append.1 hf with h | h
      · have := (hG.each k hk).2.2.1 f (by rw [← Hte.out]; exact h); exact this
      · rw [List.mem_singleton.1 h]; exact hnm2
    · intro hd
      have h1 := Ht.out
      unfold there at h1
      rw [Hek.out, ← Hte.out] at h1
      have hd' : t.dropped = true := hd
      rw [hd'] at h1
      simp at h1
  · refine ((Keep.of_below HB.out).mono fun b hb => hb.1).trans ((Hk3.out.mono fun _ _ => trivial).trans ((Hk6.out.mono fun b (hb : b < w.heap.size ∧ ¬ O b) => ⟨by omega, fun e => hb.2 (e ▸ hOg)⟩).trans (Hk7.out.mono fun b hb e => hb.2 (e ▸ hOm))))

end Cat
end Go.Proofs.Ytdaljjicekheiaa
