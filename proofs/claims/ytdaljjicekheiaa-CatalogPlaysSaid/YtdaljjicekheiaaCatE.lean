/- The catalog: Apply of a new table. -/
import Derived.Test.YtdaljjicekheiaaCatD
import Derived.IntWalk
import Derived.Test.YtdaljjicekheiaaReg
namespace Go.Proofs.Ytdaljjicekheiaa
open Go.RowKit Go.Maps
namespace Cat

/-- The cells of an Entry: its kind, text and table. -/
structure Ent (cs : Array Value) (kind : Int) (txt : ByteArray) (tbl : Int) : Prop where
  hsz : cs.size = 46
  hk : cs[0]? = some (.int .i64 kind)
  htx : cs[1]? = some (.string txt)
  htb : cs[2]? = some (.int .i64 tbl)
  hsh : txt.size ≤ maxLen
  hwf : (Lit.int .i64 tbl).wf = true

/-- What Apply answers. -/
def appC (L : List Tb) (kind : Int) (txt : ByteArray) (tbl : Int) : Int :=
  if kind = 5 then (if 64 ≤ L.length then 17 else if tbl ≠ L.length + 1 ∨ isNm txt = false then 3 else if (findI L txt).isSome = true then 8 else 0)
  else if kind = 6 then (if there L tbl = true then 0 else 7)
  else if kind = 7 then (if there L tbl = false then 7 else if isNm txt = false then 3 else if has L tbl txt = true then 8 else if 16 ≤ (L.getD (tbl - 1).toNat noTb).fs.length then 17 else 0)
  else 0
/-- What it leaves. -/
def appL (L : List Tb) (kind : Int) (txt : ByteArray) (tbl : Int) : List Tb :=
  if appC L kind txt tbl = 0 then
    (if kind = 5 then L ++ [⟨txt, false, []⟩]
     else if kind = 6 then L.set (tbl - 1).toNat ⟨(L.getD (tbl - 1).toNat noTb).name, true, []⟩
     else if kind = 7 then L.set (tbl - 1).toNat ⟨(L.getD (tbl - 1).toNat noTb).name, (L.getD (tbl - 1).toNat noTb).dropped, (L.getD (tbl - 1).toNat noTb).fs ++ [txt]⟩
     else L)
  else L

/-- What Apply promises. -/
def AppPost (w : World) (c n : Nat) (O : Nat → Prop) (L : List Tb) (kind : Int) (txt : ByteArray) (tbl : Int) (e : Ending) (w' : World) : Prop :=
  ∃ O', e = .returned (.int .i64 (appC L kind txt tbl)) ∧ IsCat w' c O' (n + 1) (appL L kind txt tbl) ∧ Keep (fun b => b < w.heap.size ∧ ¬ O b) w w' ∧ ∀ b, O' b → O b ∨ w.heap.size ≤ b

theorem IsCat.mono {w : World} {c n n' : Nat} {O : Nat → Prop} {L : List Tb} (h : IsCat w c O n L) (hn : n ≤ n') : IsCat w c O n' L := by
  obtain ⟨tv, dr, mb, h1, h2, h3, h4, h5, h6, h7, h8⟩ := h
  exact ⟨tv, dr, mb, h1, h2, h3, h4, h5, h6, h7.mono hn, h8⟩

/-- Refused: nothing has changed. -/
theorem appPost_no {w w' : World} {c n : Nat} {O : Nat → Prop} {L : List Tb} {kind : Int} {txt : ByteArray} {tbl x : Int} (hx : appC L kind txt tbl = x) (hne : x ≠ 0) (h : IsCat w c O n L) (hb : Below w.heap.size w w') : AppPost w c n O L kind txt tbl (.returned (.int .i64 x)) w' :=
  ⟨O, by rw [hx], by unfold appL; rw [if_neg (by rw [hx]; exact hne)]; exact (h.below hb (Nat.le_refl _)).mono (by omega), Keep.mono (Keep.of_below hb) (fun k hk => hk.1), fun b hb => .inl hb⟩

theorem getD_left {α : Type} (l r : List α) (i : Nat) (d : α) (h : i < l.length) : (l ++ r).getD i d = l.getD i d := by simp [List.getElem?_append_left h]
theorem getD_right {α : Type} (l r : List α) (i : Nat) (d : α) : (l ++ r).getD (l.length + i) d = r.getD i d := by simp [List.getElem?_append_right]
theorem getD_over {α : Type} (l : List α) (i : Nat) (d : α) (h : l.length ≤ i) : l.getD i d = d := by simp [h]
theorem has_push (L : List Tb) (txt : ByteArray) (id : Int) (f : ByteArray) : has (L ++ [⟨txt, false, []⟩]) id f = has L id f := by
  unfold has
  by_cases h1 : 1 ≤ id
  · by_cases h2 : id ≤ L.length
    · have h3 : id ≤ (L ++ [⟨txt, false, []⟩] : List Tb).length := by simp; omega
      rw [getD_left _ _ _ _ (by omega)]
      simp [h1, h2]; omega
    · by_cases h4 : id = L.length + 1
      · have e : (id - 1).toNat = L.length + 0 := by omega
        rw [e, getD_right]
        show (_ && _ && mem [] f) = _
        simp [h2, mem_nil]
      · rw [getD_over _ _ _ (by simp; omega)]
        simp [noTb, h2, mem_nil]
  · simp [h1]
theorem tag_ne {w : World} {b b' : Nat} {cs cs' : Array Value} {t t' : TypeId} {fr fr' : Nat × Nat} (h : w.heap[b]? = some (.cells cs t fr)) (h' : w.heap[b']? = some (.cells cs' t' fr')) (hne : t ≠ t') : b ≠ b' := by
  intro e; subst e; rw [h] at h'; injection h' with h'; injection h' with _ h2 _; exact hne h2
theorem MF.tag_ne {κ : Type} {P : Program} {k : TypeId} {mk : κ → Value} {w : World} {b n : Nat} {F : κ → Option Value} (h : MF P k mk w b n F) {b' : Nat} {cs : Array Value} {t : TypeId} {fr : Nat × Nat} (h' : w.heap[b']? = some (.cells cs t fr)) : b ≠ b' := by
  obtain ⟨D, ⟨es, clock, h1, -⟩, -⟩ := h
  intro e; subst e; rw [h1] at h'; cases h'

/-- A table more. -/
theorem cat_push {w0 w1 : World} {c n dr mb B : Nat} {O : Nat → Prop} {L : List Tb} {tv tv' : Value} {cells : List Value} {txt : ByteArray}
    (hc : VBlk 69 w0 c [tv, .int .u64 (dr : Nat), .map (some mb)]) (hOc : O c) (hOm : O mb) (hO : ∀ b, O b → b < w0.heap.size)
    (hT : OwnV 45 4 w0 O tv L.length cells) (hI : ∀ i, i < L.length → IsTab 62 w0 O cells i (L.getD i noTb)) (hB : Bits dr L) (hM : MF Try.prog 75 mk w0 mb n (hasF L)) (hG : Good L)
    (hk : Keep (fun b => b < w0.heap.size ∧ tv.ownBlock ≠ some b) w0 w1) (hBB : w0.heap.size ≤ B)
    (hT1 : OwnV 45 4 w1 (fun g => O g ∨ g = B) tv' (L.length + 1) (cells ++ [.int .i64 (L.length + 1 : Nat), .string txt, .bool false, .slice none 0 0])) (hlen : L.length < 64) (htxt : txt.size ≤ 40) :
    IsCat (w1.setCell ⟨c, 0, none⟩ tv') c (fun b => O b ∨ tv'.ownBlock = some b) (n + 1) (L ++ [⟨txt, false, []⟩]) ∧ Keep (fun b => b < w0.heap.size ∧ ¬ O b) w0 (w1.setCell ⟨c, 0, none⟩ tv') ∧ ∀ b, (O b ∨ tv'.ownBlock = some b) → O b ∨ w0.heap.size ≤ b := by
  have hcn : tv.ownBlock ≠ some c := by
    intro e; obtain ⟨cur, hcur⟩ := hT.tag e; exact tag_ne hc hcur (by decide) rfl
  have hmn : tv.ownBlock ≠ some mb := by
    intro e; obtain ⟨cur, hcur⟩ := hT.tag e; exact MF.tag_ne hM hcur rfl
  have hmc : mb ≠ c := MF.tag_ne hM hc
  have hc1 : VBlk 69 w1 c [tv, .int .u64 (dr : Nat), .map (some mb)] := hc.keep hk ⟨hO c hOc, hcn⟩
  have hlen1 := hT.len
  have ho : ∀ b, tv'.ownBlock = some b → O b ∨ w0.heap.size ≤ b := fun b e => (hT1.own e).imp id (fun e => by rw [e]; exact hBB)
  have hsz : (w1.setCell ⟨c, 0, none⟩ tv').heap.size = w1.heap.size := by simp [World.setCell]
  have hkc : ∀ b, b ≠ c → (w1.setCell ⟨c, 0, none⟩ tv').heap[b]? = w1.heap[b]? := fun b hb => Below.heap_setCell _ _ _ _ hb
  refine ⟨⟨tv', dr, mb, hc1.set 0 tv', .inl hOc, .inl hOm, fun b hb => ?_, ⟨cells ++ [.int .i64 (L.length + 1 : Nat), .string txt, .bool false, .slice none 0 0], ?_, fun i hi => ?_⟩, ⟨hB.1, fun i => ?_⟩, ?_, ⟨by simp; omega, fun i hi => ?_⟩⟩, ⟨hk.os, hk.tape, hk.output, by rw [hsz]; exact hk.size, fun b hb => ?_⟩, fun b hb => hb.elim .inl (ho b)⟩
  · rw [hsz]
    rcases hb with hb | hb
    · exact Nat.lt_of_lt_of_le (hO b hb) hk.size
    · exact hT1.lt hb
  · have hl : (L ++ [(⟨txt, false, []⟩ : Tb)]).length = L.length + 1 := by simp
    rw [hl]
    refine ⟨(hT1.of_block fun g hg => hkc g ?_).1, hT1.2.1, fun g hg => .inr hg⟩
    intro e; obtain ⟨cur, hcur⟩ := hT1.tag hg; rw [e] at hcur; exact tag_ne hc1 hcur (by decide) rfl
  · have h62 : ∀ b, O b → (∃ cur, w0.heap[b]? = some (.cells cur 62 (0, 0))) → (w1.setCell ⟨c, 0, none⟩ tv').heap[b]? = w0.heap[b]? := by
      rintro b hb ⟨cur, hcur⟩
      have h1 : b ≠ c := tag_ne hcur hc (by decide)
      have h2 : tv.ownBlock ≠ some b := by
        intro e; obtain ⟨cur', hcur'⟩ := hT.tag e; exact tag_ne hcur hcur' (by decide) rfl
      rw [hkc b h1, hk.block b ⟨hO b hb, h2⟩]
    by_cases h : i < L.length
    · rw [getD_left L _ i _ h]
      obtain ⟨i0, i1, i2, i3⟩ := (hI i h).of_block h62
      refine ⟨?_, ?_, ?_, ?_⟩
      · rw [getD_left _ _ _ _ (by omega)]; exact i0
      · rw [getD_left _ _ _ _ (by omega)]; exact i1
      · rw [getD_left _ _ _ _ (by omega)]; exact i2
      · rw [getD_left _ _ _ _ (by omega)]; exact i3.mono fun b hb => .inl hb
    · have e : i = L.length := by simp at hi; omega
      subst e
      have e1 : (L ++ [(⟨txt, false, []⟩ : Tb)]).getD L.length noTb = ⟨txt, false, []⟩ := getD_right L _ 0 _
      rw [e1]
      have e2 : L.length * 4 = cells.length := hlen1.symm
      unfold IsTab
      rw [e2]
      refine ⟨getD_right cells _ 0 _, getD_right cells _ 1 _, getD_right cells _ 2 _, ?_⟩
      rw [getD_right cells _ 3 _]
      exact OwnV.nil _ _ _ _
  · rw [hB.2 i]
    rcases Nat.lt_trichotomy i L.length with h | h | h
    · rw [getD_left _ _ _ _ h]
    · subst h; rw [getD_over L _ _ (Nat.le_refl _)]; have e := getD_right L [(⟨txt, false, []⟩ : Tb)] 0 noTb; rw [Nat.add_zero] at e; rw [e]; rfl
    · rw [getD_over _ _ _ (by omega), getD_over _ _ _ (by simp; omega)]
  · have := ((hM.keep hk ⟨hO mb hOm, hmn⟩).of_block (w' := w1.setCell ⟨c, 0, none⟩ tv') (hkc mb hmc)).mono (Nat.le_succ n)
    exact this.congr fun x => by unfold hasF; rw [has_push]
  · by_cases h : i < L.length
    · rw [getD_left _ _ _ _ h]; exact hG.each i h
    · have e : i = L.length := by simp at hi; omega
      subst e
      have e1 : (L ++ [(⟨txt, false, []⟩ : Tb)]).getD L.length noTb = ⟨txt, false, []⟩ := getD_right L _ 0 _
      rw [e1]
      exact ⟨htxt, by simp, by simp, by simp⟩
  · rw [hkc b (fun e => hb.2 (e ▸ hOc))]
    exact hk.block b ⟨hb.1, fun e => hb.2 (hT.own e)⟩

theorem elemTable : ElemV Try.prog 41 45 4 56 := ElemV.mk' (z := .agg #[.int .i64 0, .string ByteArray.empty, .bool false, .slice none 0 0]) Try.underlying41 (by kernel_rfl) rfl (by omega)

set_option maxRecDepth 100000 in
set_option maxHeartbeats 2000000 in
theorem apply_table {w : World} {c n : Nat} {O : Nat → Prop} {L : List Tb} {cs : Array Value} {txt : ByteArray} {tbl : Int} (h : IsCat w c O n L) (hE : Ent cs 5 txt tbl) :
    Calls Try.prog 9 #[.pointer (some ⟨c, 0, none⟩), .agg cs] w (AppPost w c n O L 5 txt tbl) := by
  have hz := zeroTable
  have hbel : Below w.heap.size w (w.alloc (.cells cs 37)) := (Below.refl _ w).alloc (Nat.le_refl _) _
  have h1 := h.below hbel (Nat.le_refl _)
  have HE := Hid2.mk hE
  have hrow := heap_alloc_new w (.cells cs 37)
  have e0 : (w.alloc (.cells cs 37)).cell? ⟨w.heap.size, 0, none⟩ = some (.int .i64 5) := by rw [cell_of_row _ _ _ _ _ _ hrow]; exact hE.hk
  have e1 : (w.alloc (.cells cs 37)).cell? ⟨w.heap.size, 1, none⟩ = some (.string txt) := by rw [cell_of_row _ _ _ _ _ _ hrow]; exact hE.htx
  have e2 : (w.alloc (.cells cs 37)).cell? ⟨w.heap.size, 2, none⟩ = some (.int .i64 tbl) := by rw [cell_of_row _ _ _ _ _ _ hrow]; exact hE.htb
  have H := Hid2.mk h
  have HB := Hid2.mk hbel
  have H1 := Hid2.mk h1
  clear h hbel h1 hE hrow
  go_enter Try.func9, Try.ntmps9
  go_wp2_with fail
  generalize World.alloc _ _ = w1 at e0 e1 e2 HB H1 ⊢
  have hlt0 := World.block_lt_of_cell? w1 _ e0
  refine (find_any H1.out _).mono ?_
  rintro e w2 ⟨sp, cc, rfl, hown, hb2⟩
  have hec : ((findR L txt).2.2 = 0 ∧ (findI L txt).isSome = true) ∨ ((findR L txt).2.2 = 13 ∧ (findI L txt).isSome = false) := by
    unfold findR
    cases findI L txt <;> simp
  generalize findR L txt = r at *
  obtain ⟨ri, rt, rc⟩ := r
  have Hec := Hid2.mk hec
  have hb3 : Below w1.heap.size w1 (w2.alloc (.cells #[.int .i64 ri, .string rt.name, .bool rt.dropped, .slice sp rt.fs.length cc] 45)) := hb2.alloc hb2.size _
  have H3 := Hid2.mk (H1.out.below hb3 (Nat.le_refl _))
  have HB3 := Hid2.mk (HB.out.trans (hb3.mono HB.out.size))
  have e1' : (w2.alloc (.cells #[.int .i64 ri, .string rt.name, .bool rt.dropped, .slice sp rt.fs.length cc] 45)).cell? ⟨w.heap.size, 1, none⟩ = some (.string txt) := by rw [hb3.cell (p := ⟨w.heap.size, 1, none⟩) hlt0]; exact e1
  have e2' : (w2.alloc (.cells #[.int .i64 ri, .string rt.name, .bool rt.dropped, .slice sp rt.fs.length cc] 45)).cell? ⟨w.heap.size, 2, none⟩ = some (.int .i64 tbl) := by rw [hb3.cell (p := ⟨w.heap.size, 2, none⟩) hlt0]; exact e2
  have hs2 : w.heap.size < w2.heap.size := Nat.lt_of_lt_of_le hlt0 hb2.size
  clear hec hb2 hb3 H1 HB e0 e1 e2 hlt0 hown
  obtain ⟨tv, dr, mb, hc, hOc, hOm, hO3, ⟨cells, hT, hI⟩, hB3, hM3, hG⟩ := H3.out
  have HX := Hid2.mk (And.intro hOm (And.intro hO3 (And.intro hB3 (And.intro hM3 hG))))
  clear hOm hO3 hB3 hM3
  obtain ⟨sp2, cap, rfl, hcap, hcap2⟩ := hT.slice
  have c0 := hc.cell 0 (by simp)
  simp only [List.getD_cons_zero] at c0
  have hcw : c < w.heap.size := H.out.lt c hOc
  have HT := Hid2.mk hT
  have HI := Hid2.mk hI
  have hlen := hG.len
  have Hc := Hid2.mk hc
  clear hT hI hG hc
  by_cases h64 : 64 ≤ L.length
  · have hx : appC L 5 txt tbl = 17 := by unfold appC; rw [if_pos rfl, if_pos h64]
    have Hx := Hid2.mk hx
    have h64' : (64 : Int) ≤ L.length := by omega
    clear hx
    go_wp2_with fail
    go_ret
    exact appPost_no Hx.out (by omega) H.out HB3.out
  · have h64' : (L.length : Int) < 64 := by omega
    have hwr : IntKind.i64.wrap ((L.length : Int) + 1) = (L.length : Int) + 1 := IntWalk.i64_in _ (by omega)
    by_cases htb : tbl = L.length + 1
    · subst htb
      have hg : (((L.length : Int) + 1) != (L.length : Int) + 1) = false := by simp
      cases hnm : isNm txt with
      | false =>
        have hx : appC L 5 txt (L.length + 1) = 3 := by unfold appC; rw [if_pos rfl, if_neg h64, if_pos (.inr hnm)]
        have Hx := Hid2.mk hx
        have Hcl : Hid2 (∀ w, Calls Try.prog 22 #[.string txt] w fun e w' => e = .returned (.bool false) ∧ w = w') := Hid2.mk fun w => by rw [← hnm]; exact isName_any txt w
        clear hx hnm
        go_wp2_with fail
        go_quiet ((go_at_call 22; exact quiet_left (Hcl.out _)))
        go_wp2_with fail
        go_ret
        exact appPost_no Hx.out (by omega) H.out (belowN HB3.out _)
      | true =>
        have Hcl : Hid2 (∀ w, Calls Try.prog 22 #[.string txt] w fun e w' => e = .returned (.bool true) ∧ w = w') := Hid2.mk fun w => by rw [← hnm]; exact isName_any txt w
        have Hnm := Hid2.mk hnm
        clear hnm
        go_wp2_with fail
        go_quiet ((go_at_call 22; exact quiet_left (Hcl.out _)))
        rcases Hec.out with ⟨hr, hi⟩ | ⟨hr, hi⟩
        · have hx : appC L 5 txt (L.length + 1) = 8 := by unfold appC; rw [if_pos rfl, if_neg h64, if_neg (by simp [Hnm.out]), if_pos hi]
          have Hx := Hid2.mk hx
          subst hr
          clear hx hi
          go_wp2_with fail
          go_ret
          exact appPost_no Hx.out (by omega) H.out (belowN HB3.out _)
        · skip
          subst hr
          have Hi := Hid2.mk hi
          clear hi
          go_wp2_with fail
          generalize hw4 : World.drewN _ _ = w4
          have f0 : w4.cell? ⟨c, 0, none⟩ = some (.slice sp2 L.length cap) := by rw [← hw4]; exact c0
          have f1 : w4.cell? ⟨w.heap.size, 1, none⟩ = some (.string txt) := by rw [← hw4]; exact e1'
          have f2 : w4.cell? ⟨w.heap.size, 2, none⟩ = some (.int .i64 ((L.length : Int) + 1)) := by rw [← hw4]; exact e2'
          have HB4 := Hid2.mk (show Below w.heap.size w w4 by rw [← hw4]; exact belowN HB3.out _)
          have HT4 := Hid2.mk (show OwnV 45 4 w4 O (.slice sp2 L.length cap) L.length cells by rw [← hw4]; exact HT.out)
          have HI4 := Hid2.mk (show ∀ i, i < L.length → IsTab 62 w4 O cells i (L.getD i noTb) by rw [← hw4]; exact HI.out)
          have Hc4 := Hid2.mk (show VBlk 69 w4 c [.slice sp2 L.length cap, .int .u64 (dr : Nat), .map (some mb)] by rw [← hw4]; exact Hc.out)
          have HX4 := Hid2.mk (show O mb ∧ (∀ b, O b → b < w4.heap.size) ∧ Bits dr L ∧ MF Try.prog 75 mk w4 mb n (hasF L) ∧ Good L by rw [← hw4]; exact HX.out)
          clear HB3 H3 HT HI HX Hc c0 e1' e2' hw4 h64 h64' hcap
          have hS : w4.drew.cell? ⟨c, 0, none⟩ = some (.slice sp2 L.length cap) ∧ w4.drew.cell? ⟨w.heap.size, 1, none⟩ = some (.string txt) ∧ w4.drew.cell? ⟨w.heap.size, 2, none⟩ = some (.int .i64 ((L.length : Int) + 1)) := ⟨f0, f1, f2⟩
          have hsz4 : w.heap.size < w4.heap.size := World.block_lt_of_cell? w4 _ f1
          have hc4 : c < w4.heap.size := World.block_lt_of_cell? w4 _ f0
          refine wp_region_till 11 (fun w' => w'.cell? ⟨c, 0, none⟩ = some (.slice sp2 L.length cap) ∧ w'.cell? ⟨w.heap.size, 1, none⟩ = some (.string txt) ∧ w'.cell? ⟨w.heap.size, 2, none⟩ = some (.int .i64 ((L.length : Int) + 1))) (by kernel_rfl) ?_
          refine till_free (i := 0) rfl (by kernel_rfl) (by kernel_rfl) (by kernel_rfl) rfl (fun _ _ _ h => h) (.inr hS) (by rfl) (fun _ => by first | (go_simp; done) | (go_simp; with_reducible rfl)) ?_  -- move (tmp 0)
          refine till_free (i := 1) rfl (by kernel_rfl) (by kernel_rfl) (by kernel_rfl) rfl (fun _ _ _ h => h) (.inr hS) (by rfl) (fun _ => by first | (go_simp; done) | (go_simp; with_reducible rfl)) ?_  -- move (tmp 0)
          refine till_free (i := 2) rfl (by kernel_rfl) (by kernel_rfl) (by kernel_rfl) rfl (fun _ _ _ h => h) (.inr hS) (by rfl) (fun _ => by first | (go_simp; done) | (go_simp; with_reducible rfl)) ?_  -- nilCheck (tmp 51)
          refine till_free (i := 3) rfl (by kernel_rfl) (by kernel_rfl) (by kernel_rfl) rfl (fun _ _ _ h => h) (.inr hS) (by rfl) (fun _ => by first | (go_simp; done) | (go_simp; with_reducible rfl)) ?_  -- fieldAddr 69 (tmp 52) 0
          refine till_read (i := 4) [11] rfl (by kernel_rfl) (by kernel_rfl) (by kernel_rfl) (by kernel_rfl) rfl (fun _ _ _ h => h) (by rfl) (fun w' hw' => by first | (go_simp; done) | (go_simp; with_reducible rfl)) hS ?_  -- load 41 (tmp 53)
          refine till_free (i := 5) rfl (by kernel_rfl) (by kernel_rfl) (by kernel_rfl) rfl (fun _ _ _ h => h) (.inr hS) (by rfl) (fun _ => by first | (go_simp; done) | (go_simp; with_reducible rfl)) ?_  -- fieldAddr 37 (tmp 3) 2
          refine till_read (i := 6) [9, 10, 11] rfl (by kernel_rfl) (by kernel_rfl) (by kernel_rfl) (by kernel_rfl) rfl (fun _ _ _ h => h) (by rfl) (fun w' hw' => by first | (go_simp; done) | (go_simp; with_reducible rfl)) hS ?_  -- load 3 (tmp 55)
          refine till_free (i := 7) rfl (by kernel_rfl) (by kernel_rfl) (by kernel_rfl) rfl (fun _ _ _ h => h) (.inr hS) (by rfl) (fun _ => by first | (go_simp; done) | (go_simp; with_reducible rfl)) ?_  -- fieldAddr 37 (tmp 3) 1
          refine till_read (i := 8) [9, 10, 11] rfl (by kernel_rfl) (by kernel_rfl) (by kernel_rfl) (by kernel_rfl) rfl (fun _ _ _ h => h) (by rfl) (fun w' hw' => by first | (go_simp; done) | (go_simp; with_reducible rfl)) hS ?_  -- load 9 (tmp 57)
          refine till_free (i := 9) rfl (by kernel_rfl) (by kernel_rfl) (by kernel_rfl) rfl (fun _ _ _ h => h) (.inr hS) (by rfl) (fun _ => by first | (go_simp; done) | (go_simp; with_reducible rfl)) ?_  -- build 45 #[(0, tmp 56), (1, tmp 58)]
          refine till_one (i := 10) (by kernel_rfl) rfl ?_; intro K hK  -- EFFECT Op.buildSlice 41 1 #[(0, Operand.tmp 59)]
          go_simp
          have hS2 : (w4.alloc (.cells #[.int .i64 ((L.length : Int) + 1), .string txt, .bool false, .slice none 0 0] 45)).drew.cell? ⟨c, 0, none⟩ = some (.slice sp2 L.length cap) ∧ (w4.alloc (.cells #[.int .i64 ((L.length : Int) + 1), .string txt, .bool false, .slice none 0 0] 45)).drew.cell? ⟨w.heap.size, 1, none⟩ = some (.string txt) ∧ (w4.alloc (.cells #[.int .i64 ((L.length : Int) + 1), .string txt, .bool false, .slice none 0 0] 45)).drew.cell? ⟨w.heap.size, 2, none⟩ = some (.int .i64 ((L.length : Int) + 1)) :=
            ⟨by rw [← f0]; exact World.cell?_of_block (w := w4) (Below.heap_alloc _ _ _ hc4), by rw [← f1]; exact World.cell?_of_block (w := w4) (Below.heap_alloc _ _ _ hsz4), by rw [← f2]; exact World.cell?_of_block (w := w4) (Below.heap_alloc _ _ _ hsz4)⟩
          refine hK _ _ (.inr hS2) ?_
          have ho5 : OwnV 45 4 (w4.alloc (.cells #[.int .i64 ((L.length : Int) + 1), .string txt, .bool false, .slice none 0 0] 45)).drew O (.slice sp2 L.length cap) L.length cells := HT4.out.alloc _
          have hs5 : SlV (w4.alloc (.cells #[.int .i64 ((L.length : Int) + 1), .string txt, .bool false, .slice none 0 0] 45)).drew (fun _ => True) 4 (.slice (some ⟨w4.heap.size, 0, none⟩) 1 1) 1 [.int .i64 ((L.length : Int) + 1), .string txt, .bool false, .slice none 0 0] := SlV.fresh w4 (fun _ => True) _ (m := 4) (n := 1) (l := [.int .i64 ((L.length : Int) + 1), .string txt, .bool false, .slice none 0 0]) rfl (fun u hu => by simp at hu; rcases hu with rfl | rfl | rfl | rfl <;> rfl) trivial (by unfold maxLen; omega)
          clear hS hS2 hK K
          refine till_one (i := 11) (by kernel_rfl) rfl ?_; intro K hK  -- EFFECT Op.call { callee := Callee.builtin Builtin.append, args := #[Operand.tmp 54, Operand.tmp 60], argTypes := #[41, 41] }
          refine step_appV rfl (.tmp 54) (.tmp 60) 41 rfl elemTable rfl ho5 rfl hs5 (n' := L.length + 1) rfl (by unfold maxLen; omega) (by omega) ?_
          intro sp5 c5 w5 hown5 hgrow hat
          have hcn : (Value.slice sp2 L.length cap).ownBlock ≠ some c := by
            intro e; obtain ⟨cur, hcur⟩ := HT4.out.tag e; exact tag_ne Hc4.out hcur (by decide) rfl
          have hk5 : Keep (fun b => b < w4.heap.size ∧ (Value.slice sp2 L.length cap).ownBlock ≠ some b) w4 w5 :=
            ((Keep.of_below (((Below.refl w4.heap.size w4).alloc (Nat.le_refl _) (.cells #[.int .i64 ((L.length : Int) + 1), .string txt, .bool false, .slice none 0 0] 45)).drew)).mono (fun b hb => hb.1)).trans ((grown_keep hgrow).mono fun b (hb : b < w4.heap.size ∧ (Value.slice sp2 L.length cap).ownBlock ≠ some b) => ⟨by show b < (w4.alloc (.cells #[.int .i64 ((L.length : Int) + 1), .string txt, .bool false, .slice none 0 0] 45)).heap.size; simp; omega, hb.2⟩)
          have hc5 : VBlk 69 w5 c [.slice sp2 L.length cap, .int .u64 (dr : Nat), .map (some mb)] := Hc4.out.keep hk5 ⟨hc4, hcn⟩
          have g0 := hc5.cell 0 (by simp)
          have g1 := hc5.free 0
          simp only [List.getD_cons_zero] at g0
          have Hk5 := Hid2.mk hk5
          have Hown5 := Hid2.mk hown5
          have Hgrow := Hid2.mk hgrow
          have Hat := Hid2.mk hat
          refine hK _ _ (.inl rfl) ?_
          clear hK K ho5 hs5 hcn hk5 hc5 hown5 hgrow hat
          refine till_free (i := 12) rfl (by kernel_rfl) (by kernel_rfl) (by kernel_rfl) rfl (fun _ _ _ h => h) (.inl rfl) (by rfl) (fun _ => by first | (go_simp; done) | (go_simp; with_reducible rfl)) ?_  -- nilCheck (tmp 50)
          refine till_free (i := 13) rfl (by kernel_rfl) (by kernel_rfl) (by kernel_rfl) rfl (fun _ _ _ h => h) (.inl rfl) (by rfl) (fun _ => by first | (go_simp; done) | (go_simp; with_reducible rfl)) ?_  -- fieldAddr 69 (tmp 62) 0
          refine till_one (i := 14) (by kernel_rfl) rfl ?_; intro K hK  -- EFFECT Op.store 41 (Operand.tmp 63) (Operand.tmp 61)
          go_simp
          refine hK _ _ (.inl rfl) ?_
          refine till_done (by kernel_rfl) ?_ _
          clear hK K
          go_wp2_with fail
          go_ret
          have hnm2 : txt.size ≤ 40 := by
            have := Hnm.out
            unfold isNm at this
            simp at this
            exact this.2
          obtain ⟨x1, x2, x3, x4, x5⟩ := HX4.out
          obtain ⟨y1, y2, y3⟩ := cat_push Hc4.out hOc x1 x2 HT4.out HI4.out x3 x4 x5 Hk5.out (B := (w4.alloc (.cells #[.int .i64 ((L.length : Int) + 1), .string txt, .bool false, .slice none 0 0] 45)).heap.size) (by simp) Hown5.out (by omega) hnm2
          have hc0 : appC L 5 txt ((L.length : Int) + 1) = 0 := by
            unfold appC
            rw [if_pos rfl, if_neg (by omega), if_neg (by simp [Hnm.out]), if_neg (by simp [Hi.out])]
          have hl0 : appL L 5 txt ((L.length : Int) + 1) = L ++ [⟨txt, false, []⟩] := by
            unfold appL
            rw [if_pos hc0, if_pos rfl]
          have hw4 : w.heap.size ≤ w4.heap.size := by omega
          refine ⟨_, by rw [hc0]; rfl, by rw [hl0]; exact y1, ((Keep.of_below HB4.out).mono fun b hb => hb.1).trans (y2.mono fun b (hb : b < w.heap.size ∧ ¬ O b) => ⟨by omega, hb.2⟩), fun b hb => (y3 b hb).imp id fun h => by omega⟩
    · have hx : appC L 5 txt tbl = 3 := by unfold appC; rw [if_pos rfl, if_neg h64, if_pos (.inl htb)]
      have Hx := Hid2.mk hx
      have hg : (tbl == (L.length : Int) + 1) = false := beq_eq_false_iff_ne.2 htb
      have hg2 : (tbl != (L.length : Int) + 1) = true := by rw [bne_iff_ne]; exact htb
      clear hx htb
      go_wp2_with fail
      go_quiet (fail)
      go_wp2_with fail
      go_ret
      exact appPost_no Hx.out (by omega) H.out (belowN HB3.out _)

end Cat
end Go.Proofs.Ytdaljjicekheiaa
