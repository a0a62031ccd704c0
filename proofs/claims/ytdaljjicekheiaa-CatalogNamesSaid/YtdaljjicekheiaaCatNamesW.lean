/- The law CatalogNames, walked. -/
import Derived.Test.YtdaljjicekheiaaCatHeavy
import Derived.Test.YtdaljjicekheiaaCatM
import Derived.Test.YtdaljjicekheiaaCatBoundsW
namespace Go.Proofs.Ytdaljjicekheiaa
open Go.RowKit Go.Maps
namespace Cat

/-- No two tables that are not dropped have one name. -/
def Uniq (L : List Tb) : Prop := ∀ i j, i < j → j < L.length → (L.getD i noTb).dropped = false → (L.getD j noTb).dropped = false → (L.getD i noTb).name ≠ (L.getD j noTb).name
theorem uniq_nil : Uniq [] := fun i j _ h => by simp at h
theorem getD_set_same {α : Type} (l : List α) (i : Nat) (x d : α) (h : i < l.length) : (l.set i x).getD i d = x := by simp [h]
theorem getD_set_other {α : Type} (l : List α) (i j : Nat) (x d : α) (h : i ≠ j) : (l.set i x).getD j d = l.getD j d := by simp [h]
theorem uniq_set {L : List Tb} (h : Uniq L) (k : Nat) (t : Tb) (hn : t.name = (L.getD k noTb).name) (hd : t.dropped = false → (L.getD k noTb).dropped = false) : Uniq (L.set k t) := by
  have key : ∀ i, i < L.length → ((L.set k t).getD i noTb).name = (L.getD i noTb).name ∧ (((L.set k t).getD i noTb).dropped = false → (L.getD i noTb).dropped = false) := by
    intro i hi
    by_cases e : k = i
    · subst e; rw [getD_set_same _ _ _ _ hi]; exact ⟨hn, hd⟩
    · rw [getD_set_other _ _ _ _ _ e]; exact ⟨rfl, id⟩
  intro i j hij hj h1 h2
  simp only [List.length_set] at hj
  rw [(key i (by omega)).1, (key j hj).1]
  exact h i j hij hj ((key i (by omega)).2 h1) ((key j hj).2 h2)
theorem find_none {L : List Tb} {s : ByteArray} (h : ¬ (findI L s).isSome = true) (i : Nat) (hi : i < L.length) (hd : (L.getD i noTb).dropped = false) : (L.getD i noTb).name ≠ s := by
  intro e
  have h1 : findI L s = none := by simpa using h
  have h2 := List.find?_range_eq_none.1 h1 i hi
  unfold findP at h2
  rw [hd, e] at h2
  simp at h2
theorem uniq_app {L : List Tb} (h : Uniq L) (kind : Int) (txt : ByteArray) (tbl : Int) : Uniq (appL L kind txt tbl) := by
  unfold appL
  by_cases h0 : appC L kind txt tbl = 0
  · rw [if_pos h0]
    by_cases h5 : kind = 5
    · rw [if_pos h5]
      have hf : ¬ (findI L txt).isSome = true := by
        intro hf
        unfold appC at h0
        rw [if_pos h5] at h0
        split at h0
        · omega
        · split at h0
          · omega
          · omega
      intro i j hij hj h1 h2
      by_cases hjl : j < L.length
      · rw [getD_left _ _ _ _ hjl] at h2 ⊢
        rw [getD_left _ _ _ _ (by omega)] at h1 ⊢
        exact h i j hij hjl h1 h2
      · have e : j = L.length := by simp at hj; omega
        subst e
        have e1 : (L ++ [(⟨txt, false, []⟩ : Tb)]).getD L.length noTb = ⟨txt, false, []⟩ := getD_right L _ 0 _
        rw [e1]
        rw [getD_left _ _ _ _ hij] at h1 ⊢
        exact find_none hf i hij h1
    · rw [if_neg h5]
      by_cases h6 : kind = 6
      · rw [if_pos h6]
        exact uniq_set h _ _ rfl (fun h => by cases h)
      · rw [if_neg h6]
        by_cases h7 : kind = 7
        · rw [if_pos h7]
          exact uniq_set h _ _ rfl id
        · rw [if_neg h7]; exact h
  · rw [if_neg h0]; exact h
theorem find_uniq {L : List Tb} (h : Uniq L) {i : Nat} (hi : i < L.length) (hd : (L.getD i noTb).dropped = false) : findR L (L.getD i noTb).name = (((i + 1 : Nat) : Int), L.getD i noTb, 0) := by
  refine findR_at hi (fun j hj => ?_) ?_
  · unfold findP
    cases hdj : (L.getD j noTb).dropped with
    | true => simp
    | false =>
      rw [decide_eq_false (h j i hj hi hdj hd)]; rfl
  · unfold findP; rw [hd]; simp

set_option maxRecDepth 100000 in
set_option maxHeartbeats 8000000 in
theorem names_any (v : Value) (l : List En) (w : World) (h : Ents w v l) : Calls Try.prog 4 #[v] w fun e w' => e = .returned (.bool true) ∧ Below w.heap.size w w' := by
  have H := Hid2.mk h
  obtain ⟨sp, cap, rfl, hcap, hcap2, -, -⟩ := h
  go_enter Try.func4, Try.ntmps4
  go_wp2_with fail
  refine (heavy_any _ H.out).mono ?_
  rintro e w' ⟨b, rfl, rfl⟩
  cases b with
  | true =>
    go_wp2_with fail
    refine (known_any _).mono ?_
    rintro e w9 ⟨rfl, hb9⟩
    go_wp2_with fail
    go_ret
    exact ⟨rfl, hb9⟩
  | false =>
    go_wp2_with fail
    refine (new_any _).mono ?_
    rintro e w1 ⟨O1, rfl, h1, hb1, ho1⟩
    have H1 : Hid2 (BRel w' (w'.heap.size + 1) [] 0 w1) := Hid2.mk ⟨O1, h1, hb1, ho1, hb1.size⟩
    generalize w'.heap.size + 1 = c at H1 ⊢
    clear h1 hb1 ho1
    go_wp2_with fail
    go_loopw [4] (fun i wr => ∃ (k : Nat) (L : List Tb), k ≤ l.length ∧ i = .int .i64 (k : Nat) ∧ Uniq L ∧ BRel w' c L k wr ∧ (k : Int) ≤ 150) (fun i _ => l.length - (intOf i).toNat)
    case atStart => exact ⟨0, [], by omega, rfl, uniq_nil, H1.out, by omega⟩
    case round =>
      obtain ⟨k, L, hk, rfl, hu, hr, hk150⟩ := hrel
      have Hr := Hid2.mk hr
      have Hu := Hid2.mk hu
      have Hk := Hid2.mk hk150
      clear hr hu hk150
      by_cases hkl : k < l.length ∧ k < 150
      · have g1 : (k : Int) < l.length := by omega
        have g2 : (k : Int) < 150 := by omega
        replace hkl : k < l.length := hkl.1
        have Hen : Hid2 (Ents wr (.slice sp l.length cap) l) := Hid2.mk (by obtain ⟨O, h1, h2, -⟩ := Hr.out; exact H.out.below h2)
        obtain ⟨b, o, cap', hv, -, -, hb, hok, hrow, x0, x1, x2⟩ := ents_at Hen.out k hkl
        obtain ⟨rfl, rfl⟩ : sp = some ⟨b, o, none⟩ ∧ cap = cap' := by simpa using hv
        generalize l.getD k noEn = en at hok hrow
        have hE : Ent en.cs en.kind en.txt en.tbl := hok
        have Hrow := Hid2.mk hrow
        have HE := Hid2.mk hE
        have Hsz := Hid2.mk (show (Try.prog.info? 37).map (·.size) = some en.cs.size by rw [hE.hsz]; exact entInfo)
        clear hv hrow hE hok x0 x1 x2
        go_wp2_with (refine wpList_load_arr rfl 37 (.tmp 28) rfl b (o + k * 46) rfl en.cs _ Hrow.out Try.underlying37 rfl Hsz.out ?_)
        refine (Hr.out.call HE.out (by have := Hk.out; omega)).mono ?_
        rintro e w2 ⟨rfl, h2⟩
        have H2 := Hid2.mk h2
        have Hu2 := Hid2.mk (uniq_app Hu.out en.kind en.txt en.tbl)
        clear h2 Hr Hu Hrow HE Hsz
        go_wp2_with fail
        go_roundw
        case rel => exact ⟨k + 1, _, by omega, by go_num, Hu2.out, H2.out, by have := Hk.out; omega⟩
        case measure => simp [intOf]; omega
      · have hd : ((l.length : Int) ≤ k) ∨ ((k : Int) < l.length ∧ (150 : Int) ≤ k) := by
          by_cases h1 : k < l.length
          · exact .inr ⟨by omega, by omega⟩
          · exact .inl (by omega)
        clear hkl
        rcases hd with g1 | ⟨g1, g2⟩ <;>
        ( go_wp2_with fail
          obtain ⟨O, hc, hb, ho, hs⟩ := Hr.out
          refine (all_any hc).mono ?_
          rintro e w2 ⟨sp2, cap2, rfl, ⟨cells, hT, hI⟩, hb2⟩
          have hlen := hc.good.len
          have Hg := Hid2.mk hc.good
          have Hc := Hid2.mk (hc.below hb2 (Nat.le_refl _))
          have Hb := Hid2.mk (hb.trans (hb2.mono hs))
          have HT := Hid2.mk hT
          have HI := Hid2.mk hI
          have hs2 : w'.heap.size ≤ w2.heap.size := Nat.le_trans hs hb2.size
          clear hc hb ho hb2 hT hI g1 H H1 Hr
          clear hs
          go_wp2_with fail
          go_loopw [6] (fun i wr => ∃ j : Nat, j ≤ L.length ∧ i = .int .i64 (j : Nat) ∧ Below w2.heap.size w2 wr) (fun i _ => L.length - (intOf i).toNat)
          case atStart => exact ⟨0, by omega, rfl, Below.refl _ _⟩
          case round =>
            obtain ⟨j, hj, rfl, hbr⟩ := hrel
            have hcr := Hc.out.below hbr (Nat.le_refl _)
            have hbw := Hb.out.trans (hbr.mono hs2)
            by_cases hjl : j < L.length
            · have g3 : (j : Int) < L.length := by omega
              have hTr := HT.out.keep (Keep.of_below hbr) (fun g hg => HT.out.lt hg)
              have hIr := (HI.out j hjl).of_block (w' := wr) fun b _ ⟨cur, hcur⟩ => hbr.block b (lt_of_block hcur)
              have hfu := find_uniq Hu.out hjl
              have hgo := (Hg.out.each j hjl).2.2.2
              generalize L.getD j noTb = t at hIr hfu hgo
              obtain ⟨g, cap3, hsl, -, -, hg, -, x0, x1, x2, sp3, c3, x3, hown⟩ := tab_cells hTr hjl hIr
              obtain ⟨rfl, rfl⟩ : sp2 = some ⟨g, 0, none⟩ ∧ cap2 = cap3 := by simpa using hsl
              have Hcr := Hid2.mk hcr
              have Hbw := Hid2.mk hbw
              have Hbr := Hid2.mk hbr
              have hsr : w'.heap.size ≤ wr.heap.size := Nat.le_trans hs2 hbr.size
              clear hsl hown hcr hTr hIr hbw hbr
              cases hd : t.dropped with
              | true =>
                have hfs : t.fs.length = 0 := by rw [hgo hd]; rfl
                rw [hd] at x2
                rw [hfs] at x3
                obtain ⟨r, hr⟩ : ∃ r, r = findR L t.name := ⟨_, rfl⟩
                clear hgo hfu hd hfs
                go_wp2_with fail
                refine (find_any Hcr.out _).mono ?_
                rw [← hr]
                rintro e w3 ⟨sp5, c5, rfl, -, hb5⟩
                have y2 : w3.cell? ⟨g, j * 4 + 2, none⟩ = some (.bool true) := by rw [hb5.cell (p := ⟨g, j * 4 + 2, none⟩) hg]; exact x2
                have hg3 : g < w3.heap.size := Nat.lt_of_lt_of_le hg hb5.size
                clear x0 x1 x2 x3 hr
                have y2' : (w3.alloc (.cells #[.int .i64 r.1, .string r.2.1.name, .bool r.2.1.dropped, .slice sp5 r.2.1.fs.length c5] 45)).cell? ⟨g, j * 4 + 2, none⟩ = some (.bool true) := by
                  rw [← y2]; exact World.cell?_of_block (w := w3) (Below.heap_alloc _ _ _ hg3)
                have Hb3 := Hid2.mk (hb5.alloc hb5.size (.cells #[.int .i64 r.1, .string r.2.1.name, .bool r.2.1.dropped, .slice sp5 r.2.1.fs.length c5] 45))
                clear hb5 y2
                go_wp2_with fail
                generalize World.alloc w3 _ = w4 at y2' Hb3 ⊢
                go_quiet (fail)
                go_wp2_with fail
                go_roundw
                case rel => exact ⟨j + 1, by omega, by go_num, belowN (Hbr.out.trans (Hb3.out.mono Hbr.out.size)) _⟩
                case measure => simp [intOf]; omega
              | false =>
                rw [hd] at x2
                have Hfu := Hid2.mk (hfu hd)
                clear hgo hd hfu
                go_wp2_with fail
                refine (find_any Hcr.out _).mono ?_
                rw [Hfu.out]
                rintro e w3 ⟨sp5, c5, rfl, -, hb5⟩
                have y0 : w3.cell? ⟨g, j * 4, none⟩ = some (.int .i64 (j + 1 : Nat)) := by rw [hb5.cell (p := ⟨g, j * 4, none⟩) hg]; exact x0
                have y2 : w3.cell? ⟨g, j * 4 + 2, none⟩ = some (.bool false) := by rw [hb5.cell (p := ⟨g, j * 4 + 2, none⟩) hg]; exact x2
                have hg3 : g < w3.heap.size := Nat.lt_of_lt_of_le hg hb5.size
                clear x0 x1 x2 x3 Hfu
                have y0' : (w3.alloc (.cells #[.int .i64 ((j : Int) + 1), .string t.name, .bool t.dropped, .slice sp5 t.fs.length c5] 45)).cell? ⟨g, j * 4, none⟩ = some (.int .i64 ((j : Int) + 1)) := by
                  rw [show (j : Int) + 1 = (j + 1 : Nat) from by omega, ← y0]; exact World.cell?_of_block (w := w3) (Below.heap_alloc _ _ _ hg3)
                have y2' : (w3.alloc (.cells #[.int .i64 ((j : Int) + 1), .string t.name, .bool t.dropped, .slice sp5 t.fs.length c5] 45)).cell? ⟨g, j * 4 + 2, none⟩ = some (.bool false) := by
                  rw [← y2]; exact World.cell?_of_block (w := w3) (Below.heap_alloc _ _ _ hg3)
                have z0 := (VBlk.mk w3 [.int .i64 ((j : Int) + 1), .string t.name, .bool t.dropped, .slice sp5 t.fs.length c5] 45).cell 0 (by simp)
                simp only [List.getD_cons_zero] at z0
                have Hb3 := Hid2.mk (hb5.alloc hb5.size (.cells #[.int .i64 ((j : Int) + 1), .string t.name, .bool t.dropped, .slice sp5 t.fs.length c5] 45))
                clear hb5 y2 y0
                go_wp2_with fail
                generalize World.alloc w3 _ = w4 at y0' y2' z0 Hb3 ⊢
                generalize w3.heap.size = g4 at z0 ⊢
                go_quiet (fail)
                go_wp2_with fail
                go_roundw
                case rel => exact ⟨j + 1, by omega, by go_num, belowN (Hbr.out.trans (Hb3.out.mono Hbr.out.size)) _⟩
                case measure => simp [intOf]; omega
            · have g3 : (L.length : Int) ≤ j := by omega
              have Hbw := Hid2.mk hbw
              have hsr : w'.heap.size ≤ wr.heap.size := Nat.le_trans hs2 hbr.size
              clear hcr hbr hbw
              go_wp2_with fail
              refine (known_any _).mono ?_
              rintro e w9 ⟨rfl, hb9⟩
              have Hb9 := Hid2.mk hb9
              clear hb9
              go_wp2_with fail
              go_ret
              exact ⟨rfl, Hbw.out.trans (Hb9.out.mono hsr)⟩ )

end Cat
end Go.Proofs.Ytdaljjicekheiaa
