/- The catalog: Table, Find, All. -/
import Derived.Test.YtdaljjicekheiaaCatB
namespace Go.Proofs.Ytdaljjicekheiaa
open Go.RowKit Go.Maps
namespace Cat

theorem IsTab.of_block {eF : TypeId} {w w' : World} {O : Nat → Prop} {cells : List Value} {i : Nat} {t : Tb} (h : IsTab eF w O cells i t) (hb : ∀ b, O b → (∃ cur, w.heap[b]? = some (.cells cur eF (0, 0))) → w'.heap[b]? = w.heap[b]?) : IsTab eF w' O cells i t :=
  ⟨h.1, h.2.1, h.2.2.1, h.2.2.2.of_block fun g hg => hb g (h.2.2.2.own hg) (h.2.2.2.tag hg)⟩
theorem Tabs.keep {eT eF : TypeId} {w w' : World} {O : Nat → Prop} {tv : Value} {L : List Tb} (h : Tabs eT eF w O tv L) {K : Nat → Prop} (hk : Keep K w w') (hK : ∀ b, O b → K b) : Tabs eT eF w' O tv L := by
  obtain ⟨cells, h1, h2⟩ := h
  exact ⟨cells, h1.keep hk (fun g hg => hK g (h1.own hg)), fun i hi => (h2 i hi).of_block fun b hb _ => hk.block b (hK b hb)⟩
theorem IsCat.keep {w w' : World} {c n : Nat} {O : Nat → Prop} {L : List Tb} (h : IsCat w c O n L) {K : Nat → Prop} (hk : Keep K w w') (hK : ∀ b, O b → K b) : IsCat w' c O n L := by
  obtain ⟨tv, dr, mb, h1, h2, h3, h4, h5, h6, h7, h8⟩ := h
  exact ⟨tv, dr, mb, h1.keep hk (hK c h2), h2, h3, fun b hb => Nat.lt_of_lt_of_le (h4 b hb) hk.size, h5.keep hk hK, h6, h7.keep hk (hK mb h3), h8⟩
theorem IsCat.lt {w : World} {c n : Nat} {O : Nat → Prop} {L : List Tb} (h : IsCat w c O n L) : ∀ b, O b → b < w.heap.size := by
  obtain ⟨tv, dr, mb, h1, h2, h3, h4, -⟩ := h; exact h4
theorem IsCat.good {w : World} {c n : Nat} {O : Nat → Prop} {L : List Tb} (h : IsCat w c O n L) : Good L := by
  obtain ⟨tv, dr, mb, h1, h2, h3, h4, h5, h6, h7, h8⟩ := h; exact h8
theorem IsCat.own {w : World} {c n : Nat} {O : Nat → Prop} {L : List Tb} (h : IsCat w c O n L) : O c := by
  obtain ⟨tv, dr, mb, h1, h2, -⟩ := h; exact h2
theorem IsCat.below {w w' : World} {c n : Nat} {O : Nat → Prop} {L : List Tb} (h : IsCat w c O n L) {B : Nat} (hk : Below B w w') (hB : w.heap.size ≤ B) : IsCat w' c O n L :=
  h.keep (Keep.of_below hk) (fun b hb => Nat.lt_of_lt_of_le (h.lt b hb) hB)

/-- What an answer with a table says: its number, itself, a code. -/
def TbPost (w : World) (r : Int × Tb × Int) (e : Ending) (w' : World) : Prop :=
  ∃ sp c, e = .returned (.tuple #[.agg #[.int .i64 r.1, .string r.2.1.name, .bool r.2.1.dropped, .slice sp r.2.1.fs.length c], .int .i64 r.2.2]) ∧
    OwnV 62 1 w' (fun b => w.heap.size ≤ b) (.slice sp r.2.1.fs.length c) r.2.1.fs.length (r.2.1.fs.map Value.string) ∧ Below w.heap.size w w'
/-- The answer of Table. -/
def tabR (L : List Tb) (id : Int) : Int × Tb × Int := if 1 ≤ id ∧ id ≤ L.length then (id, L.getD (id - 1).toNat noTb, 0) else (0, noTb, 7)

theorem builtTable : Try.prog.built 45 [] = some #[.int .i64 0, .string ByteArray.empty, .bool false, .slice none 0 0] := by kernel_rfl

/-- The cells of a table in its slice. -/
theorem tab_cells {eT eF : TypeId} {w : World} {O : Nat → Prop} {tv : Value} {n k : Nat} {cells : List Value} {t : Tb} (h : OwnV eT 4 w O tv n cells) (hk : k < n) (hI : IsTab eF w O cells k t) :
    ∃ g cap, tv = .slice (some ⟨g, 0, none⟩) n cap ∧ n ≤ cap ∧ cap ≤ 9223372036854775807 ∧ g < w.heap.size ∧ O g ∧ w.cell? ⟨g, k * 4, none⟩ = some (.int .i64 (k + 1 : Nat)) ∧ w.cell? ⟨g, k * 4 + 1, none⟩ = some (.string t.name) ∧ w.cell? ⟨g, k * 4 + 2, none⟩ = some (.bool t.dropped) ∧
      ∃ sp c, w.cell? ⟨g, k * 4 + 3, none⟩ = some (.slice sp t.fs.length c) ∧ OwnV eF 1 w O (.slice sp t.fs.length c) t.fs.length (t.fs.map Value.string) := by
  obtain ⟨i0, i1, i2, i3⟩ := hI
  have hl := h.len
  rcases h.form with ⟨-, rfl, -⟩ | ⟨g, cap, cur, rfl, hO, hlt, hg, h4, h5, h6, h7⟩
  · omega
  · have hat : ∀ j, j < 4 → w.cell? ⟨g, k * 4 + j, none⟩ = some (cells.getD (k * 4 + j) undef) := by
      intro j hj
      rw [World.ownsRow.cellAt h.1 (k * 4 + j) (by omega)]
      have : k * 4 + j < cells.length := by omega
      simp [this]
    obtain ⟨sp, c, e3, -, -⟩ := i3.slice
    refine ⟨g, cap, rfl, h4, by unfold maxLen at h5; exact h5, hlt, hO, ?_, ?_, ?_, sp, c, ?_, ?_⟩
    · have := hat 0 (by omega); rw [Nat.add_zero] at this; rw [this, i0]
    · rw [hat 1 (by omega), i1]
    · rw [hat 2 (by omega), i2]
    · rw [hat 3 (by omega), e3]
    · rw [← e3]; exact i3

set_option maxHeartbeats 1000000 in
theorem table_any {w : World} {c n : Nat} {O : Nat → Prop} {L : List Tb} (h : IsCat w c O n L) (id : Int) :
    Calls Try.prog 15 #[.pointer (some ⟨c, 0, none⟩), .int .i64 id] w (TbPost w (tabR L id)) := by
  have hz := zeroTable
  have hlen := h.good.len
  have hbel : Below w.heap.size w (w.alloc (.cells #[.int .i64 0, .string ByteArray.empty, .bool false, .slice none 0 0] 45)) := (Below.refl _ w).alloc (Nat.le_refl _) _
  have hR : VBlk 45 (w.alloc (.cells #[.int .i64 0, .string ByteArray.empty, .bool false, .slice none 0 0] 45)) w.heap.size [.int .i64 0, .string ByteArray.empty, .bool false, .slice none 0 0] := VBlk.mk w [.int .i64 0, .string ByteArray.empty, .bool false, .slice none 0 0] _
  have h0 := h.below hbel (Nat.le_refl _)
  have HR := Hid2.mk hR
  have H0 := Hid2.mk h0
  have HB := Hid2.mk hbel
  clear h h0 hbel hR
  by_cases h1 : id < 1
  · have r1 : tabR L id = (0, noTb, 7) := by unfold tabR; rw [if_neg (by omega)]
    rw [r1]
    clear H0 r1
    go_enter Try.func15, Try.ntmps15
    go_wp2_with (first | (refine wpList_build_to rfl 45 #[] rfl #[.int .i64 0, .string ByteArray.empty, .bool false, .slice none 0 0] builtTable ?_) | (refine wpList_store_row rfl 45 (.tmp 4) (.tmp 21) rfl w.heap.size #[.int .i64 0, .string ByteArray.empty, .bool false, .slice none 0 0] rfl rfl 45 #[.int .i64 0, .string ByteArray.empty, .bool false, .slice none 0 0] HR.out infoTable rfl (by simp [Value.oneCell']) ?_))
    refine bodyPost_ret (results_cell_tmp rfl _ _ w.heap.size 45 #[.int .i64 0, .string ByteArray.empty, .bool false, .slice none 0 0] (0, 0) _ _ rfl (setRow_heap _ _ _ _ _ _ HR.out) Try.underlying45 rfl infoTable rfl) rfl ⟨none, 0, rfl, OwnV.nil _ _ _ _, below_setRow HB.out (Nat.le_refl _) _⟩
  · by_cases h2 : id ≤ L.length
    · obtain ⟨k, rfl⟩ : ∃ k : Nat, id = (k + 1 : Nat) := ⟨(id - 1).toNat, by omega⟩
      have hk : k < L.length := by omega
      have hk2 : ((k : Int) + 1) ≤ L.length := by omega
      have h3 : (1 : Int) ≤ (k + 1 : Nat) := by omega
      have r1 : tabR L (k + 1 : Nat) = (((k + 1 : Nat) : Int), L.getD k noTb, 0) := by
        unfold tabR
        have e1 : (((k + 1 : Nat) : Int) - 1).toNat = k := by omega
        rw [if_pos (by omega), e1]
      rw [r1]
      obtain ⟨t, ht⟩ : ∃ t, t = L.getD k noTb := ⟨_, rfl⟩
      obtain ⟨tv, dr, mb, hc, -, -, -, ⟨cells, hT, hI⟩, -, -, hG⟩ := H0.out
      have hIk := hI k hk
      rw [← ht] at hIk ⊢
      obtain ⟨g, cap, rfl, hcap, hcap2, hg, -, x0, x1, x2, sp, cc, x3, hown⟩ := tab_cells hT hk hIk
      have hfs := (hG.each k hk).2.1
      rw [← ht] at hfs
      have c0 := hc.cell 0 (by simp)
      simp only [List.getD_cons_zero] at c0
      have HO := Hid2.mk hown
      clear hc hT hI hIk hown H0 r1 ht h1 hG
      go_enter Try.func15, Try.ntmps15
      go_wp2_with fail
      generalize World.alloc _ _ = w1 at HR HO HB ⊢
      refine (own_any _ _ _ _ HO.out.slV (by omega)).mono ?_
      rintro e w2 ⟨sp2, c2, rfl, hown2, hb2⟩
      have HR2 := Hid2.mk (HR.out.below hb2 HR.out.lt)
      have HB2 := Hid2.mk (HB.out.trans (hb2.mono HB.out.size))
      have HO2 := Hid2.mk hown2
      have hs1 : w.heap.size < w1.heap.size := HR.out.lt
      clear hb2 hown2 HR HO HB x0 x1 x2 x3 c0 hg
      go_wp2_with (refine wpList_store_row rfl 45 (.tmp 4) (.tmp 30) rfl w.heap.size #[.int .i64 (k + 1 : Nat), .string t.name, .bool t.dropped, .slice sp2 t.fs.length c2] rfl rfl 45 #[.int .i64 0, .string ByteArray.empty, .bool false, .slice none 0 0] HR2.out infoTable rfl (by simp [Value.oneCell']) ?_)
      refine bodyPost_ret (results_cell_tmp rfl _ _ w.heap.size 45 #[.int .i64 (k + 1 : Nat), .string t.name, .bool t.dropped, .slice sp2 t.fs.length c2] (0, 0) _ _ rfl (setRow_heap _ _ _ _ _ _ HR2.out) Try.underlying45 rfl infoTable rfl) rfl ⟨sp2, c2, rfl, ?_, below_setRow HB2.out (Nat.le_refl _) _⟩
      refine (HO2.out.of_block fun g hg => ?_).mono (fun b (hb : _ ≤ b) => by omega)
      have h2 : w1.heap.size ≤ g := HO2.out.own hg
      exact Go.setRow_other _ _ _ _ (by omega)
    · have r1 : tabR L id = (0, noTb, 7) := by unfold tabR; rw [if_neg (by omega)]
      rw [r1]
      obtain ⟨tv, dr, mb, hc, -, -, -, ⟨cells, hT, hI⟩, -, -, hG⟩ := H0.out
      obtain ⟨sp, cap, rfl, hcap, hcap2⟩ := hT.slice
      have c0 := hc.cell 0 (by simp)
      simp only [List.getD_cons_zero] at c0
      have h3 : (1 : Int) ≤ id := by omega
      have h4 : (L.length : Int) < id := by omega
      clear hc hT hI H0 r1 hG
      go_enter Try.func15, Try.ntmps15
      go_wp2_with (first | (refine wpList_build_to rfl 45 #[] rfl #[.int .i64 0, .string ByteArray.empty, .bool false, .slice none 0 0] builtTable ?_) | (refine wpList_store_row rfl 45 (.tmp 4) (.tmp 21) rfl w.heap.size #[.int .i64 0, .string ByteArray.empty, .bool false, .slice none 0 0] rfl rfl 45 #[.int .i64 0, .string ByteArray.empty, .bool false, .slice none 0 0] HR.out infoTable rfl (by simp [Value.oneCell']) ?_))
      refine bodyPost_ret (results_cell_tmp rfl _ _ w.heap.size 45 #[.int .i64 0, .string ByteArray.empty, .bool false, .slice none 0 0] (0, 0) _ _ rfl (setRow_heap _ _ _ _ _ _ HR.out) Try.underlying45 rfl infoTable rfl) rfl ⟨none, 0, rfl, OwnV.nil _ _ _ _, below_setRow HB.out (Nat.le_refl _) _⟩

end Cat
end Go.Proofs.Ytdaljjicekheiaa
