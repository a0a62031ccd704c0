/- The catalog: Find, and what a nil Catalog answers. -/
import Derived.Test.YtdaljjicekheiaaCatC
namespace Go.Proofs.Ytdaljjicekheiaa
open Go.RowKit Go.Maps
namespace Cat

set_option maxHeartbeats 1000000 in
theorem table_nil (id : Int) (w : World) : Calls Try.prog 15 #[.pointer none, .int .i64 id] w (TbPost w (0, noTb, 7)) := by
  have hz := zeroTable
  have hbel : Below w.heap.size w (w.alloc (.cells #[.int .i64 0, .string ByteArray.empty, .bool false, .slice none 0 0] 45)) := (Below.refl _ w).alloc (Nat.le_refl _) _
  have hR : VBlk 45 (w.alloc (.cells #[.int .i64 0, .string ByteArray.empty, .bool false, .slice none 0 0] 45)) w.heap.size [.int .i64 0, .string ByteArray.empty, .bool false, .slice none 0 0] := VBlk.mk w [.int .i64 0, .string ByteArray.empty, .bool false, .slice none 0 0] _
  have HR := Hid2.mk hR
  have HB := Hid2.mk hbel
  clear hbel hR
  go_enter Try.func15, Try.ntmps15
  go_wp2_with (first | (refine wpList_build_to rfl 45 #[] rfl #[.int .i64 0, .string ByteArray.empty, .bool false, .slice none 0 0] builtTable ?_) | (refine wpList_store_row rfl 45 (.tmp 4) (.tmp 21) rfl w.heap.size #[.int .i64 0, .string ByteArray.empty, .bool false, .slice none 0 0] rfl rfl 45 #[.int .i64 0, .string ByteArray.empty, .bool false, .slice none 0 0] HR.out infoTable rfl (by simp [Value.oneCell']) ?_))
  refine bodyPost_ret (results_cell_tmp rfl _ _ w.heap.size 45 #[.int .i64 0, .string ByteArray.empty, .bool false, .slice none 0 0] (0, 0) _ _ rfl (setRow_heap _ _ _ _ _ _ HR.out) Try.underlying45 rfl infoTable rfl) rfl ⟨none, 0, rfl, OwnV.nil _ _ _ _, below_setRow HB.out (Nat.le_refl _) _⟩

/-- The place of the table of a name. -/
def findP (L : List Tb) (s : ByteArray) (k : Nat) : Bool := decide ((L.getD k noTb).name = s) && !(L.getD k noTb).dropped
def findI (L : List Tb) (s : ByteArray) : Option Nat := (List.range L.length).find? (findP L s)
/-- The answer of Find. -/
def findR (L : List Tb) (s : ByteArray) : Int × Tb × Int := match findI L s with | some k => (((k + 1 : Nat) : Int), L.getD k noTb, 0) | none => (0, noTb, 13)
theorem findR_at {L : List Tb} {s : ByteArray} {k : Nat} (hk : k < L.length) (h1 : ∀ j, j < k → findP L s j = false) (h2 : findP L s k = true) : findR L s = (((k + 1 : Nat) : Int), L.getD k noTb, 0) := by
  have : findI L s = some k := List.find?_range_eq_some.2 ⟨h2, List.mem_range.2 hk, fun j hj => by simp [h1 j hj]⟩
  unfold findR; rw [this]
theorem findR_no {L : List Tb} {s : ByteArray} (h1 : ∀ j, j < L.length → findP L s j = false) : findR L s = (0, noTb, 13) := by
  have : findI L s = none := List.find?_range_eq_none.2 fun j hj => by simp [h1 j hj]
  unfold findR; rw [this]

set_option maxHeartbeats 1000000 in
theorem find_nil (s : ByteArray) (w : World) : Calls Try.prog 12 #[.pointer none, .string s] w (TbPost w (0, noTb, 13)) := by
  have hz := zeroTable
  have hbel : Below w.heap.size w (w.alloc (.cells #[.int .i64 0, .string ByteArray.empty, .bool false, .slice none 0 0] 45)) := (Below.refl _ w).alloc (Nat.le_refl _) _
  have hR : VBlk 45 (w.alloc (.cells #[.int .i64 0, .string ByteArray.empty, .bool false, .slice none 0 0] 45)) w.heap.size [.int .i64 0, .string ByteArray.empty, .bool false, .slice none 0 0] := VBlk.mk w [.int .i64 0, .string ByteArray.empty, .bool false, .slice none 0 0] _
  have HR := Hid2.mk hR
  have HB := Hid2.mk hbel
  clear hbel hR
  go_enter Try.func12, Try.ntmps12
  go_wp2_with (first | (refine wpList_build_to rfl 45 #[] rfl #[.int .i64 0, .string ByteArray.empty, .bool false, .slice none 0 0] builtTable ?_) | (refine wpList_store_row rfl 45 (.tmp 4) (.tmp 32) rfl w.heap.size #[.int .i64 0, .string ByteArray.empty, .bool false, .slice none 0 0] rfl rfl 45 #[.int .i64 0, .string ByteArray.empty, .bool false, .slice none 0 0] HR.out infoTable rfl (by simp [Value.oneCell']) ?_))
  refine bodyPost_ret (results_cell_tmp rfl _ _ w.heap.size 45 #[.int .i64 0, .string ByteArray.empty, .bool false, .slice none 0 0] (0, 0) _ _ rfl (setRow_heap _ _ _ _ _ _ HR.out) Try.underlying45 rfl infoTable rfl) rfl ⟨none, 0, rfl, OwnV.nil _ _ _ _, below_setRow HB.out (Nat.le_refl _) _⟩

set_option maxHeartbeats 2000000 in
theorem find_any {w : World} {c n : Nat} {O : Nat → Prop} {L : List Tb} (h : IsCat w c O n L) (s : ByteArray) :
    Calls Try.prog 12 #[.pointer (some ⟨c, 0, none⟩), .string s] w (TbPost w (findR L s)) := by
  have hz := zeroTable
  have hlen := h.good.len
  have hbel : Below w.heap.size w (w.alloc (.cells #[.int .i64 0, .string ByteArray.empty, .bool false, .slice none 0 0] 45)) := (Below.refl _ w).alloc (Nat.le_refl _) _
  have hR : VBlk 45 (w.alloc (.cells #[.int .i64 0, .string ByteArray.empty, .bool false, .slice none 0 0] 45)) w.heap.size [.int .i64 0, .string ByteArray.empty, .bool false, .slice none 0 0] := VBlk.mk w [.int .i64 0, .string ByteArray.empty, .bool false, .slice none 0 0] _
  obtain ⟨w1, hw1⟩ : ∃ w1, w1 = w.alloc (.cells #[.int .i64 0, .string ByteArray.empty, .bool false, .slice none 0 0] 45) := ⟨_, rfl⟩
  have h0 := h.below hbel (Nat.le_refl _)
  have hlt : ∀ b, O b → b < w.heap.size := h.lt
  rw [← hw1] at h0 hbel hR
  obtain ⟨tv, dr, mb, hc, -, -, -, ⟨cells, hT, hI⟩, -, -, hG⟩ := h0
  obtain ⟨sp, cap, rfl, hcap, hcap2⟩ := hT.slice
  have c0 := hc.cell 0 (by simp)
  simp only [List.getD_cons_zero] at c0
  rw [hw1] at c0
  have HW := Hid2.mk hw1
  have HR := Hid2.mk hR
  have H0 := Hid2.mk (h.below hbel (Nat.le_refl _))
  have HT := Hid2.mk hT
  have HI := Hid2.mk hI
  have HG := Hid2.mk hG
  have HB := Hid2.mk hbel
  have HL := Hid2.mk hlt
  have hs1 : w.heap.size < w1.heap.size := hR.lt
  clear h hbel hR hc hT hI hG hw1 hlt
  go_enter Try.func12, Try.ntmps12
  go_wp2_with fail
  go_loopw [15] (fun i wr => ∃ k : Nat, k ≤ L.length ∧ i = .int .i64 (k : Nat) ∧ Below w1.heap.size w1 wr ∧ ∀ j, j < k → findP L s j = false) (fun i _ => L.length - (intOf i).toNat)
  case atStart => exact ⟨0, by omega, rfl, by rw [HW.out]; exact Below.refl _ _, fun j hj => by omega⟩
  case round =>
    obtain ⟨k, hk, rfl, hbr, hno⟩ := hrel
    have hcr := H0.out.below hbr (Nat.le_refl _)
    have hTr := HT.out.keep (Keep.of_below hbr) (fun g hg => HT.out.lt hg)
    have hIr : ∀ i, i < L.length → IsTab 62 wr O cells i (L.getD i noTb) := fun i hi => (HI.out i hi).of_block fun b hb _ => hbr.block b (H0.out.lt b hb)
    have hbw := HB.out.trans (hbr.mono HB.out.size)
    have hrr := HR.out.below hbr hs1
    have Hno := Hid2.mk hno
    clear hno
    by_cases hkl : k < L.length
    · have hkl2 : (k : Int) < L.length := by omega
      obtain ⟨t, ht⟩ : ∃ t, t = L.getD k noTb := ⟨_, rfl⟩
      have hIk := hIr k hkl
      rw [← ht] at hIk
      obtain ⟨g, cap', hsl, -, -, hg, -, x0, x1, x2, sp', cc, x3, hown⟩ := tab_cells hTr hkl hIk
      obtain ⟨rfl, rfl⟩ : sp = some ⟨g, 0, none⟩ ∧ cap = cap' := by simpa using hsl
      have Hcr := Hid2.mk hcr
      have Hown := Hid2.mk hown
      have Ht := Hid2.mk ht
      have Hbw := Hid2.mk hbw
      have Hrr := Hid2.mk hrr
      have Hbr := Hid2.mk hbr
      clear hcr hTr hIr hbw hrr hIk hown hsl ht hbr
      have hbn : ∀ cs, Below w1.heap.size w1 (wr.alloc (.cells cs 45)) := fun cs => Hbr.out.alloc Hbr.out.size _
      have Hbn := Hid2.mk hbn
      have hca : ∀ cs, IsCat (wr.alloc (.cells cs 45)) c O n L := fun cs => Hcr.out.below ((Below.refl _ _).alloc (Nat.le_refl _) _) (Nat.le_refl _)
      have Hca := Hid2.mk hca
      clear hbn hca
      by_cases hn : t.name = s
      · have hq : t.name.toList = s.toList := by rw [hn]
        have Hn := Hid2.mk hn
        have e1 : there L ((k : Int) + 1) = !t.dropped := by
          unfold there
          have e2 : ((k : Int) + 1 - 1).toNat = k := by omega
          rw [e2, ← Ht.out]
          simp; omega
        have E1 := Hid2.mk e1
        clear hn e1
        cases hd : t.dropped with
        | true =>
          have e2 : there L ((k : Int) + 1) = false := by rw [E1.out, hd]; rfl
          have E2 := Hid2.mk e2
          have Hno2 : Hid2 (∀ j, j < k + 1 → findP L s j = false) := Hid2.mk fun j hj => by
            by_cases e : j < k
            · exact Hno.out j e
            · have : j = k := by omega
              rw [this]; unfold findP; rw [← Ht.out, hd]; simp
          clear e2 hd
          go_wp2_with (refine (there_any (Hca.out _) _).mono ?_; rw [E2.out]; rintro e w' ⟨rfl, rfl⟩)
          go_roundw
          case rel => exact ⟨k + 1, by omega, by go_num, Hbn.out _, Hno2.out⟩
          case measure => simp [intOf]; omega
        | false =>
          have e2 : there L ((k : Int) + 1) = true := by rw [E1.out, hd]; rfl
          have E2 := Hid2.mk e2
          have hres : findR L s = (((k + 1 : Nat) : Int), t, 0) := by
            rw [findR_at hkl Hno.out (by unfold findP; rw [← Ht.out, hd, Hn.out]; simp), ← Ht.out]
          have Hres := Hid2.mk hres
          have hfs := (HG.out.each k hkl).2.1
          rw [← Ht.out] at hfs
          clear e2 hd hres
          go_wp2_with (refine (there_any (Hca.out _) _).mono ?_; rw [E2.out]; rintro e w' ⟨rfl, rfl⟩)
          have hb3 := Hbw.out.alloc Hbw.out.size (.cells #[.int .i64 ((k : Int) + 1), .string t.name, .bool t.dropped, .slice sp' t.fs.length cc] 45)
          have hr3 := Hrr.out.alloc (.cells #[.int .i64 ((k : Int) + 1), .string t.name, .bool t.dropped, .slice sp' t.fs.length cc] 45)
          have ho3 := Hown.out.alloc (.cells #[.int .i64 ((k : Int) + 1), .string t.name, .bool t.dropped, .slice sp' t.fs.length cc] 45)
          generalize World.alloc wr _ = w3 at hb3 hr3 ho3 ⊢
          refine (own_any _ _ _ _ ho3.slV (by omega)).mono ?_
          rintro e w2 ⟨sp2, c2, rfl, hown2, hb2⟩
          have HR2 := Hid2.mk (hr3.below hb2 hr3.lt)
          have HB2 := Hid2.mk (hb3.trans (hb2.mono hb3.size))
          have HO2 := Hid2.mk hown2
          have hs1 : w.heap.size < w3.heap.size := hr3.lt
          clear hb2 hown2 hb3 hr3 ho3 x0 x1 x2 x3 c0 hg hq
          go_wp2_with (refine wpList_store_row rfl 45 (.tmp 4) (.tmp 30) rfl w.heap.size #[.int .i64 (k + 1 : Nat), .string t.name, .bool t.dropped, .slice sp2 t.fs.length c2] rfl rfl 45 #[.int .i64 0, .string ByteArray.empty, .bool false, .slice none 0 0] HR2.out infoTable rfl (by simp [Value.oneCell']) ?_)
          refine bodyPost_ret (results_cell_tmp rfl _ _ w.heap.size 45 #[.int .i64 (k + 1 : Nat), .string t.name, .bool t.dropped, .slice sp2 t.fs.length c2] (0, 0) _ _ rfl (setRow_heap _ _ _ _ _ _ HR2.out) Try.underlying45 rfl infoTable rfl) rfl ?_
          rw [Hres.out]
          refine ⟨sp2, c2, rfl, ?_, below_setRow HB2.out (Nat.le_refl _) _⟩
          refine (HO2.out.of_block fun g hg => ?_).mono (fun b (hb : _ ≤ b) => by omega)
          have h2 : w3.heap.size ≤ g := HO2.out.own hg
          exact Go.setRow_other _ _ _ _ (by omega)
      · have hq := str_ne hn
        have Hno2 : Hid2 (∀ j, j < k + 1 → findP L s j = false) := Hid2.mk fun j hj => by
          by_cases e : j < k
          · exact Hno.out j e
          · have : j = k := by omega
            rw [this]; unfold findP; rw [← Ht.out]; simp [hn]
        clear hn
        go_wp2_with fail
        go_roundw
        case rel => exact ⟨k + 1, by omega, by go_num, Hbn.out _, Hno2.out⟩
        case measure => simp [intOf]; omega
    · have hd2 : decide ((k : Int) < L.length) = false := decide_eq_false (by omega)
      have hres : findR L s = (0, noTb, 13) := findR_no fun j hj => Hno.out j (by omega)
      have Hres := Hid2.mk hres
      have Hrr := Hid2.mk hrr
      have Hbw := Hid2.mk hbw
      clear hres hrr hbw hcr hTr hIr hbr c0
      go_wp2_with (first | (refine wpList_build_to rfl 45 #[] rfl #[.int .i64 0, .string ByteArray.empty, .bool false, .slice none 0 0] builtTable ?_) | (refine wpList_store_row rfl 45 (.tmp 4) (.tmp 32) rfl w.heap.size #[.int .i64 0, .string ByteArray.empty, .bool false, .slice none 0 0] rfl rfl 45 #[.int .i64 0, .string ByteArray.empty, .bool false, .slice none 0 0] Hrr.out infoTable rfl (by simp [Value.oneCell']) ?_))
      refine bodyPost_ret (results_cell_tmp rfl _ _ w.heap.size 45 #[.int .i64 0, .string ByteArray.empty, .bool false, .slice none 0 0] (0, 0) _ _ rfl (setRow_heap _ _ _ _ _ _ Hrr.out) Try.underlying45 rfl infoTable rfl) rfl ?_
      rw [Hres.out]
      exact ⟨none, 0, rfl, OwnV.nil _ _ _ _, below_setRow Hbw.out (Nat.le_refl _) _⟩

end Cat
end Go.Proofs.Ytdaljjicekheiaa
