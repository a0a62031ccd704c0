/- The catalog: All. -/
import Derived.Test.YtdaljjicekheiaaCatE
namespace Go.Proofs.Ytdaljjicekheiaa
open Go.RowKit Go.Maps
namespace Cat

theorem IsTab.mono {eF : TypeId} {w : World} {O O' : Nat → Prop} {cells : List Value} {i : Nat} {t : Tb} (h : IsTab eF w O cells i t) (hO : ∀ b, O b → O' b) : IsTab eF w O' cells i t :=
  ⟨h.1, h.2.1, h.2.2.1, h.2.2.2.mono hO⟩
theorem IsTab.left {eF : TypeId} {w : World} {O : Nat → Prop} {cells r : List Value} {i : Nat} {t : Tb} (h : IsTab eF w O cells i t) (hi : i * 4 + 4 ≤ cells.length) : IsTab eF w O (cells ++ r) i t := by
  obtain ⟨i0, i1, i2, i3⟩ := h
  refine ⟨?_, ?_, ?_, ?_⟩
  · rw [getD_left _ _ _ _ (by omega)]; exact i0
  · rw [getD_left _ _ _ _ (by omega)]; exact i1
  · rw [getD_left _ _ _ _ (by omega)]; exact i2
  · rw [getD_left _ _ _ _ (by omega)]; exact i3
theorem IsTab.last {eF : TypeId} {w : World} {O : Nat → Prop} {cells : List Value} {k : Nat} {t : Tb} {v : Value} (hl : cells.length = k * 4) (h : OwnV eF 1 w O v t.fs.length (t.fs.map Value.string)) :
    IsTab eF w O (cells ++ [.int .i64 (k + 1 : Nat), .string t.name, .bool t.dropped, v]) k t := by
  unfold IsTab
  rw [← hl]
  exact ⟨getD_right cells _ 0 _, getD_right cells _ 1 _, getD_right cells _ 2 _, by rw [getD_right cells _ 3 _]; exact h⟩

/-- What the loop of All keeps. -/
def AllRel (w : World) (L : List Tb) (i l : Value) (wr : World) : Prop :=
  ∃ (k : Nat) (sp : Option Addr) (cap : Nat) (cells : List Value), k ≤ L.length ∧ i = .int .i64 (k : Nat) ∧ l = .slice sp k cap ∧ Below w.heap.size w wr ∧
    OwnV 45 4 wr (fun b => w.heap.size ≤ b) (.slice sp k cap) k cells ∧ ∀ j, j < k → IsTab 62 wr (fun b => w.heap.size ≤ b) cells j (L.getD j noTb)

/-- One more table in the slice. -/
theorem all_step {w wr w2 w5 : World} {L : List Tb} {k : Nat} {t : Tb} {sp sp2 sp5 : Option Addr} {cap c2 c5 : Nat} {cells row : List Value} (hk : k < L.length) (ht : t = L.getD k noTb)
    (hb : Below w.heap.size w wr) (hT : OwnV 45 4 wr (fun b => w.heap.size ≤ b) (.slice sp k cap) k cells) (hI : ∀ j, j < k → IsTab 62 wr (fun b => w.heap.size ≤ b) cells j (L.getD j noTb))
    (hrow : row = [.int .i64 (k + 1 : Nat), .string t.name, .bool t.dropped, .slice sp2 t.fs.length c2])
    (hb2 : Below wr.heap.size wr w2) (hown : OwnV 62 1 w2 (fun b => wr.heap.size ≤ b) (.slice sp2 t.fs.length c2) t.fs.length (t.fs.map Value.string))
    (h5 : OwnV 45 4 w5 (fun g => w.heap.size ≤ g ∨ g = (w2.alloc (.cells row.toArray 45)).heap.size) (.slice sp5 (k + 1) c5) (k + 1) (cells ++ row))
    (hg : (w2.alloc (.cells row.toArray 45)).grownBy w5 (Value.slice sp k cap).ownBlock) :
    AllRel w L (.int .i64 (k + 1 : Nat)) (.slice sp5 (k + 1) c5) w5 := by
  subst hrow
  have hw : w.heap.size ≤ wr.heap.size := hb.size
  have hw2 : wr.heap.size ≤ w2.heap.size := hb2.size
  have hkeep : ∀ b, b < w2.heap.size → (Value.slice sp k cap).ownBlock ≠ some b → w5.heap[b]? = w2.heap[b]? := fun b h1 h2 => by
    rw [hg.block b (by simp; omega) (fun e => h2 e.symm), Below.heap_alloc _ _ _ h1]
  have hb5 : Below w.heap.size w w5 := by
    refine (hb.trans ((hb2.mono hw).alloc (Nat.le_trans hw hw2) _)).trans ((grown_keep hg).mono fun b (hb' : b < w.heap.size) => ⟨by simp; omega, fun e => ?_⟩).below
    have : w.heap.size ≤ b := hT.own e
    omega
  have hfr : ∀ b (cur : Array Value), w2.heap[b]? = some (Obj.cells cur 62 (0, 0)) → w5.heap[b]? = w2.heap[b]? := fun b cur hcur => by
    refine hkeep b (lt_of_block hcur) fun e => ?_
    obtain ⟨cur', hcur'⟩ := hT.tag e
    have h1 : b < wr.heap.size := lt_of_block hcur'
    rw [← hb2.block b h1] at hcur'
    exact tag_ne hcur' hcur (by decide) rfl
  have hlen := hT.len
  refine ⟨k + 1, sp5, c5, _, by omega, rfl, rfl, hb5, h5.mono (fun b hb => ?_), fun j hj => ?_⟩
  · rcases hb with hb | rfl
    · exact hb
    · show w.heap.size ≤ _; simp; omega
  · by_cases hjk : j < k
    · refine IsTab.left ((hI j hjk).of_block fun b hb0 ⟨cur, hcur⟩ => ?_) (by omega)
      have h1 : b < wr.heap.size := lt_of_block hcur
      have h2 := hb2.block b h1
      rw [hfr b cur (by rw [h2]; exact hcur), h2]
    · have e : j = k := by omega
      subst e
      rw [← ht]
      refine IsTab.last hlen ?_
      refine (hown.of_block fun g hg' => ?_).mono (fun b (hb' : wr.heap.size ≤ b) => Nat.le_trans hw hb')
      obtain ⟨cur, hcur⟩ := hown.tag hg'
      exact hfr g cur hcur

set_option maxHeartbeats 2000000 in
theorem all_any {w : World} {c n : Nat} {O : Nat → Prop} {L : List Tb} (h : IsCat w c O n L) :
    Calls Try.prog 11 #[.pointer (some ⟨c, 0, none⟩)] w fun e w' => ∃ sp cap, e = .returned (.slice sp L.length cap) ∧ Tabs 45 62 w' (fun b => w.heap.size ≤ b) (.slice sp L.length cap) L ∧ Below w.heap.size w w' := by
  have hlen := h.good.len
  have hfs : ∀ i, i < L.length → (L.getD i noTb).fs.length ≤ 16 := fun i hi => (h.good.each i hi).2.1
  have H0 := Hid2.mk h
  have HF := Hid2.mk hfs
  obtain ⟨tv, dr, mb, hc, -, -, -, ⟨cells, hT, hI⟩, -, -, hG⟩ := h
  obtain ⟨sp, cap, rfl, hcap, hcap2⟩ := hT.slice
  have c0 := hc.cell 0 (by simp)
  simp only [List.getD_cons_zero] at c0
  have HT := Hid2.mk hT
  have HI := Hid2.mk hI
  clear hc hT hI hG hfs
  go_enter Try.func11, Try.ntmps11
  go_wp2_with fail
  go_loopw [13, 3] (fun i l wr => AllRel w L i l wr) (fun i _ _ => L.length - (intOf i).toNat)
  case atStart => exact ⟨0, none, 0, [], by omega, rfl, rfl, Below.refl _ _, OwnV.nil _ _ _ _, fun j hj => by omega⟩
  case round =>
    obtain ⟨k, spl, capl, lc, hk, rfl, rfl, hbr, hTl, hIl⟩ := hrel
    have hTr := HT.out.keep (Keep.of_below hbr) (fun g hg => HT.out.lt hg)
    have hIr : ∀ i, i < L.length → IsTab 62 wr O cells i (L.getD i noTb) := fun i hi => (HI.out i hi).of_block fun b hb _ => hbr.block b (H0.out.lt b hb)
    by_cases hkl : k < L.length
    · have hkl2 : (k : Int) < L.length := by omega
      obtain ⟨t, ht⟩ : ∃ t, t = L.getD k noTb := ⟨_, rfl⟩
      have hIk := hIr k hkl
      have hf := HF.out k hkl
      rw [← ht] at hIk hf
      obtain ⟨g, cap', hsl, -, -, hg, -, x0, x1, x2, sp', cc, x3, hown⟩ := tab_cells hTr hkl hIk
      obtain ⟨rfl, rfl⟩ : sp = some ⟨g, 0, none⟩ ∧ cap = cap' := by simpa using hsl
      have Hown := Hid2.mk hown
      have Ht := Hid2.mk ht
      have Hbr := Hid2.mk hbr
      have HTl := Hid2.mk hTl
      have HIl := Hid2.mk hIl
      clear hTr hIr hIk hown hsl ht hbr hTl hIl
      go_wp2_with fail
      have ho3 := Hown.out.alloc (.cells #[.int .i64 ((k : Int) + 1), .string t.name, .bool t.dropped, .slice sp' t.fs.length cc] 45)
      refine (own_any _ _ _ _ ho3.slV (by omega)).mono ?_
      rintro e w2 ⟨sp2, c2, rfl, hown2, hb2⟩
      have Hb2 := Hid2.mk (((Below.refl _ wr).alloc (Nat.le_refl _) _).trans (hb2.mono (by simp)))
      have Hown2 := Hid2.mk (hown2.mono (O' := fun b => wr.heap.size ≤ b) (fun b (hb : _ ≤ b) => Nat.le_trans (by simp) hb))
      have HTl2 := Hid2.mk ((HTl.out.keep (Keep.of_below Hb2.out) (fun g hg => HTl.out.lt hg)).alloc (.cells #[.int .i64 (k + 1 : Nat), .string t.name, .bool t.dropped, .slice sp2 t.fs.length c2] 45))
      have Hsl := Hid2.mk (SlV.fresh w2 (fun _ => True) 45 (m := 4) (n := 1) (l := [.int .i64 (k + 1 : Nat), .string t.name, .bool t.dropped, .slice sp2 t.fs.length c2]) rfl (fun u hu => by simp at hu; rcases hu with rfl | rfl | rfl | rfl <;> rfl) trivial (by unfold maxLen; omega))
      clear hb2 hown2 ho3 x0 x1 x2 x3 c0 hg
      go_wp2_with (refine wpList_appV rfl (.tmp 17) (.tmp 20) 41 rfl elemTable rfl HTl2.out rfl Hsl.out (n' := k + 1) rfl (by unfold maxLen; omega) (by omega) ?_; intro sp5 c5 w5 hown5 hgrow hat)
      have Hst := Hid2.mk (all_step hkl Ht.out Hbr.out HTl.out HIl.out rfl Hb2.out Hown2.out hown5 hgrow)
      clear hown5 hgrow hat
      go_roundw
      case rel => exact Hst.out
      case measure => simp [intOf]; omega
    · have hd2 : decide ((k : Int) < L.length) = false := decide_eq_false (by omega)
      obtain rfl : k = L.length := by omega
      have Hbr := Hid2.mk hbr
      have HTl := Hid2.mk hTl
      have HIl := Hid2.mk hIl
      clear hTr hIr hbr hTl hIl c0
      go_wp2_with fail
      go_ret
      exact ⟨_, _, rfl, ⟨_, HTl.out, HIl.out⟩, Hbr.out⟩

end Cat
end Go.Proofs.Ytdaljjicekheiaa
