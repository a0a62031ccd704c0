/- A taker: what it is in memory; next. -/
import Derived.Test.YtfdgclnjpbkggaaDoorMkR
import Derived.Test.YtfdgclnjpbkggaaDoorMkY
namespace Go.Proofs.YtfdgclnjpbkggaaDoor
open Go.RowKit Go.Maps
namespace Mk

/-- A taker in memory. -/
def Tk (w : World) (g : Nat) (O : Nat → Prop) (s : Tkr) : Prop := ∃ v, VBlk 69 w g [v, .bool s.2] ∧ HS w O v s.1 ∧ ¬ O g
theorem Tk.keep {w w' : World} {g : Nat} {O : Nat → Prop} {s : Tkr} (h : Tk w g O s) {K : Nat → Prop} (hk : Keep K w w') (hg : K g) (hK : ∀ b, O b → b < w.heap.size → K b) : Tk w' g O s := by
  obtain ⟨v, h1, h2, h3⟩ := h
  exact ⟨v, h1.keep hk hg, h2.keep hk hK, h3⟩
theorem Tk.lt {w : World} {g : Nat} {O : Nat → Prop} {s : Tkr} (h : Tk w g O s) : g < w.heap.size := by obtain ⟨v, h1, -⟩ := h; exact h1.lt
theorem Tk.ok {w : World} {g : Nat} {O : Nat → Prop} {s : Tkr} (h : Tk w g O s) : Okh s.1 := by obtain ⟨v, -, h1, -⟩ := h; exact h1.1
theorem Tk.below {w w' : World} {g : Nat} {O : Nat → Prop} {s : Tkr} (h : Tk w g O s) {B : Nat} (hk : Below B w w') (hB : w.heap.size ≤ B) : Tk w' g O s :=
  h.keep (Keep.of_below hk) (Nat.lt_of_lt_of_le h.lt hB) (fun _ _ hb => Nat.lt_of_lt_of_le hb hB)
theorem keep_setRow (w : World) (g : Nat) (cs : Array Value) : Keep (fun b => b ≠ g) w (w.setRow g cs) := ⟨rfl, rfl, rfl, by simp, fun k hk => setRow_other w g k cs hk⟩
theorem keep_setCell (w : World) (p : Addr) (u : Value) : Keep (fun b => b ≠ p.block) w (w.setCell p u) := (Keep.refl _ w).setCell (fun h => h rfl) u

theorem HS.empty {w w' : World} {O : Nat → Prop} {v : Value} (h : HS w O v []) : HS w' O v [] := by
  obtain ⟨hok, h1, h2, sp, cap, h3, h4, h5, h6, -⟩ := h
  exact ⟨hok, h1, h2, sp, cap, h3, h4, h5, h6, fun h => absurd h (by simp)⟩

def nextP (s : Tkr) : H × Tkr := next z32 s
theorem next_len {s : Tkr} (h : Okh s.1) : (nextP s).1.length = 32 := by
  obtain ⟨l, ok⟩ := s
  cases l with
  | nil => rfl
  | cons a r => exact h a List.mem_cons_self
theorem next_ok {s : Tkr} (h : Okh s.1) : Okh (nextP s).2.1 := by
  obtain ⟨l, ok⟩ := s
  cases l with
  | nil => exact okh_nil
  | cons a r => exact fun x hx => h x (List.mem_cons_of_mem _ hx)
/-- What a taker's function promises. -/
def TkPost (w : World) (g : Nat) (O : Nat → Prop) (r : H) (s : Tkr) (e : Ending) (w' : World) : Prop := e = .returned (.agg (r.map (Value.int .u8)).toArray) ∧ Tk w' g O s ∧ Keep (fun b => b < w.heap.size ∧ b ≠ g) w w'

set_option maxRecDepth 100000 in
set_option maxHeartbeats 2000000 in
theorem next_nil {w : World} {g : Nat} {O : Nat → Prop} {ok : Bool} (h : Tk w g O ([], ok)) :
    Calls Tryd.prog 47 #[.pointer (some ⟨g, 0, none⟩)] w (TkPost w g O (Dig.Z32) ([], false)) := by
  have hz := zeroHash
  obtain ⟨hb, hR⟩ := new_hash w
  have hlt := h.lt
  obtain ⟨v, hc, hs, hO⟩ := h
  have hc1 := hc.below hb hlt
  have hs1 := hs.below hb (Nat.le_refl _)
  obtain ⟨sp, cap, rfl, hcc, hcc'⟩ := hs.form
  have c0 := hc1.cell 0 (by simp)
  have c1 := hc1.cell 1 (by simp)
  have f1 := hc1.free 1
  simp only [List.getD_cons_zero, List.getD_cons_succ, List.length_nil] at c0 c1
  have hne : w.heap.size ≠ g := by omega
  have es : (w.setCell ⟨g, 1, none⟩ (.bool false)).heap.size = w.heap.size := by simp
  have hR2 := VBlk.mk (w.setCell ⟨g, 1, none⟩ (.bool false)) (Dig.Z32.map (Value.int .u8)) 27
  rw [es] at hR2
  have HR := Hid2.mk hR2
  have HC := Hid2.mk ((hc.set 1 (.bool false)).alloc (.cells (Dig.Z32.map (Value.int .u8)).toArray 27))
  have HK := Hid2.mk (((Keep.refl (fun b => b < w.heap.size ∧ b ≠ g) w).setCell (p := ⟨g, 1, none⟩) (fun h => (show g ≠ g from h.2) rfl) (.bool false)).alloc (fun k hk => by rw [es]; exact hk.1) (.cells (Dig.Z32.map (Value.int .u8)).toArray 27))
  have HS0 := Hid2.mk hs
  have HO := Hid2.mk hO
  have hi : (Tryd.prog.info? 27).map (·.size) = some (Dig.Z32.map (Value.int .u8)).toArray.size := by rw [infoHash]; rfl
  have Hi := Hid2.mk hi
  clear hb hR hR2 es hc hs hc1 hs1 hcc hcc' hi hO
  go_enter Tryd.func47, Tryd.ntmps47
  go_wp2_with (first | (refine wpList_build_to rfl 27 #[] rfl (Dig.Z32.map (Value.int .u8)).toArray builtHash ?_) | (refine wpList_store_row rfl 27 (.tmp 2) (.tmp 13) rfl w.heap.size (Dig.Z32.map (Value.int .u8)).toArray rfl rfl 27 (Dig.Z32.map (Value.int .u8)).toArray HR.out Hi.out rfl (by simp [Value.oneCell']) ?_))
  refine bodyPost_ret (results_cell_row rfl _ _ w.heap.size 27 (Dig.Z32.map (Value.int .u8)).toArray (0, 0) _ rfl (setRow_heap _ _ _ _ _ _ HR.out) Tryd.underlying27 rfl Hi.out) rfl ?_
  have hk := keep_setRow (World.alloc (w.setCell ⟨g, 1, none⟩ (.bool false)) (.cells (Dig.Z32.map (Value.int .u8)).toArray 27)) w.heap.size (Dig.Z32.map (Value.int .u8)).toArray
  unfold TkPost
  exact ⟨rfl, ⟨_, HC.out.keep hk (Ne.symm hne), HS0.out.empty, HO.out⟩, HK.out.trans (hk.mono (fun b hb => by show b ≠ _; have := hb.1; omega))⟩

set_option maxRecDepth 100000 in
set_option maxHeartbeats 4000000 in
theorem next_cons {w : World} {g : Nat} {O : Nat → Prop} {ok : Bool} {x : H} {r : List H} (h : Tk w g O (x :: r, ok)) :
    Calls Tryd.prog 47 #[.pointer (some ⟨g, 0, none⟩)] w (TkPost w g O x (r, ok)) := by
  have hz := zeroHash
  obtain ⟨hb, hR⟩ := new_hash w
  have hlt := h.lt
  obtain ⟨v, hc, hs, hO⟩ := h
  have hc1 := hc.below hb hlt
  have hs1 := hs.below hb (Nat.le_refl _)
  obtain ⟨b, o, cap, rfl, hcc, hcc', hblt, hOb, h32, hrow⟩ := hs1.at 0 (by simp)
  have hd := hs.drop (k := 1) (by simp)
  have e0 : (x :: r).getD 0 [] = x := rfl
  have e1 : o + 0 * 32 = o := by omega
  rw [e0] at h32 hrow
  rw [e1] at hrow
  obtain ⟨n, hn⟩ : ∃ n, (x :: r).length = n := ⟨_, rfl⟩
  have hn1 : 1 ≤ n := by rw [← hn]; simp
  have ed : (x :: r).drop 1 = r := rfl
  rw [hn] at hc1 hcc hd
  rw [ed] at hd
  have c0 := hc1.cell 0 (by simp)
  simp only [List.getD_cons_zero] at c0
  have g0 : ((n : Int) == 0) = false := by simp; omega
  have g1 : (0 : Int) < n := by omega
  have g2 : (1 : Int) ≤ n := by omega
  have g3 : (1 : Int) ≤ cap := by omega
  have hne : w.heap.size ≠ g := by omega
  have hbg : b ≠ g := fun e => hO (e ▸ hOb)
  obtain ⟨q1, q2, q3⟩ := alloc_store (w.alloc (.cells (Dig.Z32.map (Value.int .u8)).toArray 27)) x
  have es : (w.alloc (.cells (Dig.Z32.map (Value.int .u8)).toArray 27)).heap.size = w.heap.size + 1 := by simp
  rw [es] at q1 q2 q3
  have hc3 := hc1.below q3 (by omega)
  have c3 := hc3.cell 0 (by simp)
  have f3 := hc3.free 0
  simp only [List.getD_cons_zero] at c3
  have hne1 : w.heap.size + 1 ≠ g := by omega
  have Q1 := Hid2.mk q1
  have Q2 := Hid2.mk q2
  have HC3 := Hid2.mk hc3
  have HR3 := Hid2.mk (hR.below q3 (by omega))
  have HB3 := Hid2.mk (hb.trans (q3.mono (by omega)))
  clear q1 q2 q3 hc3 es
  have Hrow := Hid2.mk hrow
  have HD0 := Hid2.mk hd
  have HC := Hid2.mk hc1
  have HR := Hid2.mk hR
  have HB := Hid2.mk hb
  have HO := Hid2.mk hO
  have Hl := Hid2.mk h32
  have Hi := Hid2.mk (show (Tryd.prog.info? 27).map (·.size) = some (x.map (Value.int .u8)).length by rw [infoHash, List.length_map, h32])
  clear hb hR hc hs hc1 hs1 hcc' hO hrow hd h32 e0 e1 ed
  go_enter Tryd.func47, Tryd.ntmps47
  go_wp2_with (first
    | (refine wpList_load_mid rfl 27 (.tmp 18) rfl b o rfl (x.map (Value.int .u8)) _ Hrow.out Tryd.underlying27 rfl Hi.out ?_)
    | (refine wpList_store_row rfl 27 (.tmp 3) (.tmp 19) rfl (w.heap.size + 1) (x.map (Value.int .u8)).toArray rfl rfl 27 (Dig.Z32.map (Value.int .u8)).toArray Q1.out (infoH x Hl.out) (sizeH _ _ z32_len Hl.out) (oneH _) ?_
       generalize World.setRow _ _ _ = w3 at Q2 HC3 HR3 HB3 c3 f3 ⊢)
    | (refine wpList_load_row rfl 27 (.tmp 3) rfl (w.heap.size + 1) rfl 27 (x.map (Value.int .u8)).toArray (0, 0) _ (Q2.out.other ⟨g, 0, none⟩ _ hne1) Tryd.underlying27 rfl (infoH x Hl.out) ?_)
    | (refine wpList_store_row rfl 27 (.tmp 2) (.tmp 28) rfl w.heap.size (x.map (Value.int .u8)).toArray rfl rfl 27 (Dig.Z32.map (Value.int .u8)).toArray (HR3.out.other ⟨g, 0, none⟩ _ hne) (infoH x Hl.out) (sizeH _ _ z32_len Hl.out) (oneH _) ?_))
  · refine bodyPost_ret (results_cell_row rfl _ _ w.heap.size 27 (x.map (Value.int .u8)).toArray (0, 0) _ rfl (setRow_heap _ _ _ _ _ _ (HR3.out.other ⟨g, 0, none⟩ _ hne)) Tryd.underlying27 rfl (infoH x Hl.out)) rfl ?_
    unfold TkPost
    have hk : Keep (fun b => b < w.heap.size ∧ b ≠ g) w3 (World.setRow (World.setCell w3 ⟨g, 0, none⟩ (.slice (some ⟨b, o, none⟩) (n - 1) 0)) w.heap.size (x.map (Value.int .u8)).toArray) :=
      (((Keep.refl _ w3).setCell (fun h => (show g ≠ g from h.2) rfl) _).trans ((keep_setRow _ w.heap.size _).mono (fun b hb => by show b ≠ _; have := hb.1; omega)))
    have hkf := ((Keep.of_below HB3.out).mono (K' := fun b => b < w.heap.size ∧ b ≠ g) (fun b hb => hb.1)).trans hk
    refine ⟨rfl, ⟨_, (HC3.out.set 0 _).keep (K := fun b => b ≠ w.heap.size) (keep_setRow _ w.heap.size _) (Ne.symm hne), ?_, HO.out⟩, hkf⟩
    have hn2 : n = 1 := by omega
    have hr0 : r = [] := by
      have h1 : (x :: r).length = 1 := by rw [hn, hn2]
      exact List.eq_nil_of_length_eq_zero (by simpa using h1)
    subst hr0
    rw [hn2]
    exact ⟨okh_nil, rfl, (fun _ h => (List.not_mem_nil h).elim), _, 0, rfl, Nat.zero_le _, Nat.zero_le _, (fun h => by cases h), fun h => absurd h (by simp)⟩
  · refine bodyPost_ret (results_cell_row rfl _ _ w.heap.size 27 (x.map (Value.int .u8)).toArray (0, 0) _ rfl (setRow_heap _ _ _ _ _ _ (HR3.out.other ⟨g, 0, none⟩ _ hne)) Tryd.underlying27 rfl (infoH x Hl.out)) rfl ?_
    unfold TkPost
    have hk : Keep (fun b => b < w.heap.size ∧ b ≠ g) w3 (World.setRow (World.setCell w3 ⟨g, 0, none⟩ (.slice (some ⟨b, o + 32, none⟩) (n - 1) (cap - 1))) w.heap.size (x.map (Value.int .u8)).toArray) :=
      (((Keep.refl _ w3).setCell (fun h => (show g ≠ g from h.2) rfl) _).trans ((keep_setRow _ w.heap.size _).mono (fun b hb => by show b ≠ _; have := hb.1; omega)))
    have hkf := ((Keep.of_below HB3.out).mono (K' := fun b => b < w.heap.size ∧ b ≠ g) (fun b hb => hb.1)).trans hk
    refine ⟨rfl, ⟨_, (HC3.out.set 0 _).keep (K := fun b => b ≠ w.heap.size) (keep_setRow _ w.heap.size _) (Ne.symm hne), ?_, HO.out⟩, hkf⟩
    exact HD0.out.keep hkf (fun b hb hlt => ⟨hlt, fun e => HO.out (e ▸ hb)⟩)

end Mk
end Go.Proofs.YtfdgclnjpbkggaaDoor
