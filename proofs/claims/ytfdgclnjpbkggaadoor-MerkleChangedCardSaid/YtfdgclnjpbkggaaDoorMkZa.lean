/- A taker climbs. -/
import Derived.Test.YtfdgclnjpbkggaaDoorMkZ
import Derived.Test.YtfdgclnjpbkggaaDoorMkFa
namespace Go.Proofs.YtfdgclnjpbkggaaDoor
open Go.RowKit Go.Maps

/-- Many cells at once. -/
theorem exec_load_blk {P : Program} {o : Oper} {a : Act} {w : World} (ty : TypeId) (x : Operand) (ho : o.op = .load ty x)
    (b : Nat) (hx : a.eval x = .pointer (some ⟨b, 0, none⟩)) (cs : List Value) (d : TypeDesc) (hc : w.rangeAt b 0 cs)
    (hu : P.underlying ty = some d) (hd : d.isRow = true) (hi : (P.info? ty).map (·.size) = some cs.length) : (execOp a.eval o).run P w = .ok (.value (.agg cs.toArray)) w := by
  unfold execOp
  simp only [ho, hx, Instr.loadAt, Instr.sureAddr, Sem.run_bind, Sem.run_pure, Result.andThen_ok, run_loadVar_mid w b 0 ty cs d hc hu hd hi]

/-- Many cells at once, if a test asks for it, as it does. -/
theorem wpList_load_on {P : Program} {ops : Array Oper} {rest : List Oper} {o : Oper} {a : Act} {w : World} {Q : Exit → Act → World → Prop} (hw : Region.wanted o (yielded ops a.tmps) = true) (ty : TypeId) (x : Operand) (ho : o.op = .load ty x)
    (g : Nat) (hx : a.eval x = .pointer (some ⟨g, 0, none⟩)) (t : TypeId) (cs : Array Value) (fr : Nat × Nat) (d : TypeDesc) (hg : w.heap[g]? = some (.cells cs t fr))
    (hu : P.underlying ty = some d) (hd : (match d with | .struct _ | .array _ _ => true | _ => false) = true) (hi : (P.info? ty).map (·.size) = some cs.size)
    (h : wpList P ops Q rest (a.put o.dst (.agg cs)) w) : wpList P ops Q (o :: rest) a w :=
  wpList_step fun _ hK => by rw [if_pos hw]; exact wp_load_row ty x ho g hx t cs fr d hg hu hd hi (hK _ _ h)

namespace Mk

def climbP (leaf : H) (i n : Nat) (s : Tkr) : H × Tkr := climb nodeP z32 leaf i n s
theorem climb_one (leaf : H) (i : Nat) (s : Tkr) : climbP leaf i 1 s = (leaf, s) := by unfold climbP; rw [climb, dif_neg (by omega)]
theorem climb_left {leaf : H} {i n : Nat} {s : Tkr} (h2 : 2 ≤ n) (hi : i < half n) : climbP leaf i n s = (nodeP (climbP leaf i (half n) s).1 (nextP (climbP leaf i (half n) s).2).1, (nextP (climbP leaf i (half n) s).2).2) := by
  unfold climbP nextP; rw [climb, dif_pos h2, if_pos hi]
theorem climb_right {leaf : H} {i n : Nat} {s : Tkr} (h2 : 2 ≤ n) (hi : ¬ i < half n) : climbP leaf i n s = (nodeP (nextP (climbP leaf (i - half n) (n - half n) s).2).1 (climbP leaf (i - half n) (n - half n) s).1, (nextP (climbP leaf (i - half n) (n - half n) s).2).2) := by
  unfold climbP nextP; rw [climb, dif_pos h2, if_neg hi]
theorem climb_len {leaf : H} {i n : Nat} {s : Tkr} (h : leaf.length = 32) : (climbP leaf i n s).1.length = 32 := by
  by_cases h2 : 2 ≤ n
  · by_cases hi : i < half n
    · rw [climb_left h2 hi]; dsimp only; rw [nodeP_len]
    · rw [climb_right h2 hi]; dsimp only; rw [nodeP_len]
  · unfold climbP; rw [climb, dif_neg h2]; exact h
theorem infoL (l : H) (hl : l.length = 32) : (Tryd.prog.info? 27).map (·.size) = some (l.map (Value.int .u8)).length := by rw [infoHash, List.length_map, hl]
theorem node_a {a b : H} (w : World) (ha : a.length = 32) (hb : b.length = 32) : Calls Tryd.prog 35 #[.agg (a.map (Value.int .u8)).toArray, .agg (b.map (Value.int .u8)).toArray] w fun e w' => e = .returned (.agg ((nodeP a b).map (Value.int .u8)).toArray) ∧ Below w.heap.size w w' := Dig.node_any a b w ha hb

theorem next_any {w : World} {g : Nat} {O : Nat → Prop} {s : Tkr} (h : Tk w g O s) :
    Calls Tryd.prog 47 #[.pointer (some ⟨g, 0, none⟩)] w (TkPost w g O (nextP s).1 (nextP s).2) := by
  obtain ⟨l, ok⟩ := s
  cases l with
  | nil => exact next_nil h
  | cons x r => exact next_cons h

theorem two_new (w : World) (l : H) :
    Below w.heap.size w ((w.alloc (.cells (l.map (Value.int .u8)).toArray 27)).alloc (.cells (Dig.Z32.map (Value.int .u8)).toArray 27)) ∧
    VBlk 27 ((w.alloc (.cells (l.map (Value.int .u8)).toArray 27)).alloc (.cells (Dig.Z32.map (Value.int .u8)).toArray 27)) w.heap.size (l.map (Value.int .u8)) ∧
    VBlk 27 ((w.alloc (.cells (l.map (Value.int .u8)).toArray 27)).alloc (.cells (Dig.Z32.map (Value.int .u8)).toArray 27)) (w.heap.size + 1) (Dig.Z32.map (Value.int .u8)) := by
  refine ⟨((Below.refl _ w).alloc (Nat.le_refl _) _).alloc (by simp) _, (VBlk.mk w _ _).alloc _, ?_⟩
  have := VBlk.mk (w.alloc (.cells (l.map (Value.int .u8)).toArray 27)) (Dig.Z32.map (Value.int .u8)) 27
  rw [show (w.alloc (.cells (l.map (Value.int .u8)).toArray 27)).heap.size = w.heap.size + 1 from by simp] at this
  exact this

theorem Tk.tight {w : World} {g : Nat} {O : Nat → Prop} {s : Tkr} (h : Tk w g O s) : Tk w g (fun b => O b ∧ b < w.heap.size) s := by
  obtain ⟨v, h1, ⟨hok, a1, a2, sp, cap, a3, a4, a5, a6, a7⟩, h3⟩ := h
  refine ⟨v, h1, ⟨hok, a1, a2, sp, cap, a3, a4, a5, a6, fun hn => ?_⟩, fun h => h3 h.1⟩
  obtain ⟨b, o, e, hb, hO, hr⟩ := a7 hn
  exact ⟨b, o, e, hb, ⟨hO, hb⟩, hr⟩
theorem Tk.widen {w : World} {g : Nat} {O O' : Nat → Prop} {s : Tkr} (h : Tk w g O s) (hO : ∀ b, O b → O' b) (hg : ¬ O' g) : Tk w g O' s := by
  obtain ⟨v, h1, h2, h3⟩ := h
  exact ⟨v, h1, h2.mono hO, hg⟩
theorem Tk.off {w : World} {g : Nat} {O : Nat → Prop} {s : Tkr} (h : Tk w g O s) : ¬ O g := by obtain ⟨v, -, -, h3⟩ := h; exact h3

set_option maxRecDepth 100000 in
set_option maxHeartbeats 4000000 in
theorem climb_any : ∀ (n : Nat) {w : World} {g : Nat} {O : Nat → Prop} {leaf : H} {i : Nat} {s : Tkr}, leaf.length = 32 → 1 ≤ n → n ≤ 1099511627776 → i < n → Tk w g O s →
    Calls Tryd.prog 36 #[.pointer (some ⟨g, 0, none⟩), .agg (leaf.map (Value.int .u8)).toArray, .int .i64 (i : Nat), .int .i64 (n : Nat)] w (TkPost w g O (climbP leaf i n s).1 (climbP leaf i n s).2) := by
  intro n
  induction n using Nat.strongRecOn with
  | ind n ih =>
    intro w g O1 leaf i s hlen h1 hn hi h
    have hoff := h.off
    obtain ⟨O, hOe⟩ : ∃ O : Nat → Prop, O = fun b => O1 b ∧ b < w.heap.size := ⟨_, rfl⟩
    have htight : Tk w g O s := by rw [hOe]; exact h.tight
    have HOlt := Hid2.mk (show ∀ b, O b → b < w.heap.size by rw [hOe]; exact fun b hb => hb.2)
    have HO1 := Hid2.mk (show ∀ b, O b → O1 b by rw [hOe]; exact fun b hb => hb.1)
    have hlt := h.lt
    suffices main : Calls Tryd.prog 36 #[.pointer (some ⟨g, 0, none⟩), .agg (leaf.map (Value.int .u8)).toArray, .int .i64 (i : Nat), .int .i64 (n : Nat)] w (TkPost w g O (climbP leaf i n s).1 (climbP leaf i n s).2) from main.mono fun e w' hp => by obtain ⟨a, b, c⟩ := hp; exact ⟨a, b.widen HO1.out hoff, c⟩
    clear hOe h HO1 hoff
    have hz := zeroHash
    obtain ⟨hb, hL, hR⟩ := two_new w leaf
    have H1 := Hid2.mk (htight.below hb (Nat.le_refl _))
    have HL := Hid2.mk hL
    have HR := Hid2.mk hR
    have HK := Hid2.mk ((Keep.of_below hb).mono (K' := fun b => b < w.heap.size ∧ b ≠ g) (fun b hb => hb.1))
    have Hih := Hid2.mk ih
    have Hlen := Hid2.mk hlen
    have hne1 : w.heap.size + 1 ≠ g := by omega
    clear hb hL hR htight ih
    by_cases hn1 : n = 1
    · subst hn1
      rw [climb_one]
      go_enter Tryd.func36, Tryd.ntmps36
      go_wp2_with (first
        | (refine wpList_load_row rfl 27 (.tmp 5) rfl w.heap.size rfl 27 (leaf.map (Value.int .u8)).toArray (0, 0) _ HL.out Tryd.underlying27 rfl (infoH leaf hlen) ?_)
        | (refine wpList_store_row rfl 27 (.tmp 8) (.tmp 14) rfl (w.heap.size + 1) (leaf.map (Value.int .u8)).toArray rfl rfl 27 (Dig.Z32.map (Value.int .u8)).toArray HR.out (infoH leaf hlen) (sizeH _ _ z32_len hlen) (oneH _) ?_))
      refine bodyPost_ret (results_cell_row rfl _ _ (w.heap.size + 1) 27 (leaf.map (Value.int .u8)).toArray (0, 0) _ rfl (setRow_heap _ _ _ _ _ _ HR.out) Tryd.underlying27 rfl (infoH leaf hlen)) rfl ?_
      unfold TkPost
      exact ⟨rfl, H1.out.keep (keep_setRow _ (w.heap.size + 1) _) (Ne.symm hne1) (fun b hb _ => by have := HOlt.out b hb; show b ≠ _; omega), HK.out.trans ((keep_setRow _ (w.heap.size + 1) _).mono (fun b hb => by show b ≠ _; have := hb.1; omega))⟩
    · have h2 : 2 ≤ n := by omega
      have hn2 : ((n : Int) == 1) = false := by simp; omega
      have hkl := half_lt h2
      have hkp := half_pos n
      by_cases hik : i < half n
      · have Hp := Hid2.mk (climb_left (leaf := leaf) (s := s) h2 hik)
        have hcl : (climbP leaf i (half n) s).1.length = 32 := climb_len hlen
        clear hn1
        go_enter Tryd.func36, Tryd.ntmps36
        go_wp2_with fail
        generalize World.alloc (World.alloc _ _) _ = w1 at H1 HL HR HK ⊢
        refine (half_any n _ h2 (by omega)).mono ?_
        rintro e w' ⟨rfl, rfl⟩
        generalize hk : half n = k at hkl hkp hik Hp hcl ⊢
        have hik2 : (i : Int) < k := by omega
        clear hk
        go_wp2_with (first | (refine wpList_load_row rfl 27 (.tmp 5) rfl w.heap.size rfl 27 (leaf.map (Value.int .u8)).toArray (0, 0) _ HL.out Tryd.underlying27 rfl (infoH leaf hlen) ?_))
        refine (Hih.out k hkl hlen hkp (by omega) hik H1.out).mono ?_
        rintro e w2 ⟨rfl, htk2, hk2⟩
        generalize climbP leaf i k s = c at Hp hcl htk2 ⊢
        obtain ⟨r, s2⟩ := c
        simp only at Hp hcl htk2
        have HR2 := Hid2.mk (HR.out.keep hk2 ⟨HR.out.lt, hne1⟩)
        have HK2 := Hid2.mk (HK.out.trans (hk2.mono (fun b hb => ⟨Nat.lt_of_lt_of_le hb.1 HK.out.size, hb.2⟩)))
        obtain ⟨q1, q2, q3⟩ := alloc_store w2 r
        have Q1 := Hid2.mk q1
        have Q2 := Hid2.mk q2
        have H3 := Hid2.mk (htk2.below q3 (Nat.le_refl _))
        have HR3 := Hid2.mk (HR2.out.below q3 HR2.out.lt)
        have HK3 := Hid2.mk (HK2.out.trans ((Keep.of_below q3).mono (fun b hb => Nat.lt_of_lt_of_le hb.1 HK2.out.size)))
        have HQg := Hid2.mk (show w2.heap.size ≠ g by have := htk2.lt; omega)
        have HQr := Hid2.mk (show w.heap.size + 1 < w2.heap.size from HR2.out.lt)
        clear q1 q2 q3 htk2 hk2 H1 HL HR HK HR2 HK2 Hih
        go_wp2_with (refine wpList_store_row rfl 27 (.tmp 10) (.tmp 24) rfl w2.heap.size (r.map (Value.int .u8)).toArray rfl rfl 27 (Dig.Z32.map (Value.int .u8)).toArray Q1.out (infoH r hcl) (sizeH _ _ z32_len hcl) (oneH _) ?_)
        generalize World.setRow _ _ _ = w3 at Q2 H3 HR3 HK3 ⊢
        have hS : VBlk 27 w3.drew w2.heap.size (r.map (Value.int .u8)) := Q2.out.drewN 1
        refine wp_region_till 3 (fun W => VBlk 27 W w2.heap.size (r.map (Value.int .u8))) (by kernel_rfl) ?_
        refine till_read (i := 0) (v := .agg (r.map (Value.int .u8)).toArray) [3] rfl (by kernel_rfl) (by kernel_rfl) (by kernel_rfl) (by kernel_rfl) (by kernel_rfl) (fun _ _ _ h => h) (by rfl) (fun W hW => exec_load_blk 27 (.tmp 10) rfl w2.heap.size rfl _ _ (range_vblk hW) Tryd.underlying27 rfl (infoL r hcl)) hS ?_
        refine till_free (i := 1) rfl (by kernel_rfl) (by kernel_rfl) (by kernel_rfl) rfl (fun _ _ _ h => h) (.inr hS) (by rfl) (fun _ => by first | (go_simp; done) | (go_simp; with_reducible rfl)) ?_
        have hd1 : Below w3.heap.size w3 w3.drew := belowN (Below.refl w3.heap.size w3) 1
        have H3d := Hid2.mk (H3.out.below hd1 (Nat.le_refl _))
        refine till_one (i := 2) (by kernel_rfl) rfl ?_; intro K hK
        go_simp
        refine (next_any H3d.out).mono ?_
        rintro e w4 ⟨rfl, htk4, hk4⟩
        have hnl := next_len H3d.out.ok
        generalize nextP s2 = c at Hp htk4 hnl ⊢
        obtain ⟨x, s4⟩ := c
        simp only at Hp htk4 hnl
        have hQ4 := hS.keep hk4 ⟨hS.lt, HQg.out⟩
        have HR4 := Hid2.mk ((HR3.out.below hd1 HR3.out.lt).keep hk4 ⟨(HR3.out.below hd1 HR3.out.lt).lt, hne1⟩)
        have HK4 := Hid2.mk ((HK3.out.trans ((Keep.of_below hd1).mono (fun b hb => Nat.lt_of_lt_of_le hb.1 HK3.out.size))).trans (hk4.mono (fun b hb => ⟨Nat.lt_of_lt_of_le hb.1 (Nat.le_trans HK3.out.size hd1.size), hb.2⟩)))
        have H4 := Hid2.mk htk4
        refine hK _ _ (.inr hQ4) ?_
        clear hK K hk4 htk4 H3d H3 HR3 HK3 hQ4
        have hlenN := nodeP_len r x
        refine till_one (i := 3) (by kernel_rfl) rfl ?_; intro K hK
        go_simp
        refine (node_a _ hcl hnl).mono ?_
        rintro e w5 ⟨rfl, hb5⟩
        generalize nodeP r x = rr at Hp hlenN ⊢
        have HR5 := Hid2.mk (HR4.out.below hb5 HR4.out.lt)
        have HK5 := Hid2.mk (HK4.out.trans ((Keep.of_below hb5).mono (fun b hb => Nat.lt_of_lt_of_le hb.1 HK4.out.size)))
        have H5 := Hid2.mk (H4.out.below hb5 (Nat.le_refl _))
        refine hK _ _ (.inl rfl) ?_
        clear hK K hb5 H4 HR4 HK4
        refine till_one (i := 4) (by kernel_rfl) rfl ?_; intro K hK
        refine Dig.step_store_row rfl 27 (.tmp 8) (.tmp 28) rfl (w.heap.size + 1) (rr.map (Value.int .u8)).toArray rfl rfl 27 (Dig.Z32.map (Value.int .u8)).toArray HR5.out (infoH rr hlenN) (sizeH _ _ z32_len hlenN) (oneH _) ?_
        refine hK _ _ (.inl rfl) ?_
        clear hK K
        refine till_done (by kernel_rfl) ?_ _
        go_wp2_with fail
        refine bodyPost_ret (results_cell_row rfl _ _ (w.heap.size + 1) 27 (rr.map (Value.int .u8)).toArray (0, 0) _ rfl (setRow_heap _ _ _ _ _ _ HR5.out) Tryd.underlying27 rfl (infoH rr hlenN)) rfl ?_
        unfold TkPost
        rw [Hp.out]
        exact ⟨rfl, H5.out.keep (keep_setRow _ (w.heap.size + 1) _) (Ne.symm hne1) (fun b hb _ => by have := HOlt.out b hb; show b ≠ _; omega), HK5.out.trans ((keep_setRow _ (w.heap.size + 1) _).mono (fun b hb => by show b ≠ _; have := hb.1; omega))⟩
      · have Hp := Hid2.mk (climb_right (leaf := leaf) (s := s) h2 hik)
        have hcl : (climbP leaf (i - half n) (n - half n) s).1.length = 32 := climb_len hlen
        clear hn1
        go_enter Tryd.func36, Tryd.ntmps36
        go_wp2_with fail
        generalize World.alloc (World.alloc _ _) _ = w1 at H1 HL HR HK ⊢
        refine (half_any n _ h2 (by omega)).mono ?_
        rintro e w' ⟨rfl, rfl⟩
        generalize hk : half n = k at hkl hkp hik Hp hcl ⊢
        have hik2 : (k : Int) ≤ i := by omega
        have hii : (i : Int) < n := by omega
        clear hk
        go_wp2_with (first | (refine wpList_load_row rfl 27 (.tmp 5) rfl w.heap.size rfl 27 (leaf.map (Value.int .u8)).toArray (0, 0) _ HL.out Tryd.underlying27 rfl (infoH leaf hlen) ?_))
        have e2 : (n : Int) - k = ((n - k : Nat) : Int) := by omega
        have e3 : (i : Int) - k = ((i - k : Nat) : Int) := by omega
        rw [e2, e3]
        refine (Hih.out (n - k) (by omega) hlen (by omega) (by omega) (by omega) H1.out).mono ?_
        rintro e w2 ⟨rfl, htk2, hk2⟩
        clear e2 e3
        generalize climbP leaf (i - k) (n - k) s = c at Hp hcl htk2 ⊢
        obtain ⟨r, s2⟩ := c
        simp only at Hp hcl htk2
        have HR2 := Hid2.mk (HR.out.keep hk2 ⟨HR.out.lt, hne1⟩)
        have HK2 := Hid2.mk (HK.out.trans (hk2.mono (fun b hb => ⟨Nat.lt_of_lt_of_le hb.1 HK.out.size, hb.2⟩)))
        obtain ⟨q1, q2, q3⟩ := alloc_store w2 r
        have Q1 := Hid2.mk q1
        have Q2 := Hid2.mk q2
        have H3 := Hid2.mk (htk2.below q3 (Nat.le_refl _))
        have HR3 := Hid2.mk (HR2.out.below q3 HR2.out.lt)
        have HK3 := Hid2.mk (HK2.out.trans ((Keep.of_below q3).mono (fun b hb => Nat.lt_of_lt_of_le hb.1 HK2.out.size)))
        have HQg := Hid2.mk (show w2.heap.size ≠ g by have := htk2.lt; omega)
        have HQr := Hid2.mk (show w.heap.size + 1 < w2.heap.size from HR2.out.lt)
        clear q1 q2 q3 htk2 hk2 H1 HL HR HK HR2 HK2 Hih
        go_wp2_with (refine wpList_store_row rfl 27 (.tmp 11) (.tmp 37) rfl w2.heap.size (r.map (Value.int .u8)).toArray rfl rfl 27 (Dig.Z32.map (Value.int .u8)).toArray Q1.out (infoH r hcl) (sizeH _ _ z32_len hcl) (oneH _) ?_)
        generalize World.setRow _ _ _ = w3 at Q2 H3 HR3 HK3 ⊢
        have hS : VBlk 27 w3.drew w2.heap.size (r.map (Value.int .u8)) := Q2.out.drewN 1
        refine wp_region_till 3 (fun W => VBlk 27 W w2.heap.size (r.map (Value.int .u8))) (by kernel_rfl) ?_
        refine till_read (i := 2) (v := .agg (r.map (Value.int .u8)).toArray) [3] rfl (by kernel_rfl) (by kernel_rfl) (by kernel_rfl) (by kernel_rfl) (by kernel_rfl) (fun _ _ _ h => h) (by rfl) (fun W hW => exec_load_blk 27 (.tmp 11) rfl w2.heap.size rfl _ _ (range_vblk hW) Tryd.underlying27 rfl (infoL r hcl)) hS ?_
        refine till_free (i := 0) rfl (by kernel_rfl) (by kernel_rfl) (by kernel_rfl) rfl (fun _ _ _ h => h) (.inr hS) (by rfl) (fun _ => by first | (go_simp; done) | (go_simp; with_reducible rfl)) ?_
        have hd1 : Below w3.heap.size w3 w3.drew := belowN (Below.refl w3.heap.size w3) 1
        have H3d := Hid2.mk (H3.out.below hd1 (Nat.le_refl _))
        refine till_one (i := 1) (by kernel_rfl) rfl ?_; intro K hK
        go_simp
        refine (next_any H3d.out).mono ?_
        rintro e w4 ⟨rfl, htk4, hk4⟩
        have hnl := next_len H3d.out.ok
        generalize nextP s2 = c at Hp htk4 hnl ⊢
        obtain ⟨x, s4⟩ := c
        simp only at Hp htk4 hnl
        have hQ4 := hS.keep hk4 ⟨hS.lt, HQg.out⟩
        have HR4 := Hid2.mk ((HR3.out.below hd1 HR3.out.lt).keep hk4 ⟨(HR3.out.below hd1 HR3.out.lt).lt, hne1⟩)
        have HK4 := Hid2.mk ((HK3.out.trans ((Keep.of_below hd1).mono (fun b hb => Nat.lt_of_lt_of_le hb.1 HK3.out.size))).trans (hk4.mono (fun b hb => ⟨Nat.lt_of_lt_of_le hb.1 (Nat.le_trans HK3.out.size hd1.size), hb.2⟩)))
        have H4 := Hid2.mk htk4
        refine hK _ _ (.inr hQ4) ?_
        clear hK K hk4 htk4 H3d H3 HR3 HK3 hQ4
        have hlenN := nodeP_len x r
        refine till_one (i := 3) (by kernel_rfl) rfl ?_; intro K hK
        go_simp
        refine (node_a _ hnl hcl).mono ?_
        rintro e w5 ⟨rfl, hb5⟩
        generalize nodeP x r = rr at Hp hlenN ⊢
        have HR5 := Hid2.mk (HR4.out.below hb5 HR4.out.lt)
        have HK5 := Hid2.mk (HK4.out.trans ((Keep.of_below hb5).mono (fun b hb => Nat.lt_of_lt_of_le hb.1 HK4.out.size)))
        have H5 := Hid2.mk (H4.out.below hb5 (Nat.le_refl _))
        refine hK _ _ (.inl rfl) ?_
        clear hK K hb5 H4 HR4 HK4
        refine till_one (i := 4) (by kernel_rfl) rfl ?_; intro K hK
        refine Dig.step_store_row rfl 27 (.tmp 8) (.tmp 41) rfl (w.heap.size + 1) (rr.map (Value.int .u8)).toArray rfl rfl 27 (Dig.Z32.map (Value.int .u8)).toArray HR5.out (infoH rr hlenN) (sizeH _ _ z32_len hlenN) (oneH _) ?_
        refine hK _ _ (.inl rfl) ?_
        clear hK K
        refine till_done (by kernel_rfl) ?_ _
        go_wp2_with fail
        refine bodyPost_ret (results_cell_row rfl _ _ (w.heap.size + 1) 27 (rr.map (Value.int .u8)).toArray (0, 0) _ rfl (setRow_heap _ _ _ _ _ _ HR5.out) Tryd.underlying27 rfl (infoH rr hlenN)) rfl ?_
        unfold TkPost
        rw [Hp.out]
        exact ⟨rfl, H5.out.keep (keep_setRow _ (w.heap.size + 1) _) (Ne.symm hne1) (fun b hb _ => by have := HOlt.out b hb; show b ≠ _; omega), HK5.out.trans ((keep_setRow _ (w.heap.size + 1) _).mono (fun b hb => by show b ≠ _; have := hb.1; omega))⟩

end Mk
end Go.Proofs.YtfdgclnjpbkggaaDoor
