/- The tree of digests: paths. -/
import Derived.Test.YtfdgclnjpbkggaaDoorMkG
import Derived.Great.BuildSlice
namespace Go.Proofs.YtfdgclnjpbkggaaDoor
open Go.RowKit Go.Maps
namespace Mk

section
variable (node : H → H → H) (none : H)
/-- The path of a leaf. -/
def path (i : Nat) (l : List H) : List H :=
  if _ : 2 ≤ l.length then
    (if i < half l.length then path i (l.take (half l.length)) ++ [root node none (l.drop (half l.length))] else path (i - half l.length) (l.drop (half l.length)) ++ [root node none (l.take (half l.length))])
  else []
termination_by l.length
decreasing_by
  · rename_i h _; rw [List.length_take]; have := half_lt h; omega
  · rename_i h _; rw [List.length_drop]; have := half_pos l.length; omega
/-- The consistency of the first m. -/
def sub (m : Nat) (l : List H) (whole : Bool) : List H :=
  if m = l.length then (if whole then [] else [root node none l])
  else if _ : 2 ≤ l.length then
    (if m ≤ half l.length then sub m (l.take (half l.length)) whole ++ [root node none (l.drop (half l.length))] else sub (m - half l.length) (l.drop (half l.length)) false ++ [root node none (l.take (half l.length))])
  else []
termination_by l.length
decreasing_by
  · rename_i h _; rw [List.length_take]; have := half_lt h; omega
  · rename_i h _; rw [List.length_drop]; have := half_pos l.length; omega
end

def pathP (i : Nat) (l : List H) : List H := path nodeP noneP i l
def subP (m : Nat) (l : List H) (whole : Bool) : List H := sub nodeP noneP m l whole
theorem path_one {i : Nat} {l : List H} (h : l.length < 2) : pathP i l = [] := by unfold pathP; rw [path, dif_neg (by omega)]
theorem path_left {i f n : Nat} {l : List H} (h2 : 2 ≤ n) (hl : f + n ≤ l.length) (hi : i < half n) : pathP i (seg l f n) = pathP i (seg l f (half n)) ++ [rt (seg l (f + half n) (n - half n))] := by
  have e := seg_len hl
  unfold pathP
  rw [path, dif_pos (by omega), e, if_pos hi, seg_take (by have := half_lt h2; omega), seg_drop]
  rfl
theorem path_right {i f n : Nat} {l : List H} (h2 : 2 ≤ n) (hl : f + n ≤ l.length) (hi : ¬ i < half n) : pathP i (seg l f n) = pathP (i - half n) (seg l (f + half n) (n - half n)) ++ [rt (seg l f (half n))] := by
  have e := seg_len hl
  unfold pathP
  rw [path, dif_pos (by omega), e, if_neg hi, seg_take (by have := half_lt h2; omega), seg_drop]
  rfl
theorem okh_path : ∀ (n : Nat) {l : List H} {i : Nat}, l.length = n → Okh l → Okh (pathP i l) := by
  intro n
  induction n using Nat.strongRecOn with
  | ind n ih =>
    intro l i hn h
    unfold pathP
    rw [path]
    by_cases h2 : 2 ≤ l.length
    · have hk := half_lt h2
      have hp := half_pos l.length
      rw [dif_pos h2]
      by_cases hi : i < half l.length
      · rw [if_pos hi]
        exact okh_app (ih (half l.length) (by omega) (by rw [List.length_take]; omega) (okh_take h _)) (okh_one (rt_len (okh_drop h _)))
      · rw [if_neg hi]
        exact okh_app (ih (l.length - half l.length) (by omega) (by rw [List.length_drop]) (okh_drop h _)) (okh_one (rt_len (okh_take h _)))
    · rw [dif_neg h2]; exact okh_nil
theorem path_len : ∀ (n : Nat) {l : List H} {i : Nat}, l.length = n → (pathP i l).length ≤ n := by
  intro n
  induction n using Nat.strongRecOn with
  | ind n ih =>
    intro l i hn
    unfold pathP
    rw [path]
    by_cases h2 : 2 ≤ l.length
    · have hk := half_lt h2
      have hp := half_pos l.length
      rw [dif_pos h2]
      by_cases hi : i < half l.length
      · rw [if_pos hi, List.length_append]
        have := ih (half l.length) (by omega) (l := l.take (half l.length)) (i := i) (by rw [List.length_take]; omega)
        unfold pathP at this
        simp only [List.length_cons, List.length_nil]
        omega
      · rw [if_neg hi, List.length_append]
        have := ih (l.length - half l.length) (by omega) (l := l.drop (half l.length)) (i := i - half l.length) (by rw [List.length_drop])
        unfold pathP at this
        simp only [List.length_cons, List.length_nil]
        omega
    · rw [dif_neg h2]; simp

theorem infoHashZ' : ∃ ie, Tryd.prog.info? 27 = some ie ∧ ie.size = 32 ∧ ie.zero = some (.agg (Dig.Z32.map (Value.int .u8)).toArray) := by
  have h : (Tryd.prog.info? 27).map (fun i => (i.zero, i.size)) = some (some (.agg (Dig.Z32.map (Value.int .u8)).toArray), 32) := by kernel_rfl
  cases hi : Tryd.prog.info? 27 with
  | none => rw [hi] at h; cases h
  | some ie =>
    rw [hi] at h
    simp only [Option.map_some, Option.some.injEq, Prod.mk.injEq] at h
    exact ⟨ie, rfl, h.2, h.1⟩
/-- A slice of one digest. -/
theorem wpList_lit1 {ops : Array Oper} {rest : List Oper} {o : Oper} {a : Act} {w : World} {Q : Exit → Act → World → Prop} (hg : o.guard = none) (x : Operand) (ho : o.op = .buildSlice 22 1 #[(0, x)])
    (r : H) (hr : r.length = 32) (hx : a.eval x = .agg (r.map (Value.int .u8)).toArray)
    (h : wpList Tryd.prog ops Q rest (a.put o.dst (.slice (some ⟨w.heap.size, 0, none⟩) 1 1)) (w.alloc (.cells (cellsH [r]).toArray 27))) : wpList Tryd.prog ops Q (o :: rest) a w := by
  obtain ⟨ie, i1, i2, i3⟩ := infoHashZ'
  refine wpList_buildSlice hg 22 27 1 #[(0, x)] ho (cellsH [r]).toArray ie _ Tryd.underlying22 i1 i3 (by rw [i2]; decide) (by rw [i2]; decide) ?_ h
  have e : (#[(0, x)].map fun (p : Nat × Operand) => (p.1, a.eval p.2)).toList = (([Value.agg (r.map (Value.int .u8)).toArray] : List Value).zipIdx 0).map fun y => (y.2, y.1) := by
    simp [hx]
  have e2 := Great.fill_whole (s := 32) (by decide) [Value.agg (r.map (Value.int .u8)).toArray] ((Array.range (1 * 32)).map ((Value.agg (Dig.Z32.map (Value.int .u8)).toArray).cells[· % (Value.agg (Dig.Z32.map (Value.int .u8)).toArray).cells.size]!)) (by intro v hv; simp at hv; rw [hv]; simp [Value.cells, hr]) (by simp)
  rw [i2]
  show Instr.fill _ _ (#[(0, x)].map fun (p : Nat × Operand) => (p.1, a.eval p.2)).toList = _
  rw [e, e2]
  simp [cellsH, Value.cells]

theorem root_a (n : Nat) {w : World} {t cnt f : Nat} {O : Nat → Prop} {l : List H} (h : IsTree w t O cnt l) (hT : Tab w) (h1 : 1 ≤ n) (hl : f + n ≤ l.length) (ha : Al f n) (hm : l.length ≤ 1048576) :
    Calls Tryd.prog 28 #[.pointer (some ⟨t, 0, none⟩), .int .i64 (f : Nat), .int .i64 (n : Nat)] w fun e w' => e = .returned (.agg ((rt (seg l f n)).map (Value.int .u8)).toArray) ∧ Below w.heap.size w w' := root_any n h hT h1 hl ha hm

/-- What a path's function promises. -/
def PathPost (w : World) (hs : List H) (e : Ending) (w' : World) : Prop := ∃ sp c, e = .returned (.slice sp hs.length c) ∧ OwnV 27 32 w' (fun b => w.heap.size ≤ b) (.slice sp hs.length c) hs.length (cellsH hs) ∧ Below w.heap.size w w'

set_option maxRecDepth 100000 in
set_option maxHeartbeats 4000000 in
theorem path_any : ∀ (n : Nat) {w : World} {t cnt f i : Nat} {O : Nat → Prop} {l : List H}, IsTree w t O cnt l → Tab w → 1 ≤ n → f + n ≤ l.length → Al f n → l.length ≤ 1000000 → i < n →
    Calls Tryd.prog 31 #[.pointer (some ⟨t, 0, none⟩), .int .i64 (i : Nat), .int .i64 (f : Nat), .int .i64 (n : Nat)] w (PathPost w (pathP i (seg l f n))) := by
  intro n
  induction n using Nat.strongRecOn with
  | ind n ih =>
    intro w t cnt f i O l h hT h1 hl ha hm hi
    have H0 := Hid2.mk h
    have HT := Hid2.mk hT
    have hok := h.ok
    have Hih := Hid2.mk ih
    have Hl := Hid2.mk hl
    have Ha := Hid2.mk ha
    have hn : n ≤ 1000000 := by omega
    have hf : f ≤ 1000000 := by omega
    clear h hT ih hl ha
    by_cases hn1 : n = 1
    · subst hn1
      have hp : pathP i (seg l f 1) = [] := path_one (by rw [seg_len Hl.out]; omega)
      rw [hp]
      clear hp
      go_enter Tryd.func31, Tryd.ntmps31
      go_wp2_with fail
      go_ret
      exact ⟨none, 0, rfl, OwnV.nil _ _ _ _, Below.refl _ _⟩
    · have h2 : 2 ≤ n := by omega
      have hn2 : ((n : Int) == 1) = false := by simp; omega
      have hkl := half_lt h2
      have hkp := half_pos n
      by_cases hik : i < half n
      · have hp := path_left h2 Hl.out hik
        have Hp := Hid2.mk hp
        have hlt : (pathP i (seg l f (half n))).length ≤ half n := path_len (i := i) (half n) (by rw [seg_len (by have := Hl.out; omega)])
        have hokp : Okh (pathP i (seg l f (half n))) := okh_path (i := i) (half n) (by rw [seg_len (by have := Hl.out; omega)]) (okh_seg hok f _)
        have hrl := rt_len (okh_seg hok (f + half n) (n - half n))
        have Hal := Hid2.mk (And.intro (al_left Ha.out h2) (al_right Ha.out h2))
        clear hp hn1
        go_enter Tryd.func31, Tryd.ntmps31
        go_wp2_with fail
        refine (half_any n _ h2 (by omega)).mono ?_
        rintro e w' ⟨rfl, rfl⟩
        generalize hk : half n = k at hkl hkp hik Hp hlt hokp hrl Hal ⊢
        have hik2 : (i : Int) < k := by omega
        clear hk
        go_wp2_with fail
        refine (Hih.out k hkl H0.out HT.out hkp (by have := Hl.out; omega) Hal.out.1 hm hik).mono ?_
        rintro e w2 ⟨sp, c, rfl, hown, hb2⟩
        generalize pathP i (seg l f k) = P at Hp hlt hokp hown ⊢
        have Hown := Hid2.mk hown
        have Hb2 := Hid2.mk hb2
        have H2 := Hid2.mk (H0.out.below hb2 (Nat.le_refl _))
        have HT2 := Hid2.mk (HT.out.below hb2 (Nat.le_refl _))
        clear hown hb2
        go_wp2_with fail
        have e1 : (f : Int) + k = ((f + k : Nat) : Int) := by omega
        have e2 : (n : Int) - k = ((n - k : Nat) : Int) := by omega
        rw [e1, e2]
        refine (root_a (n - k) H2.out HT2.out (by omega) (by have := Hl.out; omega) Hal.out.2 (by omega)).mono ?_
        rintro e w3 ⟨rfl, hb3⟩
        generalize rt (seg l (f + k) (n - k)) = r at Hp hrl ⊢
        have Hown3 := Hid2.mk (Hown.out.keep (Keep.of_below hb3) (fun g hg => Hown.out.lt hg))
        have Hb3 := Hid2.mk (Hb2.out.trans (hb3.mono Hb2.out.size))
        have hs3 : w.heap.size ≤ w3.heap.size := Hb3.out.size
        have HownA := Hid2.mk (Hown3.out.alloc (.cells (cellsH [r]).toArray 27))
        have Hsl := Hid2.mk (SlV.fresh w3 (fun _ => True) 27 (m := 32) (n := 1) (l := cellsH [r]) (by rw [cellsH_len (okh_one hrl)]; rfl) (ones_cellsH _) trivial (by unfold maxLen; omega))
        have HbA := Hid2.mk (Hb3.out.alloc hs3 (.cells (cellsH [r]).toArray 27))
        have Hrl := Hid2.mk hrl
        have hlt2 : P.length ≤ 1000000 := by omega
        clear hb3 e1 e2 H2 HT2 Hown Hb2 hlt hrl
        go_wp2_with (first | (refine wpList_lit1 rfl (.tmp 29) rfl r Hrl.out rfl ?_
                              refine wpList_appV rfl (.tmp 21) (.tmp 30) 22 rfl elemHash rfl HownA.out rfl Hsl.out (n' := P.length + 1) rfl (by unfold maxLen; omega) (by omega) ?_
                              intro sp5 c5 w5 hown5 hg5 hat5))
        have hbf : Below w.heap.size w w5 := own_below2 (w1 := w) HbA.out hg5 (fun g e => HownA.out.own e)
        have Hbf := Hid2.mk hbf
        have Hfin := Hid2.mk hown5
        clear hg5 hat5 hbf hown5
        go_wp2_with fail
        go_ret
        rw [Hp.out]
        have hlen : (P ++ [r]).length = P.length + 1 := by simp
        unfold PathPost
        rw [hlen, cellsH_app]
        refine ⟨sp5, c5, rfl, Hfin.out.mono (fun b hb => ?_), Hbf.out⟩
        rcases hb with hb | hb
        · exact hb
        · rw [hb]; exact HbA.out.size
      · have hp := path_right h2 Hl.out hik
        have Hp := Hid2.mk hp
        have hlt : (pathP (i - half n) (seg l (f + half n) (n - half n))).length ≤ n - half n := path_len (i := i - half n) (n - half n) (by rw [seg_len (by have := Hl.out; omega)])
        have hrl := rt_len (okh_seg hok f (half n))
        have Hal := Hid2.mk (And.intro (al_left Ha.out h2) (al_right Ha.out h2))
        clear hp hn1
        go_enter Tryd.func31, Tryd.ntmps31
        go_wp2_with fail
        refine (half_any n _ h2 (by omega)).mono ?_
        rintro e w' ⟨rfl, rfl⟩
        generalize hk : half n = k at hkl hkp hik Hp hlt hrl Hal ⊢
        have hik2 : (k : Int) ≤ i := by omega
        have hii : (i : Int) < n := by omega
        clear hk
        go_wp2_with fail
        have e1 : (f : Int) + k = ((f + k : Nat) : Int) := by omega
        have e2 : (n : Int) - k = ((n - k : Nat) : Int) := by omega
        have e3 : (i : Int) - k = ((i - k : Nat) : Int) := by omega
        rw [e1, e2, e3]
        refine (Hih.out (n - k) (by omega) H0.out HT.out (by omega) (by have := Hl.out; omega) Hal.out.2 hm (by omega)).mono ?_
        rintro e w2 ⟨sp, c, rfl, hown, hb2⟩
        clear e1 e2 e3
        generalize pathP (i - k) (seg l (f + k) (n - k)) = P at Hp hlt hown ⊢
        have Hown := Hid2.mk hown
        have Hb2 := Hid2.mk hb2
        have H2 := Hid2.mk (H0.out.below hb2 (Nat.le_refl _))
        have HT2 := Hid2.mk (HT.out.below hb2 (Nat.le_refl _))
        clear hown hb2
        go_wp2_with fail
        refine (root_a k H2.out HT2.out hkp (by have := Hl.out; omega) Hal.out.1 (by omega)).mono ?_
        rintro e w3 ⟨rfl, hb3⟩
        generalize rt (seg l f k) = r at Hp hrl ⊢
        have Hown3 := Hid2.mk (Hown.out.keep (Keep.of_below hb3) (fun g hg => Hown.out.lt hg))
        have Hb3 := Hid2.mk (Hb2.out.trans (hb3.mono Hb2.out.size))
        have hs3 : w.heap.size ≤ w3.heap.size := Hb3.out.size
        have HownA := Hid2.mk (Hown3.out.alloc (.cells (cellsH [r]).toArray 27))
        have Hsl := Hid2.mk (SlV.fresh w3 (fun _ => True) 27 (m := 32) (n := 1) (l := cellsH [r]) (by rw [cellsH_len (okh_one hrl)]; rfl) (ones_cellsH _) trivial (by unfold maxLen; omega))
        have HbA := Hid2.mk (Hb3.out.alloc hs3 (.cells (cellsH [r]).toArray 27))
        have Hrl := Hid2.mk hrl
        have hlt2 : P.length ≤ 1000000 := by omega
        clear hb3 H2 HT2 Hown Hb2 hlt hrl
        go_wp2_with (first | (refine wpList_lit1 rfl (.tmp 46) rfl r Hrl.out rfl ?_
                              refine wpList_appV rfl (.tmp 42) (.tmp 47) 22 rfl elemHash rfl HownA.out rfl Hsl.out (n' := P.length + 1) rfl (by unfold maxLen; omega) (by omega) ?_
                              intro sp5 c5 w5 hown5 hg5 hat5))
        have hbf : Below w.heap.size w w5 := own_below2 (w1 := w) HbA.out hg5 (fun g e => HownA.out.own e)
        have Hbf := Hid2.mk hbf
        have Hfin := Hid2.mk hown5
        clear hg5 hat5 hbf hown5
        go_wp2_with fail
        go_ret
        rw [Hp.out]
        have hlen : (P ++ [r]).length = P.length + 1 := by simp
        unfold PathPost
        rw [hlen, cellsH_app]
        refine ⟨sp5, c5, rfl, Hfin.out.mono (fun b hb => ?_), Hbf.out⟩
        rcases hb with hb | hb
        · exact hb
        · rw [hb]; exact HbA.out.size

end Mk
end Go.Proofs.YtfdgclnjpbkggaaDoor
