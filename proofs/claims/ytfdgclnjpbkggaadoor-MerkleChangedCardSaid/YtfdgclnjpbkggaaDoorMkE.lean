/- Rows of digests; made. -/
import Derived.Test.YtfdgclnjpbkggaaDoorMkD
import Derived.Test.YtfdgclnjpbkggaaDoorArrEq
namespace Go.Proofs.YtfdgclnjpbkggaaDoor
open Go.RowKit Go.Maps

theorem wpList_load_arr {P : Program} {ops : Array Oper} {rest : List Oper} {op : Oper} {a : Act} {w : World} {Q : Exit → Act → World → Prop} (hgd : op.guard = none) (ty : TypeId) (x : Operand) (ho : op.op = .load ty x)
    (b o : Nat) (hx : a.eval x = .pointer (some ⟨b, o, none⟩)) (cs : List Value) (d : TypeDesc) (hc : w.rangeAt b o cs)
    (hu : P.underlying ty = some d) (hd : d.isRow = true) (hi : (P.info? ty).map (·.size) = some cs.length)
    (h : wpList P ops Q rest (a.put op.dst (.agg cs.toArray)) w) : wpList P ops Q (op :: rest) a w :=
  wpList_load_mid hgd ty x ho b o hx cs d hc hu hd hi h

namespace Mk

/-- The cells of digests, one behind another. -/
def cellsH (hs : List H) : List Value := hs.flatMap fun h => h.map (Value.int .u8)
theorem cellsH_app (a b : List H) : cellsH (a ++ b) = cellsH a ++ cellsH b := by simp [cellsH]
theorem cellsH_len {hs : List H} (h : Okh hs) : (cellsH hs).length = hs.length * 32 := by
  induction hs with
  | nil => rfl
  | cons a r ih =>
    have h1 := h a List.mem_cons_self
    have h2 := ih (fun x hx => h x (List.mem_cons_of_mem _ hx))
    have e : cellsH (a :: r) = a.map (Value.int .u8) ++ cellsH r := rfl
    rw [e, List.length_append, List.length_map, h1, h2, List.length_cons, Nat.add_mul]; omega
theorem cellsH_at {hs : List H} (h : Okh hs) : ∀ (k j : Nat), k < hs.length → j < 32 → (cellsH hs)[k * 32 + j]? = ((hs.getD k []).map (Value.int .u8))[j]? := by
  induction hs with
  | nil => intro k j hk; simp at hk
  | cons a r ih =>
    intro k j hk hj
    have h1 := h a List.mem_cons_self
    have e : cellsH (a :: r) = a.map (Value.int .u8) ++ cellsH r := rfl
    have hl : (a.map (Value.int .u8)).length = 32 := by rw [List.length_map, h1]
    rw [e]
    cases k with
    | zero => rw [Nat.zero_mul, Nat.zero_add, List.getElem?_append_left (by omega)]; rfl
    | succ k =>
      rw [List.getElem?_append_right (by omega), hl]
      have e2 : (k + 1) * 32 + j - 32 = k * 32 + j := by omega
      rw [e2, ih (fun x hx => h x (List.mem_cons_of_mem _ hx)) k j (by simpa using hk) hj]
      rfl
theorem ones_cellsH (hs : List H) : Ones (cellsH hs) := fun u hu => by
  unfold cellsH at hu
  obtain ⟨h, -, hu⟩ := List.mem_flatMap.1 hu
  obtain ⟨_, _, rfl⟩ := List.mem_map.1 hu
  rfl

/-- The slice v reads as the digests hs, out of blocks of O. -/
def HS (w : World) (O : Nat → Prop) (v : Value) (hs : List H) : Prop := Okh hs ∧ SlV w O 32 v hs.length (cellsH hs)
theorem HS.at {w : World} {O : Nat → Prop} {v : Value} {hs : List H} (h : HS w O v hs) (k : Nat) (hk : k < hs.length) :
    ∃ b o cap, v = .slice (some ⟨b, o, none⟩) hs.length cap ∧ hs.length ≤ cap ∧ cap ≤ 9223372036854775807 ∧ b < w.heap.size ∧ O b ∧ (hs.getD k []).length = 32 ∧ w.rangeAt b (o + k * 32) ((hs.getD k []).map (Value.int .u8)) := by
  obtain ⟨hok, hl, h1, sp, cap, rfl, h2, h3, h4, h5⟩ := h
  obtain ⟨b, o, rfl, hb, hO, hr⟩ := h5 (by omega)
  have h32 := okh_getD hok hk
  refine ⟨b, o, cap, rfl, h2, h3, hb, hO, h32, fun j u hu => ?_⟩
  have hj : j < 32 := by
    rcases Nat.lt_or_ge j 32 with h | h
    · exact h
    · rw [List.getElem?_eq_none (by rw [List.length_map, h32]; exact h)] at hu; cases hu
  have hkj : k * 32 + j < (cellsH hs).length := by rw [cellsH_len hok]; omega
  have := hr (k * 32 + j) hkj
  rw [Nat.add_assoc, this]
  rw [← cellsH_at hok k j hk hj] at hu
  simp [hu]
theorem HS.form {w : World} {O : Nat → Prop} {v : Value} {hs : List H} (h : HS w O v hs) : ∃ sp cap, v = .slice sp hs.length cap ∧ hs.length ≤ cap ∧ cap ≤ 9223372036854775807 := by
  obtain ⟨hok, hl, h1, sp, cap, rfl, h2, h3, -⟩ := h
  exact ⟨sp, cap, rfl, h2, h3⟩
theorem HS.keep {w w' : World} {O : Nat → Prop} {v : Value} {hs : List H} (h : HS w O v hs) {K : Nat → Prop} (hk : Keep K w w') (hK : ∀ b, O b → b < w.heap.size → K b) : HS w' O v hs := ⟨h.1, h.2.keep hk hK⟩
theorem HS.below {w w' : World} {O : Nat → Prop} {v : Value} {hs : List H} (h : HS w O v hs) {B : Nat} (hk : Below B w w') (hB : w.heap.size ≤ B) : HS w' O v hs := ⟨h.1, h.2.below hk hB⟩
theorem HS.mono {w : World} {O O' : Nat → Prop} {v : Value} {hs : List H} (h : HS w O v hs) (hO : ∀ b, O b → O' b) : HS w O' v hs := ⟨h.1, h.2.mono hO⟩

/-- A tree that the call has made. -/
def TRel (w : World) (t : Nat) (l : List H) (m : Nat) (wr : World) : Prop := ∃ O, IsTree wr t O m l ∧ Below w.heap.size w wr ∧ (∀ b, O b → w.heap.size ≤ b) ∧ w.heap.size ≤ wr.heap.size
theorem TRel.add {w : World} {t m : Nat} {l : List H} {h : H} {wr : World} (hr : TRel w t l m wr) (hh : h.length = 32) (hm : l.length ≤ 1000000) (hc : m ≤ 900000000) :
    Calls Tryd.prog 20 #[.pointer (some ⟨t, 0, none⟩), .agg (h.map (Value.int .u8)).toArray] wr fun e w' => e = .returned (.int .i64 (l.length : Nat)) ∧ TRel w t (l ++ [h]) (m + 22) w' := by
  obtain ⟨O, h1, h2, h3, h4⟩ := hr
  refine (add_any h1 hh hm hc).mono ?_
  rintro e w' ⟨rfl, h5, h6⟩
  exact ⟨rfl, O, h5, h2.trans (h6.mono fun b (hb : b < w.heap.size) => ⟨by omega, fun h => by have := h3 b h; omega⟩).below, h3, Nat.le_trans h4 h6.size⟩
theorem TRel.bel {w : World} {t m : Nat} {l : List H} {wr : World} (hr : TRel w t l m wr) : Below w.heap.size w wr := by obtain ⟨O, h1, h2, h3, h4⟩ := hr; exact h2
theorem TRel.size {w : World} {t m : Nat} {l : List H} {wr : World} (hr : TRel w t l m wr) : w.heap.size ≤ wr.heap.size := by obtain ⟨O, h1, h2, h3, h4⟩ := hr; exact h4
theorem TRel.below {w : World} {t m : Nat} {l : List H} {wr w' : World} (hr : TRel w t l m wr) (hb : Below wr.heap.size wr w') : TRel w t l m w' := by
  obtain ⟨O, h1, h2, h3, h4⟩ := hr
  exact ⟨O, h1.below hb (Nat.le_refl _), h2.trans (hb.mono h4), h3, Nat.le_trans h4 hb.size⟩

theorem take_snoc (hs : List H) (k : Nat) (hk : k < hs.length) : hs.take k ++ [hs.getD k []] = hs.take (k + 1) := by
  rw [List.take_succ_eq_append_getElem hk]
  simp [hk]

set_option maxRecDepth 100000 in
set_option maxHeartbeats 2000000 in
theorem made_any {w : World} {O : Nat → Prop} {v : Value} {hs : List H} (h : HS w O v hs) (hm : hs.length ≤ 1000000) :
    Calls Tryd.prog 10 #[v] w fun e w' => ∃ t, e = .returned (.tuple #[.pointer (some ⟨t, 0, none⟩), .bool true]) ∧ TRel w t hs (22 * hs.length) w' := by
  have HH := Hid2.mk h
  obtain ⟨sp, cap, rfl, hcap, hcap2⟩ := h.form
  clear h
  go_enter Tryd.func10, Tryd.ntmps10
  go_wp2_with fail
  refine (new_any _).mono ?_
  rintro e w1 ⟨O1, rfl, h1, hb1, ho1⟩
  have H1 : Hid2 (TRel w (w.heap.size + 1) [] 0 w1) := Hid2.mk ⟨O1, h1, hb1, ho1, hb1.size⟩
  generalize w.heap.size + 1 = t at H1 ⊢
  clear h1 hb1 ho1
  go_wp2_with fail
  go_loopw [5] (fun i wr => ∃ k : Nat, k ≤ hs.length ∧ i = .int .i64 (k : Nat) ∧ TRel w t (hs.take k) (22 * k) wr) (fun i _ => hs.length - (intOf i).toNat)
  case atStart => exact ⟨0, by omega, rfl, by rw [List.take_zero]; exact H1.out⟩
  case round =>
    obtain ⟨k, hk, rfl, hr⟩ := hrel
    have Hr := Hid2.mk hr
    clear hr
    by_cases hkl : k < hs.length
    · have g1 : (k : Int) < hs.length := by omega
      have hsr := HH.out.below Hr.out.bel (Nat.le_refl _)
      obtain ⟨b, o, cap', hv, -, -, hb, -, h32, hrow⟩ := hsr.at k hkl
      obtain ⟨rfl, rfl⟩ : sp = some ⟨b, o, none⟩ ∧ cap = cap' := by simpa using hv
      have hts := take_snoc hs k hkl
      generalize hs.getD k [] = x at h32 hrow hts
      have Hrow := Hid2.mk hrow
      have H32 := Hid2.mk h32
      have Hts := Hid2.mk hts
      have Hi := Hid2.mk (show (Tryd.prog.info? 27).map (·.size) = some (x.map (Value.int .u8)).length by rw [infoHash, List.length_map, h32])
      have hlt : (hs.take k).length = k := by rw [List.length_take]; omega
      have Hlt := Hid2.mk hlt
      clear hv hrow h32 hsr hts hlt
      go_wp2_with (refine wpList_load_mid rfl 27 (.tmp 18) rfl b (o + k * 32) rfl (x.map (Value.int .u8)) _ Hrow.out Tryd.underlying27 rfl Hi.out ?_)
      refine (Hr.out.add H32.out (by rw [Hlt.out]; omega) (by omega)).mono ?_
      rw [Hlt.out, Hts.out]
      rintro e w2 ⟨he, h2⟩
      subst he
      have H2 := Hid2.mk h2
      clear h2 Hr Hrow H32 Hts Hi Hlt
      have hne : ((k : Int) != (k : Int)) = false := by simp
      go_wp2_with fail
      go_roundw
      case rel => exact ⟨k + 1, by omega, by go_num, H2.out⟩
      case measure => simp [intOf]; omega
    · have g1 : (hs.length : Int) ≤ k := by omega
      obtain rfl : k = hs.length := by omega
      have Hr2 : Hid2 (TRel w t hs (22 * hs.length) wr) := Hid2.mk (by have := Hr.out; rwa [List.take_length] at this)
      obtain ⟨O2, h2, -⟩ := Hr2.out
      clear Hr
      go_wp2_with fail
      refine (size_any h2).mono ?_
      rintro e w2 ⟨rfl, rfl⟩
      go_wp2_with fail
      go_ret2
      exact ⟨t, rfl, Hr2.out⟩

end Mk
end Go.Proofs.YtfdgclnjpbkggaaDoor
