/- Chapter 14: heavy. -/
import Derived.Test.YtdaljjicekheiaaCatArgs
namespace Go.Proofs.Ytdaljjicekheiaa
open Go.RowKit Go.Maps
namespace Cat

theorem entInfo : (Try.prog.info? 37).map (·.size) = some 46 := by kernel_rfl

/-- Many cells at once, out of the middle of a block. -/
theorem wpList_load_arr {P : Program} {ops : Array Oper} {rest : List Oper} {op : Oper} {a : Act} {w : World} {Q : Exit → Act → World → Prop} (hgd : op.guard = none) (ty : TypeId) (x : Operand) (ho : op.op = .load ty x)
    (b o : Nat) (hx : a.eval x = .pointer (some ⟨b, o, none⟩)) (cs : Array Value) (d : TypeDesc) (hc : w.rangeAt b o cs.toList)
    (hu : P.underlying ty = some d) (hd : d.isRow = true) (hi : (P.info? ty).map (·.size) = some cs.size)
    (h : wpList P ops Q rest (a.put op.dst (.agg cs)) w) : wpList P ops Q (op :: rest) a w :=
  wpList_load_mid hgd ty x ho b o hx cs.toList d hc hu hd (by rw [hi, Array.length_toList]) (by rw [Array.toArray_toList]; exact h)

/-- The place of an entry. -/
theorem ents_at {w : World} {v : Value} {l : List En} (h : Ents w v l) (k : Nat) (hk : k < l.length) :
    ∃ b o cap, v = .slice (some ⟨b, o, none⟩) l.length cap ∧ l.length ≤ cap ∧ cap ≤ 9223372036854775807 ∧ b < w.heap.size ∧ (l.getD k noEn).ok ∧ w.rangeAt b (o + k * 46) (l.getD k noEn).cs.toList ∧
      w.cell? ⟨b, o + k * 46, none⟩ = some (.int .i64 (l.getD k noEn).kind) ∧ w.cell? ⟨b, o + k * 46 + 1, none⟩ = some (.string (l.getD k noEn).txt) ∧ w.cell? ⟨b, o + k * 46 + 2, none⟩ = some (.int .i64 (l.getD k noEn).tbl) := by
  obtain ⟨sp, cap, rfl, h1, h2, h3, h4⟩ := h
  obtain ⟨b, o, rfl, hb, hr⟩ := h4 (by omega)
  have hE : Ent _ _ _ _ := h3 k hk
  have hk' := hr k hk
  exact ⟨b, o, cap, rfl, h1, h2, hb, h3 k hk, hk', hk' 0 _ (by rw [Array.getElem?_toList]; exact hE.hk), hk' 1 _ (by rw [Array.getElem?_toList]; exact hE.htx), hk' 2 _ (by rw [Array.getElem?_toList]; exact hE.htb)⟩

set_option maxHeartbeats 2000000 in
theorem heavy_any {v : Value} {l : List En} (w : World) (h : Ents w v l) : Calls Try.prog 10 #[v] w fun e w' => ∃ b, e = .returned (.bool b) ∧ w' = w := by
  have H := Hid2.mk h
  obtain ⟨sp, cap, rfl, hcap, hcap2, -, -⟩ := h
  go_enter Try.func10, Try.ntmps10
  go_wp2_with fail
  go_loopw [3, 4] (fun n i wr => ∃ (x : Int) (k : Nat), n = .int .i64 x ∧ k ≤ l.length ∧ i = .int .i64 (k : Nat) ∧ wr = w) (fun _ i _ => l.length - (intOf i).toNat)
  case atStart => exact ⟨0, 0, rfl, by omega, rfl, rfl⟩
  case round =>
    obtain ⟨x, k, rfl, hk, rfl, rfl⟩ := hrel
    by_cases hkl : k < l.length
    · have g1 : (k : Int) < l.length := by omega
      by_cases h150 : k < 150
      · have g2 : (k : Int) < 150 := by omega
        obtain ⟨b, o, cap', hv, -, -, hb, -, -, -, x1, -⟩ := ents_at H.out k hkl
        obtain ⟨rfl, rfl⟩ : sp = some ⟨b, o, none⟩ ∧ cap = cap' := by simpa using hv
        obtain ⟨y, hy⟩ : ∃ y, IntKind.i64.wrap (x + ((l.getD k noEn).txt.size : Int)) = y := ⟨_, rfl⟩
        generalize (l.getD k noEn).txt = t at x1 hy
        clear hv
        by_cases g3 : (10000 : Int) < y
        · go_wp2_with fail
          go_ret
          exact ⟨true, rfl, rfl⟩
        · go_wp2_with fail
          go_roundw
          case rel =>
            refine ⟨y, k + 1, ?_, by omega, by go_num, ?_⟩ <;> first | rfl | trivial
          case measure => simp [intOf]; omega
      · have g2 : decide ((k : Int) < 150) = false := decide_eq_false (by omega)
        go_wp2_with fail
        go_ret
        exact ⟨false, rfl, rfl⟩
    · have g1 : decide ((k : Int) < l.length) = false := decide_eq_false (by omega)
      go_wp2_with fail
      go_ret
      exact ⟨false, rfl, rfl⟩

end Cat
end Go.Proofs.Ytdaljjicekheiaa
