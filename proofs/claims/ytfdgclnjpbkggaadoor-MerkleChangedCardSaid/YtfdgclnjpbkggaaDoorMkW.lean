/- Chapter 10: hashes: two rows of digests compared. -/
import Derived.Test.YtfdgclnjpbkggaaDoorMkG
namespace Go.Proofs.YtfdgclnjpbkggaaDoor
open Go.RowKit Go.Maps BigFrame

/-- Many cells at once out of the middle of an old block. -/
theorem quiet_midB {P : Program} {o : Oper} {a : Act} {w : World} {K : Act → Prop} (ty : TypeId) (x : Operand) (ho : o.op = .load ty x)
    (b off : Nat) (hx : a.eval x = .pointer (some ⟨b, off, none⟩)) (cs : List Value) (d : TypeDesc) (hc : w.rangeAt b off cs) (hlt : b < w.heap.size)
    (hu : P.underlying ty = some d) (hd : d.isRow = true) (hi : (P.info? ty).map (·.size) = some cs.length)
    (hk : K (a.put o.dst (.agg cs.toArray))) : o.quiet P a (fun w' => Below w.heap.size w w') K := by
  refine ⟨_, fun w' hw' => ?_, hk⟩
  have hc' : w'.rangeAt b off cs := fun j v hv => by rw [hw'.cell (p := ⟨b, off + j, none⟩) hlt]; exact hc j v hv
  unfold Oper.quietAt execOp
  simp only [ho, hx, Instr.loadAt, Instr.sureAddr, Sem.run_bind, Sem.run_pure, Result.andThen_ok, run_loadVar_mid w' b off ty cs d hc' hu hd hi]
  exact ⟨rfl, rfl⟩

namespace Mk

set_option maxRecDepth 100000 in
set_option maxHeartbeats 2000000 in
theorem hashes_same {w : World} {O1 O2 : Nat → Prop} {v1 v2 : Value} {hs : List H} (h1 : HS w O1 v1 hs) (h2 : HS w O2 v2 hs) :
    Calls Tryd.prog 19 #[v1, v2] w fun e w' => e = .returned (.bool true) ∧ Below w.heap.size w w' := by
  have H1 := Hid2.mk h1
  have H2 := Hid2.mk h2
  obtain ⟨sp1, cap1, rfl, hc1, hc1'⟩ := h1.form
  obtain ⟨sp2, cap2, rfl, hc2, hc2'⟩ := h2.form
  clear h1 h2
  have hne0 : ((hs.length : Int) != (hs.length : Int)) = false := by simp
  go_enter Tryd.func19, Tryd.ntmps19
  go_wp2_with fail
  go_loopw [5] (fun i wr => ∃ k : Nat, k ≤ hs.length ∧ i = .int .i64 (k : Nat) ∧ Below w.heap.size w wr) (fun i _ => hs.length - (intOf i).toNat)
  case atStart => exact ⟨0, by omega, rfl, Below.refl _ _⟩
  case round =>
    obtain ⟨k, hk, rfl, hbr⟩ := hrel
    have Hbr := Hid2.mk hbr
    clear hbr
    by_cases hkl : k < hs.length
    · have g1 : (k : Int) < hs.length := by omega
      obtain ⟨b1, o1, cap1', hv1, -, -, hb1, -, h32, hr1⟩ := (H1.out.below Hbr.out (Nat.le_refl _)).at k hkl
      obtain ⟨rfl, rfl⟩ : sp1 = some ⟨b1, o1, none⟩ ∧ cap1 = cap1' := by simpa using hv1
      obtain ⟨b2, o2, cap2', hv2, -, -, hb2, -, -, hr2⟩ := (H2.out.below Hbr.out (Nat.le_refl _)).at k hkl
      obtain ⟨rfl, rfl⟩ : sp2 = some ⟨b2, o2, none⟩ ∧ cap2 = cap2' := by simpa using hv2
      generalize hs.getD k [] = x at h32 hr1 hr2
      have Hr1 := Hid2.mk hr1
      have Hr2 := Hid2.mk hr2
      have Hi := Hid2.mk (show (Tryd.prog.info? 27).map (·.size) = some (x.map (Value.int .u8)).length by rw [infoHash, List.length_map, h32])
      have hne : ∀ W, (binOp .neq 27 (.agg (x.map (Value.int .u8)).toArray) (.agg (x.map (Value.int .u8)).toArray)).run Tryd.prog W = .ok (.bool false) W := fun W => by rw [neqH x x h32 h32 W]; simp
      clear hv1 hv2 hr1 hr2
      go_wp2_with fail
      refine wp_region_quietB (by kernel_rfl) (by kernel_rfl) ?_
      repeat (first | go_big_quiet_skip | (go_big_quiet_want; refine quiet_midB 27 (.tmp 19) rfl b1 (o1 + k * 32) rfl (x.map (Value.int .u8)) _ Hr1.out hb1 Tryd.underlying27 rfl Hi.out ?_; go_simp; go_big_quiet_on) | (go_big_quiet_want; refine quiet_midB 27 (.tmp 23) rfl b2 (o2 + k * 32) rfl (x.map (Value.int .u8)) _ Hr2.out hb2 Tryd.underlying27 rfl Hi.out ?_; go_simp; go_big_quiet_on) | (go_big_quiet_want; go_big_quiet_op; first | go_big_quiet_on | (refine ⟨_, fun _ _ => rfl, ?_⟩; go_big_quiet_on)))
      refine wpQuiet_nil ?_
      intro w' hw'
      have Hw' := Hid2.mk (Hbr.out.trans (hw'.mono Hbr.out.size))
      clear hw' hne Hr1 Hr2
      go_wp2_with fail
      go_roundw
      case rel => exact ⟨k + 1, by omega, by go_num, Hw'.out⟩
      case measure => simp [intOf]; omega
    · have g1 : (hs.length : Int) ≤ k := by omega
      go_wp2_with fail
      go_ret
      exact ⟨rfl, Hbr.out⟩

end Mk
end Go.Proofs.YtfdgclnjpbkggaaDoor
