/- The law MerkleTells, walked. -/
import Derived.Test.YtfdgclnjpbkggaaDoorMkZn
import Derived.Test.YtfdgclnjpbkggaaDoorMkN
import Derived.Test.YtfdgclnjpbkggaaDoorMkW
import Derived.Test.YtfdgclnjpbkggaaDoorMkF
namespace Go.Proofs.YtfdgclnjpbkggaaDoor
open Go.RowKit Go.Maps BigFrame

/-- A cell of an old block that holds a slice. -/
theorem quiet_cellB {P : Program} {o : Oper} {a : Act} {w : World} {K : Act → Prop} (ty : TypeId) (x : Operand) (ho : o.op = .load ty x)
    (p : Addr) (hx : a.eval x = .pointer (some p)) (v : Value) (hc : w.cell? p = some v) (hlt : p.block < w.heap.size) (e : TypeId)
    (hu : P.underlying ty = some (.slice e)) (hk : K (a.put o.dst v)) : o.quiet P a (fun w' => Below w.heap.size w w') K := by
  refine ⟨_, fun w' hw' => ?_, hk⟩
  have hc' : w'.cell? p = some v := by rw [hw'.cell hlt]; exact hc
  have hagg : (isAgg ty).run P w' = .ok false w' := by
    unfold isAgg
    rw [Sem.run_bind, run_underlying hu w']
    rfl
  have hr : (loadVar ty p).run P w' = .ok v w' := by simp [loadVar, hagg, go_sem, hc']
  unfold Oper.quietAt execOp
  simp only [ho, hx, Instr.loadAt, Instr.sureAddr, Sem.run_bind, Sem.run_pure, Result.andThen_ok, hr]
  exact ⟨rfl, rfl⟩

namespace Mk

def tA (w : World) (l a b : H) : World := ((w.alloc (.cells (l.map (Value.int .u8)).toArray 27)).alloc (.cells (a.map (Value.int .u8)).toArray 27)).alloc (.cells (b.map (Value.int .u8)).toArray 27)
theorem tA_size (w : World) (l a b : H) : (tA w l a b).heap.size = w.heap.size + 1 + 1 + 1 := by simp [tA]
theorem tA_new (w : World) (l a b : H) :
    Below w.heap.size w (tA w l a b) ∧ VBlk 27 (tA w l a b) w.heap.size (l.map (Value.int .u8)) ∧ VBlk 27 (tA w l a b) (w.heap.size + 1) (a.map (Value.int .u8)) ∧ VBlk 27 (tA w l a b) (w.heap.size + 1 + 1) (b.map (Value.int .u8)) := by
  refine ⟨(((Below.refl _ w).alloc (Nat.le_refl _) _).alloc (by simp) _).alloc (by simp; omega) _, ((VBlk.mk w _ _).alloc _).alloc _, ?_, ?_⟩
  · have := VBlk.mk (w.alloc (.cells (l.map (Value.int .u8)).toArray 27)) (a.map (Value.int .u8)) 27
    rw [show (w.alloc (.cells (l.map (Value.int .u8)).toArray 27)).heap.size = w.heap.size + 1 from by simp] at this
    exact this.alloc _
  · have := VBlk.mk ((w.alloc (.cells (l.map (Value.int .u8)).toArray 27)).alloc (.cells (a.map (Value.int .u8)).toArray 27)) (b.map (Value.int .u8)) 27
    rw [show ((w.alloc (.cells (l.map (Value.int .u8)).toArray 27)).alloc (.cells (a.map (Value.int .u8)).toArray 27)).heap.size = w.heap.size + 1 + 1 from by simp] at this
    exact this

set_option maxRecDepth 100000 in
set_option maxHeartbeats 8000000 in
theorem tells_any {v : Value} {O : Nat → Prop} {leaf a b : H} {p : List H} (i size old : Int) (w : World) (hl : leaf.length = 32) (hs : HS w O v p) (hla : a.length = 32) (hlb : b.length = 32) (hT : Tab w) :
    Calls Tryd.prog 7 #[.agg (leaf.map (Value.int .u8)).toArray, .int .i64 i, .int .i64 size, .int .i64 old, v, .agg (a.map (Value.int .u8)).toArray, .agg (b.map (Value.int .u8)).toArray] w fun e w' => e = .returned (.bool true) ∧ Below w.heap.size w w' := by
  have hz := zeroHash
  have hzp := zeroProof
  obtain ⟨hb, hL, hA, hB⟩ := tA_new w leaf a b
  have HS0 := Hid2.mk (hs.below hb (Nat.le_refl _))
  have HT := Hid2.mk (hT.below hb (Nat.le_refl _))
  have HL := Hid2.mk hL
  have HA := Hid2.mk hA
  have HBb := Hid2.mk hB
  have HB := Hid2.mk hb
  obtain ⟨sp, cap, rfl, hc, hc'⟩ := hs.form
  clear hb hL hA hB hs hT
  by_cases hbig : (80 : Int) < p.length
  · go_enter Tryd.func7, Tryd.ntmps7
    go_wp2_with fail
    go_ret
    exact ⟨rfl, HB.out⟩
  · have hsm : p.length ≤ 80 := by omega
    have HE := Hid2.mk (Below.alloc (Below.refl _ (tA w leaf a b)) (Nat.le_refl _) (.cells #[] 27))
    have Hs0 := Hid2.mk ((HS0.out.below HE.out (Nat.le_refl _)).2)
    have hown0 := OwnV.empty (tA w leaf a b) 27 32
    have hts := tA_size w leaf a b
    rw [hts] at hown0
    have Hown0 := Hid2.mk hown0
    have Hts := Hid2.mk hts
    have hnn : (p.length : Int) ≤ 80 := by omega
    clear hown0 hts
    go_enter Tryd.func7, Tryd.ntmps7
    go_wp2_with (first
      | (refine wpList_appV rfl (.tmp 20) (.tmp 21) 22 rfl elemHash rfl Hown0.out rfl Hs0.out (n' := p.length) (Nat.zero_add _) (by unfold maxLen; omega) (by omega) ?_
         intro sp3 c3 w3 hown3 hg3 hat3
         have hb3 : Below (tA w leaf a b).heap.size (tA w leaf a b) w3 := own_below2 HE.out hg3 (fun g e => by have e2 : w.heap.size + 1 + 1 + 1 = g := Option.some.inj e; have := Hts.out; omega)
         have Hown3 := Hid2.mk (hown3.mono (O' := fun _ => True) (fun _ _ => trivial))
         have Hb3 := Hid2.mk hb3
         clear hown3 hg3 hat3 hb3))
    have hb5 : Below w3.heap.size w3 ((w3.alloc (.cells #[.slice sp3 p.length c3] 40)).alloc (.cells #[.slice sp p.length cap] 40)) := ((Below.refl _ _).alloc (Nat.le_refl _) _).alloc (by simp) _
    have QX := Hid2.mk ((VBlk.mk w3 [.slice sp3 p.length c3] 40).alloc (.cells #[.slice sp p.length cap] 40))
    have qy := VBlk.mk (w3.alloc (.cells #[.slice sp3 p.length c3] 40)) [.slice sp p.length cap] 40
    rw [show (w3.alloc (.cells #[.slice sp3 p.length c3] 40)).heap.size = w3.heap.size + 1 from by simp] at qy
    have QY := Hid2.mk qy
    have hx3 := OwnV.hs Hown3.out HS0.out.1 rfl
    have hbb := Hb3.out.trans (hb5.mono Hb3.out.size)
    have HX5 := Hid2.mk (hx3.below hb5 (Nat.le_refl _))
    have HP5 := Hid2.mk (HS0.out.below hbb (Nat.le_refl _))
    have HT5 := Hid2.mk (HT.out.below hbb (Nat.le_refl _))
    have HL5 := Hid2.mk (HL.out.below hbb HL.out.lt)
    have HA5 := Hid2.mk (HA.out.below hbb HA.out.lt)
    have HBb5 := Hid2.mk (HBb.out.below hbb HBb.out.lt)
    have HB5 := Hid2.mk (HB.out.trans (hbb.mono HB.out.size))
    generalize World.alloc (World.alloc w3 _) _ = w5 at QX QY HX5 HP5 HT5 HL5 HA5 HBb5 HB5 ⊢
    clear hb5 qy hx3 hbb Hown3 Hb3 HS0 HT HL HA HBb HB HE Hs0 Hown0 Hts
    have cX := QX.out.cell 0 (by simp)
    simp only [List.getD_cons_zero] at cX
    have CX := Hid2.mk cX
    clear cX
    obtain ⟨vp, hvp⟩ : ∃ x, verP leaf i size p b = x := ⟨_, rfl⟩
    obtain ⟨vc, hvc⟩ : ∃ x, vconP old size p a b = x := ⟨_, rfl⟩
    have Hvp := Hid2.mk hvp
    have Hvc := Hid2.mk hvc
    clear hvp hvc
    refine wp_region_quietB (by kernel_rfl) (by kernel_rfl) ?_
    repeat (first | go_big_quiet_skip | (go_big_quiet_want; refine quiet_loadB 27 (.tmp 7) rfl w.heap.size rfl 27 (leaf.map (Value.int .u8)).toArray (0, 0) _ HL5.out Tryd.underlying27 rfl (infoH leaf hl) ?_; go_simp; go_big_quiet_on) | (go_big_quiet_want; refine quiet_loadB 27 (.tmp 12) rfl (w.heap.size + 1) rfl 27 (a.map (Value.int .u8)).toArray (0, 0) _ HA5.out Tryd.underlying27 rfl (infoH a hla) ?_; go_simp; go_big_quiet_on) | (go_big_quiet_want; refine quiet_loadB 27 (.tmp 13) rfl (w.heap.size + 1 + 1) rfl 27 (b.map (Value.int .u8)).toArray (0, 0) _ HBb5.out Tryd.underlying27 rfl (infoH b hlb) ?_; go_simp; go_big_quiet_on) | (go_big_quiet_want; refine quiet_loadB 40 (.tmp 15) rfl w3.heap.size rfl 40 #[.slice sp3 p.length c3] (0, 0) _ QX.out Tryd.underlying40 rfl infoProof ?_; go_simp; go_big_quiet_on) | (go_big_quiet_want; refine quiet_loadB 40 (.tmp 16) rfl (w3.heap.size + 1) rfl 40 #[.slice sp p.length cap] (0, 0) _ QY.out Tryd.underlying40 rfl infoProof ?_; go_simp; go_big_quiet_on) | (go_big_quiet_want; refine quiet_cellB 22 (.tmp 55) rfl ⟨w3.heap.size, 0, none⟩ rfl _ CX.out QX.out.lt _ Tryd.underlying22 ?_; go_simp; go_big_quiet_on) | (go_big_quiet_want; go_big_quiet_op; first | go_big_quiet_on | (refine ⟨_, fun _ _ => rfl, ?_⟩; go_big_quiet_on) | (apply Exists.intro; refine ⟨fun _ hB => ?_, ?_⟩; (focus (first | (go_at_call 22; exact callB hB ((verify_any (HX5.out.below hB (Nat.le_refl _)) hl hlb i size).mono (fun e w' h => by rw [Hvp.out] at h; exact h))) | (go_at_call 23; exact callB hB ((refVerify_any (HP5.out.below hB (Nat.le_refl _)) hl hlb i size).mono (fun e w' h => by rw [Hvp.out] at h; exact h))) | (go_at_call 24; exact callB hB ((vcon_any (HX5.out.below hB (Nat.le_refl _)) hla hlb old size).mono (fun e w' h => by rw [Hvc.out] at h; exact h))) | (go_at_call 25; exact callB hB ((refVcon_any (HP5.out.below hB (Nat.le_refl _)) hla hlb old size).mono (fun e w' h => by rw [Hvc.out] at h; exact h))) | (go_at_call 19; exact callB hB (hashes_same (HX5.out.below hB (Nat.le_refl _)) (HP5.out.below hB (Nat.le_refl _)))) | (go_at_call 12; exact callB hB (known_any _ (HT5.out.below hB (Nat.le_refl _)))))); go_big_quiet_on)))
    refine wpQuiet_nil ?_
    intro w' hw'
    have hbf : Below w.heap.size w w' := HB5.out.trans (hw'.mono HB5.out.size)
    clear hw'
    go_wp2_with fail
    go_ret
    exact ⟨rfl, hbf⟩

end Mk
end Go.Proofs.YtfdgclnjpbkggaaDoor
