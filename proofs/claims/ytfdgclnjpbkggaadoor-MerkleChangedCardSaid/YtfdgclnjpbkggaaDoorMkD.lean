/- The tree of digests: Add. -/
import Derived.Test.YtfdgclnjpbkggaaDoorMkC
import Derived.Deep.MidRow
namespace Go.Proofs.YtfdgclnjpbkggaaDoor
open Go.RowKit Go.Maps

/-- Many cells at once, read in a region that draws its order. -/
theorem wpStill_load_row {P : Program} {ops : Array Oper} {w : World} {Q : Act → Prop} {a : Act} {o : Oper} {rest : List Oper} (hgd : o.guard = none) (ty : TypeId) (x : Operand) (ho : o.op = .load ty x)
    (b off : Nat) (hx : a.eval x = .pointer (some ⟨b, off, none⟩)) (cs : List Value) (d : TypeDesc) (hc : w.rangeAt b off cs) (hu : P.underlying ty = some d) (hd : d.isRow = true) (hi : (P.info? ty).map (·.size) = some cs.length)
    (h : wpStill P ops w Q rest (a.put o.dst (.agg cs.toArray))) : wpStill P ops w Q (o :: rest) a := by
  unfold wpStill
  rw [if_pos (by simp [Region.wanted, hgd])]
  unfold Oper.still execOp
  simp only [ho, hx, Instr.loadAt, Instr.sureAddr, Sem.run_bind, Sem.run_pure, Result.andThen_ok, run_loadVar_mid w b off ty cs d hc hu hd hi]
  exact ⟨rfl, h⟩
theorem range_vblk {T : TypeId} {w : World} {b : Nat} {l : List Value} (h : VBlk T w b l) : w.rangeAt b 0 l := fun j v hv => by
  have hj : j < l.length := by
    rcases Nat.lt_or_ge j l.length with h | h
    · exact h
    · simp [h] at hv
  rw [Nat.zero_add, h.cell j hj]
  simp [hj] at hv ⊢
  exact hv

namespace Mk

theorem odd_bit (p : Nat) (h : p < 1000000000) : bits BinOp.and IntKind.i64 (p : Int) 1 = ((p % 2 : Nat) : Int) := by
  have := bits_and_i64_nat p 1 (by omega) (by omega)
  rw [Nat.and_one_is_mod] at this
  exact this

/-- A store into the tree's map. -/
theorem put_whole {w : World} {mb n : Nat} {F : Int × Int → Option Value} (h : MF Tryd.prog 66 mk w mb n F) (hn : n < 1000000000) {a b : Int} (ok : okKey (a, b)) (v : Value) :
    ∃ w', (Instr.mapUpdate 55 (.map (some mb)) (.agg #[.int .i64 a, .int .i64 b]) v).run Tryd.prog w.drew = .ok () w' ∧ MF Tryd.prog 66 mk w' mb (n + 1) (mfPut F (a, b) v) ∧ Keep (fun x => x ≠ mb) w w' := by
  obtain ⟨kl, hk⟩ := keyOf_mk (a, b) ok
  obtain ⟨w', h1, h2, h3⟩ := MF.put mk_inj (w := w.drew) (h.drewN 1) keyed Tryd.underlying55 (by unfold maxLen; omega) v hk
  exact ⟨w', h1, h2, ((Keep.refl _ w).drewN 1).trans h3⟩

/-- What Add's loop keeps. -/
def AddRel (w : World) (t mb g cnt : Nat) (O : Nat → Prop) (l : List H) (h : H) (lv pl : Value) (wr : World) : Prop :=
  ∃ j p : Nat, lv = .int .i64 (j : Nat) ∧ pl = .int .i64 (p : Nat) ∧ (p + 1) * 2 ^ j = l.length + 1 ∧ VBlk 57 wr t [.int .i64 (l.length + 1 : Nat), .map (some mb)] ∧
    MF Tryd.prog 66 mk wr mb (cnt + 1 + j) (stepF nodeP noneP l h j) ∧ VBlk 27 wr g ((rt (seg (l ++ [h]) (p * 2 ^ j) (2 ^ j))).map (Value.int .u8)) ∧ Keep (fun b => b < w.heap.size ∧ ¬ O b) w wr

set_option maxRecDepth 100000 in
set_option maxHeartbeats 4000000 in
theorem add_any {w : World} {t cnt : Nat} {O : Nat → Prop} {l : List H} {h : H} (hI : IsTree w t O cnt l) (hh : h.length = 32) (hm : l.length ≤ 1000000) (hcnt : cnt ≤ 900000000) :
    Calls Tryd.prog 20 #[.pointer (some ⟨t, 0, none⟩), .agg (h.map (Value.int .u8)).toArray] w fun e w' => e = .returned (.int .i64 (l.length : Nat)) ∧ IsTree w' t O (cnt + 22) (l ++ [h]) ∧ Keep (fun b => b < w.heap.size ∧ ¬ O b) w w' := by
  have hb : Below w.heap.size w (w.alloc (.cells (h.map (Value.int .u8)).toArray 27)) := (Below.refl _ w).alloc (Nat.le_refl _) _
  have hR : VBlk 27 (w.alloc (.cells (h.map (Value.int .u8)).toArray 27)) w.heap.size (h.map (Value.int .u8)) := VBlk.mk w _ _
  have h0 := hI.below hb (Nat.le_refl _)
  have hok := hI.ok
  have HI := Hid2.mk hI
  obtain ⟨mb, hc, hOt, hOm, hO, hM, -⟩ := h0
  have c0 := hc.cell 0 (by simp)
  have c1 := hc.cell 1 (by simp)
  simp only [List.getD_cons_zero, List.getD_cons_succ] at c0 c1
  have f0 := hc.free 0
  have htm : mb ≠ t := by
    obtain ⟨D, ⟨es, clock, h1, -⟩, -⟩ := hM
    intro e; subst e; unfold VBlk at hc; rw [h1] at hc; cases hc
  have hgt : w.heap.size ≠ t := by have := hI.lt t hI.own; omega
  have hgm : w.heap.size ≠ mb := by have := hI.lt mb hOm; omega
  have hOt' : O t := hOt
  have Hc := Hid2.mk hc
  have HM := Hid2.mk hM
  have HB := Hid2.mk hb
  have HR := Hid2.mk hR
  have hlw : decide ((1048576 : Int) ≤ (l.length : Int)) = false := decide_eq_false (by omega)
  have qm : ∀ (w : World) r, (binOp .eql 55 (.map (some r)) (.map none)).run Tryd.prog w = .ok (.bool false) w := fun w r => run_eql_map_nil w _ _ _ (some r) Tryd.underlying55
  have hw1 : IntKind.i64.wrap ((l.length : Int) + 1) = (l.length : Int) + 1 := IntWalk.i64_in _ (by omega)
  have Hm := Hid2.mk hm
  have Hh := Hid2.mk hh
  clear hc hM hb hR hI hm hh
  go_enter Tryd.func20, Tryd.ntmps20
  go_wp2_with fail
  -- the world behind the count
  have Hc2 := Hid2.mk (Hc.out.set 0 (.int .i64 ((l.length : Int) + 1)))
  have HM2 := Hid2.mk (HM.out.other ⟨t, 0, none⟩ (.int .i64 ((l.length : Int) + 1)) htm)
  have HR2 := Hid2.mk (HR.out.other ⟨t, 0, none⟩ (.int .i64 ((l.length : Int) + 1)) hgt)
  have HK2 := Hid2.mk (show Keep (fun b => b < w.heap.size ∧ ¬ O b) w ((w.alloc (.cells (h.map (Value.int .u8)).toArray 27)).setCell ⟨t, 0, none⟩ (.int .i64 ((l.length : Int) + 1))) from ((Keep.of_below HB.out).mono fun b hb => hb.1).setCell (fun hb => hb.2 hOt) _)
  generalize World.setCell _ _ _ = w2 at Hc2 HM2 HR2 HK2 ⊢
  clear Hc HM HR HB c0 c1 f0 hlw
  obtain ⟨w3, hrun, hm3, hk3⟩ := put_whole HM2.out (by omega) (a := 0) (b := (l.length : Int)) ⟨(by decide : (Lit.int .i64 0).wf = true), wf_nat (by have := Hm.out; omega)⟩ (hv h)
  have Hrun := Hid2.mk hrun
  have HM3 := Hid2.mk hm3
  have Hk3 := Hid2.mk hk3
  clear hrun hm3 hk3
  have d1 := Hc2.out.cell 1 (by simp)
  simp only [List.set_cons_zero, List.getD_cons_zero, List.getD_cons_succ] at d1
  have hiH : (Tryd.prog.info? 27).map (·.size) = some (h.map (Value.int .u8)).length := by rw [infoHash, List.length_map, Hh.out]
  have HiH := Hid2.mk hiH
  clear hiH
  refine wp_region_still_tail 7 (by kernel_rfl) (by kernel_rfl) ?_
  simp only [List.take_succ_cons, List.take_zero, List.drop_succ_cons, List.drop_zero]
  repeat (first | still_step | (refine wpStill_load_row rfl 27 (.tmp 3) rfl w.heap.size 0 rfl (h.map (Value.int .u8)) _ (range_vblk (HR2.out.drewN 1)) Tryd.underlying27 rfl HiH.out ?_))
  try refine wpStill_nil ?_
  change wpList _ _ _ _ _ w2.drew
  have hrun := Hrun.out
  unfold hv at hrun
  go_wp2_with fail
  clear hrun Hrun d1
  have hr0 : AddRel w t mb w.heap.size cnt O l h (.int .i64 0) (.int .i64 (l.length : Nat)) w3 := by
    refine ⟨0, l.length, rfl, rfl, by simp, ?_, ?_, ?_, HK2.out.trans (Hk3.out.mono fun b hb e => hb.2 (e ▸ hOm))⟩
    · exact (Hc2.out.keep Hk3.out (Ne.symm htm))
    · exact HM3.out.congr fun x => (stepF_zero x).symm
    · have e : rt (seg (l ++ [h]) (l.length * 2 ^ 0) (2 ^ 0)) = h := by
        have e1 : l.length * 2 ^ 0 = l.length := by simp
        have e2 : 2 ^ 0 = 1 := rfl
        rw [e1, e2]
        unfold rt
        rw [root_seg1 (by simp)]
        simp
      rw [e]
      exact HR2.out.keep Hk3.out hgm
  have Hr0 := Hid2.mk hr0
  clear hr0 HM3 Hk3 Hc2 HM2 HR2 HK2
  go_loopw [6, 7] (fun lv pl wr => AddRel w t mb w.heap.size cnt O l h lv pl wr) (fun _ pl _ => (intOf pl).toNat)
  case atStart => exact Hr0.out
  case round =>
    obtain ⟨j, p, rfl, rfl, hp, hc, hM, hR, hK⟩ := hrel
    have hpj : 0 < 2 ^ j := Nat.pow_pos (by decide)
    have hp1 : p + 1 ≤ l.length + 1 := by rw [← hp]; exact Nat.le_mul_of_pos_right _ hpj
    have hj1 : 2 ^ j ≤ l.length + 1 := by rw [← hp]; exact Nat.le_mul_of_pos_left _ (by omega)
    have hml := Hm.out
    have hj20 : j ≤ 20 := by
      rcases Nat.lt_or_ge 20 j with h | h
      · have := Nat.pow_le_pow_right (n := 2) (by decide) (show 21 ≤ j from h)
        omega
      · exact h
    have hob := odd_bit p (by omega)
    have hsz := hK.size
    have Hp := Hid2.mk hp
    have Hc := Hid2.mk hc
    have HM := Hid2.mk hM
    have HR := Hid2.mk hR
    have HK := Hid2.mk hK
    have d1 := hc.cell 1 (by simp)
    simp only [List.getD_cons_zero, List.getD_cons_succ] at d1
    have hpb : p ≤ 1000000 := by omega
    clear hp hc hM hR hK hpj hj1 hp1 hml
    rcases Nat.mod_two_eq_zero_or_one p with hmod | hmod
    · rw [hmod] at hob
      have hob2 : bits BinOp.and IntKind.i64 (p : Int) 1 = 0 := hob
      clear hob d1
      go_wp2_with fail
      go_ret
      refine ⟨rfl, ⟨mb, ?_, hOt', hOm, fun b hb => Nat.lt_of_lt_of_le (HI.out.lt b hb) HK.out.size, (HM.out.congr fun x => (stepF_done (p := p / 2) ?_ x).symm).mono (by omega), okh_app hok (okh_one Hh.out)⟩, HK.out⟩
      · have := Hc.out
        simpa using this
      · rw [← Hp.out]; congr 1; omega
    · rw [hmod] at hob
      have hob2 : bits BinOp.and IntKind.i64 (p : Int) 1 = 1 := hob
      obtain ⟨q, rfl⟩ : ∃ q, p = 2 * q + 1 := ⟨p / 2, by omega⟩
      have hL : (2 * q + 1) * 2 ^ j ≤ (l ++ [h]).length := by
        rw [List.length_append]
        have := Hp.out
        have h2 : (2 * q + 1 + 1) * 2 ^ j = (2 * q + 1) * 2 ^ j + 2 ^ j := by rw [Nat.add_mul (2 * q + 1) 1, Nat.one_mul]
        simp only [List.length_cons, List.length_nil]
        generalize (2 * q + 1 + 1) * 2 ^ j = C at this h2
        generalize (2 * q + 1) * 2 ^ j = B at h2 ⊢
        generalize 2 ^ j = D at h2
        omega
      have hF : stepF nodeP noneP l h j ((j : Int), ((2 * q + 1 : Nat) : Int) - 1) = some (hv (rt (seg (l ++ [h]) (2 * q * 2 ^ j) (2 ^ j)))) := by
        have e : ((2 * q + 1 : Nat) : Int) - 1 = ((2 * q : Nat) : Int) := by omega
        rw [e]
        unfold stepF
        rw [if_pos (by simp)]
        exact wholeF_at hL
      have hnode : rt (seg (l ++ [h]) (q * 2 ^ (j + 1)) (2 ^ (j + 1))) = nodeP (rt (seg (l ++ [h]) (2 * q * 2 ^ j) (2 ^ j))) (rt (seg (l ++ [h]) ((2 * q + 1) * 2 ^ j) (2 ^ j))) := by
        have e1 : q * 2 ^ (j + 1) = 2 * q * 2 ^ j := by rw [Nat.pow_succ, Nat.mul_comm (2 ^ j) 2, ← Nat.mul_assoc, Nat.mul_comm q 2]
        have e2 : 2 * q * 2 ^ j + 2 ^ j = (2 * q + 1) * 2 ^ j := by rw [Nat.add_mul (2 * q) 1, Nat.one_mul]
        have e3 : 2 * q * 2 ^ j + 2 ^ (j + 1) ≤ (l ++ [h]).length := by
          have := Hp.out
          have h2 : (2 * q + 1 + 1) * 2 ^ j = (2 * q + 1) * 2 ^ j + 2 ^ j := by rw [Nat.add_mul (2 * q + 1) 1, Nat.one_mul]
          rw [List.length_append, Nat.pow_succ]
          simp only [List.length_cons, List.length_nil]
          generalize (2 * q + 1 + 1) * 2 ^ j = C at this h2
          generalize (2 * q + 1) * 2 ^ j = B at e2 h2
          generalize 2 * q * 2 ^ j = A at e2 ⊢
          omega
        rw [e1]
        unfold rt
        rw [root_double e3, e2]
      have hkk : okKey ((j : Int), ((2 * q + 1 : Nat) : Int) - 1) := ⟨wf_nat (by omega), by
        have e : ((2 * q + 1 : Nat) : Int) - 1 = ((2 * q : Nat) : Int) := by omega
        show (Lit.int .i64 (((2 * q + 1 : Nat) : Int) - 1)).wf = true
        rw [e]; exact wf_nat (by omega)⟩
      have hokL : Okh (l ++ [h]) := okh_app hok (okh_one Hh.out)
      have hla := rt_len (okh_seg hokL (2 * q * 2 ^ j) (2 ^ j))
      have hlb := rt_len (okh_seg hokL ((2 * q + 1) * 2 ^ j) (2 ^ j))
      have Hnode := Hid2.mk hnode
      have hR' := HR.out
      generalize rt (seg (l ++ [h]) (2 * q * 2 ^ j) (2 ^ j)) = ra at hla hF Hnode
      generalize rt (seg (l ++ [h]) ((2 * q + 1) * 2 ^ j) (2 ^ j)) = rb at hlb hR' Hnode
      have HR' := Hid2.mk hR'
      have hlk := look_whole (HM.out.drewN 1) hkk hF
      have Hlk : Hid2 ((Instr.lookup 55 (.map (some mb)) (.agg #[.int .i64 (j : Int), .int .i64 (((2 * q + 1 : Nat) : Int) - 1)]) false).run Tryd.prog wr.drew = .ok (hv ra) wr.drew) := Hid2.mk hlk
      have Hla := Hid2.mk hla
      have Hlb := Hid2.mk hlb
      have hs2 : ((2 * q + 1 : Nat) : Int) / 2 = (q : Int) := by omega
      have hib : (Tryd.prog.info? 27).map (·.size) = some (rb.map (Value.int .u8)).length := by rw [infoHash, List.length_map, hlb]
      have Hib := Hid2.mk hib
      have Hs2 := Hid2.mk hs2
      have Hqb := Hid2.mk hpb
      clear hob hR' hF hnode hkk hla hlb hlk hL HR hib hmod hs2 hpb
      generalize hpp : 2 * q + 1 = p at hob2 Hlk Hs2 Hp Hqb ⊢
      have hpb : p ≤ 1000000 := Hqb.out
      have hp0 : 1 ≤ p := by omega
      have Hpp := Hid2.mk hpp
      have hwp : IntKind.i64.wrap ((p : Int) - 1) = (p : Int) - 1 := IntWalk.i64_in _ (by omega)
      have hwj : IntKind.i64.wrap ((j : Int) + 1) = (j : Int) + 1 := IntWalk.i64_in _ (by omega)
      clear hpp
      go_wp2_with fail
      have hlk := Hlk.out
      refine wp_region_still_tail 10 (by kernel_rfl) (by kernel_rfl) ?_
      simp only [List.take_succ_cons, List.take_zero, List.drop_succ_cons, List.drop_zero]
      repeat (first | still_step | (refine wpStill_load_row rfl 27 (.tmp 3) rfl w.heap.size 0 rfl (rb.map (Value.int .u8)) _ (range_vblk (HR'.out.drewN 1)) Tryd.underlying27 rfl Hib.out ?_))
      try refine wpStill_nil ?_
      change wpList _ _ _ _ _ wr.drew
      clear hlk Hlk
      have hlen := nodeP_len ra rb
      go_wp2_with fail
      refine (Dig.node_any _ _ _ Hla.out Hlb.out).mono ?_
      rintro e w4 ⟨rfl, hb4⟩
      obtain ⟨rr, hrr⟩ : ∃ rr, rr = nodeP ra rb := ⟨_, rfl⟩
      have hrr2 : Dig.sumL (1 :: (ra ++ rb)) = rr := hrr.symm
      rw [hrr2]
      rw [← hrr] at hlen
      have Hrr := Hid2.mk (show rt (seg (l ++ [h]) (q * 2 ^ (j + 1)) (2 ^ (j + 1))) = rr by rw [Hnode.out, hrr])
      have hb4' : Below wr.heap.size wr w4 := (belowN (Below.refl wr.heap.size wr) 1).trans hb4
      have Hc4 := Hid2.mk (Hc.out.below hb4' (Hc.out.lt))
      have HM4 := Hid2.mk (HM.out.below hb4' (HM.out.lt))
      have HR4 := Hid2.mk (HR'.out.below hb4' (HR'.out.lt))
      have HK4 := Hid2.mk (HK.out.trans ((Keep.of_below hb4').mono fun b hb => (Nat.lt_of_lt_of_le hb.1 hsz : b < wr.heap.size)))
      clear hb4 hb4' hrr hrr2 Hnode d1
      have hi : (Tryd.prog.info? 27).map (·.size) = some (rr.map (Value.int .u8)).toArray.size := by rw [infoHash]; simp [hlen]
      have hone : (rr.map (Value.int .u8)).toArray.all (·.oneCell') = true := by simp [Value.oneCell']
      have hrb := Hlb.out
      go_wp2_with (refine wpList_store_row rfl 27 (.tmp 3) (.tmp 62) rfl w.heap.size (rr.map (Value.int .u8)).toArray rfl rfl 27 (rb.map (Value.int .u8)).toArray HR4.out hi (by simp [hlen, hrb]) hone ?_)
      have Hc5 := Hid2.mk (Hc4.out.setRow_other (g := w.heap.size) (rr.map (Value.int .u8)).toArray (Ne.symm hgt))
      have HM5 := Hid2.mk (HM4.out.setRow_other (g := w.heap.size) (rr.map (Value.int .u8)).toArray (Ne.symm hgm))
      have HR5 := Hid2.mk (HR4.out.setRow (rr.map (Value.int .u8)))
      have HK5 := Hid2.mk (HK4.out.trans (show Keep (fun b => b < w.heap.size ∧ ¬ O b) w4 (w4.setRow w.heap.size (rr.map (Value.int .u8)).toArray) from ⟨rfl, rfl, rfl, by simp, fun k hk => Go.setRow_other w4 w.heap.size k _ (by omega)⟩))
      generalize World.setRow w4 _ _ = w5 at Hc5 HM5 HR5 HK5 ⊢
      obtain ⟨w6, hrun, hm6, hk6⟩ := put_whole HM5.out (by omega) (a := (j : Int) + 1) (b := (q : Int)) ⟨(by have := wf_nat (k := j + 1) (by omega); exact this), wf_nat (by have := Hpp.out; omega)⟩ (hv rr)
      have Hrun := Hid2.mk hrun
      have HM6 := Hid2.mk hm6
      have Hk6 := Hid2.mk hk6
      have hir : (Tryd.prog.info? 27).map (·.size) = some (rr.map (Value.int .u8)).length := by rw [infoHash, List.length_map, hlen]
      have Hir := Hid2.mk hir
      have d1 := Hc5.out.cell 1 (by simp)
      simp only [List.getD_cons_zero, List.getD_cons_succ] at d1
      have hs2 := Hs2.out
      clear hrun hm6 hk6 hir hi hone hrb hlen Hc4 HM4 HR4 HK4
      refine wp_region_still_tail 10 (by kernel_rfl) (by kernel_rfl) ?_
      simp only [List.take_succ_cons, List.take_zero, List.drop_succ_cons, List.drop_zero]
      repeat (first | still_step | (refine wpStill_load_row rfl 27 (.tmp 3) rfl w.heap.size 0 rfl (rr.map (Value.int .u8)) _ (range_vblk (HR5.out.drewN 1)) Tryd.underlying27 rfl Hir.out ?_))
      try refine wpStill_nil ?_
      change wpList _ _ _ _ _ w5.drew
      have hrun := Hrun.out
      unfold hv at hrun
      go_wp2_with fail
      clear hrun Hrun
      go_roundw
      case rel =>
        refine ⟨j + 1, q, by go_num, rfl, ?_, Hc5.out.keep Hk6.out (Ne.symm htm), ?_, ?_, HK5.out.trans (Hk6.out.mono fun b hb e => hb.2 (e ▸ hOm))⟩
        · have := Hp.out
          rw [← Hpp.out] at this
          rw [← this, Nat.pow_succ, Nat.mul_comm (2 ^ j) 2, ← Nat.mul_assoc]
          congr 1; omega
        · refine HM6.out.congr fun x => ?_
          have e := stepF_succ (node := nodeP) (none := noneP) (l := l) (h := h) (j := j) (p := q) (by rw [Hpp.out]; exact Hp.out) x
          have e2 : root nodeP noneP (seg (l ++ [h]) (q * 2 ^ (j + 1)) (2 ^ (j + 1))) = rr := Hrr.out
          rw [e2] at e
          exact e.symm
        · rw [Hrr.out]; exact HR5.out.keep Hk6.out hgm
      case measure => simp [intOf]; omega

end Mk
end Go.Proofs.YtfdgclnjpbkggaaDoor
