/-
  For every block and every number the law BlockRedacts answers true, and the arguments read as they did. The library's table lies as the program's text lays it: that is the card's tie; no other condition.
-/
import Derived.Test.YtlamdhekjlnccaaGreatDoorZLawBlkChecks5
import Derived.Deep.Slices
import Derived.Test.YtlamdhekjlnccaaGreatDoorTie
import Derived.Test.YtlamdhekjlnccaaGreatDoorCards
import Derived.SevenTiedAt
import Derived.ChangeMaps5
import Derived.Stop.Joined
/- Walks over the slots that are asked for: a slice against nil; copies of rows (slices.Clone). -/
namespace Go.Proofs.YtlamdhekjlnccaaGreatDoor
open Go.RowKit
namespace K
section
variable {n : Nat} {Q : Exit → Act → World → Prop} {l : Env} {w w' : World} {ops : Array Oper} {o : Oper} {rest : List Oper} {d : Nat}
theorem WL.nilS {x y : Operand} {t t2 e sz m c : Nat} {sp : Option Addr} (hg : o.guard = none) (hd : o.dst = some d) (hn : Nat.blt d n = true) (ho : o.op = .binOp .eql t x y t2) (ht : tyOf ty t = some (.slice e sz)) (hx : evl l x = some (.slice sp m c)) (hy : evl l y = some (.slice none 0 0))
    (h : WL n ops Q rest ((d, .bool sp.isNone) :: l) w) : WL n ops Q (o :: rest) l w :=
  WL.step hg hd hn (fun a ha => by
    unfold execOp
    rw [ho]
    obtain ⟨hu, -⟩ := TyOk.of tyOk ht
    have := Lib.run_eql_slice_nil w t e sp m c 0 0 hu
    have hq : (eqGuard .eql t x y (.slice sp m c) (.slice none 0 0)).run Tryz.prog w = .ok () w := by simp [eqGuard]
    simp only [ha.eval hx, ha.eval hy, Sem.run_bind, hq, Result.andThen_ok, this]
    rfl) h
end
/-- slices.Clone of texts. -/
theorem cloneS_any {w : World} {v : Value} {l : List ByteArray} (h : Strs w v l) (hl : l.length ≤ 1000000) :
    Calls Tryz.prog 94 #[v] w fun r w' => Below w.heap.size w w' ∧ ∃ v', r = .returned v' ∧ Els 1 noT strP (fun b => w.heap.size ≤ b) w' v' l ∧ v'.oneCell' = true := by
  have h0 := h
  obtain ⟨sp, cap, rfl, h1, h2, h3, h4⟩ := h
  refine enter (args := [.slice sp l.length cap]) Tryz.func94 rfl Tryz.ntmps94 rfl ?_
  refine kgo ?_
  refine WL.nilS rfl rfl rfl rfl rfl rfl rfl ?_
  cases sp with
  | none =>
    have hl0 : l.length = 0 := by
      rcases Nat.eq_zero_or_pos l.length with h | h
      · exact h
      · obtain ⟨_, _, hc, -⟩ := h4 h; cases hc
    obtain rfl := List.eq_nil_of_length_eq_zero hl0
    show WL _ _ _ _ ((_, .bool true) :: _) _
    refine kgo ?_
    exact WQ.ret1 rfl rfl ⟨Below.refl _ _, _, rfl, Els.nil _ _ _ _ _, rfl⟩
  | some ad =>
    show WL _ _ _ _ ((_, .bool false) :: _) _
    refine kgo ?_
    refine WL.empty rfl rfl rfl rfl rfl fun g w1 hf => ?_
    have hf' : Fresh w g w1 9 [] := hf
    clear hf
    have hg := hf'.eq
    have hz := hf'.size
    have hb1 := hf'.below
    refine kgo ?_
    by_cases hn0 : l.length = 0
    · obtain rfl := List.eq_nil_of_length_eq_zero hn0
      refine WL.app0 rfl rfl rfl rfl rfl rfl (Nat.le_refl 0) rfl ?_
      refine kgo ?_
      exact WQ.ret1 rfl rfl ⟨hb1, _, rfl, ⟨_, 0, rfl, by simp, by omega, (fun h => by cases h), fun h => by simp at h⟩, rfl⟩
    · have hown : OwnV 9 1 w1 (fun x => x = g) (.slice (some ⟨g, 0, none⟩) 0 0) 0 [] := ⟨⟨by simp, .inr ⟨g, 0, #[], rfl, Nat.zero_le _, hf'.blk, Nat.le_refl _, by unfold maxLen; omega, by simp, by simp⟩⟩, fun _ h => (List.not_mem_nil h).elim, fun g h => by cases h; rfl⟩
      have hsl := strs_slV (Strs.below h0 hb1) (by omega)
      refine WL.appV rfl rfl rfl rfl elemS1 rfl hown rfl hsl (by omega) (by omega) fun v2 w2 ho2 hg2 => ?_
      have hone : v2.oneCell' = true := by obtain ⟨_, _, rfl, -⟩ := ho2.slice; rfl
      have hb2 : Below w.heap.size w w2 := hb1.trans (hg2.old (B := w.heap.size) (by omega) (fun x hx => by have : g = x := Option.some.inj hx; omega))
      refine kgo ?_
      simp only [Nat.zero_add, List.nil_append] at ho2
      refine WQ.ret1 rfl rfl ⟨hb2, v2, rfl, own_strs (O := fun b => w.heap.size ≤ b) (ho2.mono fun b hb => by omega) fun s hs => ?_, hone⟩
      obtain ⟨j, hj, rfl⟩ := List.getElem_of_mem hs
      simpa [hj] using h3 j hj
end K
end Go.Proofs.YtlamdhekjlnccaaGreatDoor

/- Blocks (chapter 11): own. -/
namespace Go.Proofs.YtlamdhekjlnccaaGreatDoor
open Go.RowKit
namespace K
set_option maxHeartbeats 8000000 in
theorem own_any {B : Nat} (hB : B ≤ 1000000) : ∀ (f : Nat) {w : World} {v : V} {cs : List Value}, IsV f w v cs → Sm B f v →
    Calls Tryz.prog 74 #[.agg cs.toArray] w fun e w' => Below w.heap.size w w' ∧ ∃ cs', e = .returned (.agg cs'.toArray) ∧ IsVo (fun b => w.heap.size ≤ b) f w' v cs'
  | 0, _, _, _, h, _ => h.elim
  | f + 1, w, v, cs, h, hm => by
    obtain ⟨sn, sk, rfl, wk, wn, ws, wt, hnames, hkids⟩ := h
    obtain ⟨hmn, hmk, hms⟩ := hm
    obtain ⟨sp, cap, rfl, hcap1, hcap2, hrow⟩ := hkids
    refine enter (args := [.agg (six v sn (.slice sp v.kids.length cap)).toArray]) Tryz.func74 rfl Tryz.ntmps74 rfl ?_
    refine kgo ?_
    refine WL.box rfl rfl rfl rfl rfl fun g1 w1 hf1 => ?_
    have hf1' : Fresh w g1 w1 41 (six v sn (.slice sp v.kids.length cap)) := hf1
    clear hf1
    refine WL.alloc (z := .agg zCells.toArray) rfl rfl rfl rfl (fun _ => by kernel_rfl) fun g2 w2 hf2 => ?_
    have hf2' : Fresh w1 g2 w2 41 zCells := hf2
    clear hf2
    have hz1 := hf1'.size
    have hz2 := hf2'.size
    have he1 := hf1'.eq
    have he2 := hf2'.eq
    have hw2 : Below w.heap.size w w2 := hf1'.below.trans (hf2'.below.mono hf1'.below.size)
    have B1 := hf1'.blk.below hf2'.below hf1'.blk.lt
    have B2 := hf2'.blk
    clear hf1' hf2'
    refine kgo ?_
    refine WL.load rfl rfl rfl rfl rfl rfl (B1.cell 4 (by simp)) ?_
    refine WL.call rfl rfl rfl rfl rfl Tryz.func94 rfl (by kernel_rfl) (cloneS_any (hnames.below hw2) (by omega)) ?_
    rintro _ w3 ⟨hb3, sx, rfl, hn3, hsx⟩
    refine ⟨_, rfl, ?_⟩
    have B13 := B1.below hb3 B1.lt
    have B23 := B2.below hb3 B2.lt
    have hw3 : Below w.heap.size w w3 := hw2.trans (hb3.mono hw2.size)
    refine kgo ?_
    refine WL.store rfl rfl rfl rfl rfl hsx (by kernel_rfl) (B13.cell 4 (by simp)) (B13.free 4) ?_
    have C1 : VBlk 41 (w3.setCell ⟨g1, 4, none⟩ sx) g1 (six v sx (.slice sp v.kids.length cap)) := B13.set 4 sx
    have C2 : VBlk 41 (w3.setCell ⟨g1, 4, none⟩ sx) g2 zCells := B23.other _ _ (by show g2 ≠ g1; omega)
    have hw5 : Below w.heap.size w (w3.setCell ⟨g1, 4, none⟩ sx) := Keep.below (Keep.setCell (Keep.of_below hw3) (fun hk => by simp only at hk; omega) _)
    have hset1 : Keep (fun b => b ≠ g1) w3 (w3.setCell ⟨g1, 4, none⟩ sx) := (Keep.refl _ w3).setCell (fun hk => hk rfl) _
    have hnm : Els 1 noT strP (fun b => w.heap.size ≤ b ∧ b ≠ g1 ∧ b ≠ g2) (w3.setCell ⟨g1, 4, none⟩ sx) sx v.names := hn3.keep hset1 (fun b hb _ => by omega) (fun b hb => by omega) fun _ _ h => h
    generalize w3.setCell ⟨g1, 4, none⟩ sx = w5 at C1 C2 hw5 hnm ⊢
    clear hset1
    have hz5 := hw5.size
    have hgg : g1 ≠ g2 := by omega
    have hg1w := C1.lt
    have hg2w := C2.lt
    refine kgo ?_
    refine WL.load rfl rfl rfl rfl rfl rfl (C1.cell 5 (by simp)) ?_
    refine kgo ?_
    refine WC.loop (fun i : Nat × Value => [(1, .pointer (some ⟨g1, 0, none⟩)), (2, .pointer (some ⟨g2, 0, none⟩)), (3, i.2), (11, .slice sp v.kids.length cap), (12, .int .i64 v.kids.length), (13, .int .i64 i.1)])
      (fun i wr => i.1 ≤ v.kids.length ∧ Below w5.heap.size w5 wr ∧ ∃ q : Nat → Prop, OwnE 41 6 noV (IsVo q f wr) (fun b => w5.heap.size ≤ b) wr i.2 (v.kids.take i.1) ∧ ∀ b, q b → w5.heap.size ≤ b ∧ b < wr.heap.size ∧ i.2.ownBlock ≠ some b) (fun i => v.kids.length - i.1) (0, .slice none 0 0)
      ⟨rfl, rfl, rfl, rfl, rfl, rfl, trivial⟩ ⟨Nat.zero_le _, Below.refl _ _, fun _ => False, OwnE.nil _ _ _ _ _ _, fun b h => h.elim⟩ ?_
    rintro ⟨i, vk⟩ wr ⟨hi, hbr, q, hoE, hq⟩
    simp only at hi hbr hoE hq ⊢
    have D1 := C1.below hbr hg1w
    have D2 := C2.below hbr hg2w
    have hwr : Below w.heap.size w wr := hw5.trans (hbr.mono hz5)
    have hzr := hbr.size
    by_cases hik : i < v.kids.length
    · obtain ⟨kb, ko, rfl, hkb, hcells⟩ := hrow (by omega)
      obtain ⟨c, hc6, hci, hcr⟩ := hcells i hik
      refine kgo ?_
      refine WL.idx i (ko + i * 6) rfl rfl rfl rfl rfl rfl rfl rfl hik rfl ?_
      refine WL.loadMid rfl rfl rfl rfl rfl rfl (fun j u hu => (hwr.cell (p := ⟨kb, ko + i * 6 + j, none⟩) hkb).trans (hcr j u hu)) hc6 ?_
      refine WL.alloc (z := .agg zCells.toArray) rfl rfl rfl rfl (fun _ => by kernel_rfl) fun kc wa hfa => ?_
      have hfa' : Fresh wr kc wa 41 zCells := hfa
      clear hfa
      refine kgo ?_
      refine WL.storeRow rfl rfl rfl rfl rfl rfl hfa'.blk hc6 (by rfl) (IsV.one hci) ?_
      have hka : Below wr.heap.size wr (wa.setRow kc c.toArray) := below_setRow hfa'.below (by rw [hfa'.eq]; exact Nat.le_refl _) _
      have Ka : VBlk 41 (wa.setRow kc c.toArray) kc c := hfa'.blk.setRow _
      generalize wa.setRow kc c.toArray = wb at hka Ka
      clear hfa'
      have hzb := hka.size
      refine kgo ?_
      refine WL.loadMid rfl rfl rfl rfl rfl rfl (VBlk.rangeAt Ka) hc6 ?_
      refine WL.call rfl rfl rfl rfl rfl Tryz.func74 rfl (by kernel_rfl) (own_any hB f (hci.below (hwr.trans (hka.mono hwr.size))) (hms _ (by simp [hik]))) ?_
      rintro _ w6 ⟨hb6', c6, rfl, hv6'⟩
      refine ⟨_, rfl, ?_⟩
      have hb6 : Below wr.heap.size wr w6 := hka.trans (hb6'.mono hzb)
      have hv6 : IsVo (fun b => wr.heap.size ≤ b) f w6 (v.kids.getD i noV) c6 := IsVo.mono (fun b hb => by omega) hv6'
      have hz6 := hb6.size
      refine WL.lit1 rfl rfl rfl rfl rfl rfl rfl hv6.len ⟨by omega, by omega⟩ (by kernel_rfl) fun g7 w7 hf7 => ?_
      have hz7 := hf7.size
      have hk7 : Below wr.heap.size wr w7 := hb6.trans (hf7.below.mono hz6)
      have hoE7 : OwnE 41 6 noV (IsVo (fun b => q b ∨ (wr.heap.size ≤ b ∧ b < w7.heap.size)) f w7) (fun b => w5.heap.size ≤ b) w7 vk (v.kids.take i) :=
        hoE.keep (Keep.of_below hk7) (fun g hg => hoE.lt hg) (fun _ h => h) fun x cs hx => hx.keep (Keep.of_below hk7) (fun b hb _ => (hq b hb).2.1) fun b hb => .inl hb
      have hv7 : IsVo (fun b => q b ∨ (wr.heap.size ≤ b ∧ b < w7.heap.size)) f w7 (v.kids.getD i noV) c6 := hv6.there.keep (Keep.of_below hf7.below) (fun b _ h => h) fun b hb => .inr ⟨hb.1, by omega⟩
      have hlt : (v.kids.take i).length ≤ i := by rw [List.length_take]; omega
      refine WL.snoc rfl rfl rfl rfl elemV6 rfl hoE7 rfl hf7.blk hv6.one hv6.len hv7 (by omega) (by omega) fun vk8 w8 ho8 hg8 => ?_
      have hbel8 : Below w5.heap.size w5 w8 := (hbr.trans (hk7.mono hzr)).trans (hg8.old (by omega) fun g hg => hoE7.own hg)
      have hq8 : ∀ b, (q b ∨ (wr.heap.size ≤ b ∧ b < w7.heap.size)) → w5.heap.size ≤ b ∧ b < w7.heap.size ∧ vk.ownBlock ≠ some b := fun b hb => hb.elim (fun h => by
          obtain ⟨h1, h2, h3⟩ := hq b h
          exact ⟨h1, by omega, h3⟩) fun h => ⟨by omega, h.2, fun e => by have := hoE.lt e; omega⟩
      have htk : v.kids.take (i + 1) = v.kids.take i ++ [v.kids.getD i noV] := by
        rw [List.take_add_one]
        simp [hik]
      refine kgo ?_
      refine WQ.again (i + 1, vk8) ⟨rfl, rfl, rfl, rfl, rfl, rfl, trivial⟩ ⟨hik, hbel8, (fun b => q b ∨ (wr.heap.size ≤ b ∧ b < w7.heap.size)), ?_, fun b hb => ?_⟩ (by show v.kids.length - (i + 1) < v.kids.length - i; omega)
      · show OwnE _ _ _ _ _ _ _ (v.kids.take (i + 1))
        rw [htk]
        exact ho8.keep (Keep.refl (fun _ => True) w8) (fun _ _ => trivial) (fun b hb => by omega) fun x cs hx => hx.keep hg8.1 (fun b hb _ => (hq8 b hb).2) fun b hb => hb
      · obtain ⟨h1, h2, h3⟩ := hq8 b hb
        exact ⟨h1, Nat.lt_of_lt_of_le h2 hg8.1.size, fun e => (hg8.2 b e).elim h3 fun h4 => by omega⟩
    · obtain rfl : i = v.kids.length := by omega
      rw [List.take_length] at hoE
      have hvk := hoE.one
      have hset : Keep (fun b => b ≠ g1) wr (wr.setCell ⟨g1, 5, none⟩ vk) := (Keep.refl _ wr).setCell (fun hk => hk rfl) _
      refine kgo ?_
      refine WL.store rfl rfl rfl rfl rfl hvk (by kernel_rfl) (D1.cell 5 (by simp)) (D1.free 5) ?_
      have E1 := D1.set 5 vk
      have E2 : VBlk 41 (wr.setCell ⟨g1, 5, none⟩ vk) g2 zCells := D2.other _ _ (by show g2 ≠ g1; omega)
      have hwE : Below w.heap.size w (wr.setCell ⟨g1, 5, none⟩ vk) := Keep.below (Keep.setCell (Keep.of_below hwr) (fun hk => by simp only at hk; omega) _)
      have hnmE := (hnm.there (fun _ _ h => h)).keep (O' := fun b => (w.heap.size ≤ b ∧ b ≠ g1 ∧ b ≠ g2)) (Keep.of_below hbr) (fun b hb hlt => hlt) (fun b hb => hb.1) fun _ _ h => h
      have hnmF := hnmE.keep hset (fun b hb _ => hb.2.1) (fun b hb => hb) fun _ _ h => h
      have hkdF : Els 6 noV (IsVo (fun b => w5.heap.size ≤ b) f (wr.setCell ⟨g1, 5, none⟩ vk)) (fun b => w5.heap.size ≤ b) (wr.setCell ⟨g1, 5, none⟩ vk) vk v.kids :=
        hoE.els.keep hset (fun b hb _ => by omega) (fun b hb => hb) fun x cs hx => hx.keep hset (fun b hb _ => by have := (hq b hb).1; omega) fun b hb => (hq b hb).1
      generalize wr.setCell ⟨g1, 5, none⟩ vk = w9 at E1 E2 hwE hnmF hkdF
      simp only [List.set_cons_zero, List.set_cons_succ] at E1
      refine kgo ?_
      refine WL.loadMid rfl rfl rfl rfl rfl rfl (VBlk.rangeAt E1) rfl ?_
      have hone : Ones [Value.int .i64 v.k, .int .i64 v.n, .int .i64 v.s, .string v.t, sx, vk] := by
        intro u hu
        simp at hu
        rcases hu with rfl | rfl | rfl | rfl | rfl | rfl <;> first | rfl | assumption
      refine WL.storeRow rfl rfl rfl rfl rfl rfl E2 rfl rfl hone ?_
      refine kgo ?_
      have hset2 : ∀ a, Keep (fun b => b ≠ g2) w9 (w9.setRow g2 a) := fun a => Keep.setRow (Keep.refl _ w9) (fun hk => hk rfl) a
      refine WQ.retC rfl rfl rfl rfl (E2.setRow _) ⟨Keep.below (Keep.setRow (Keep.of_below hwE) (fun hk => by omega) _), _, rfl, sx, vk, rfl, wk, wn, ws, wt, hnmF.keep (hset2 _) (fun b hb _ => hb.2.2) (fun b hb => hb.1) fun _ _ h => h, ?_⟩
      exact hkdF.keep (hset2 _) (fun b hb _ => by omega) (fun b hb => by omega) fun x cs hx => hx.keep (hset2 _) (fun b hb _ => by omega) fun b hb => by omega
end K
end Go.Proofs.YtlamdhekjlnccaaGreatDoor

/- Blocks (chapter 11): their bytes are bytes; a block without its data. -/
namespace Go.Proofs.YtlamdhekjlnccaaGreatDoor
open Go.RowKit
namespace K
theorem layB_size {b : Bk} (h : chkB b = 0) (hr : RngB b) : (layB true b).length ≤ 262144 ∧ 0 < (layB true b).length := by
  refine ⟨(chkB_ok h).2.2, ?_⟩
  have h2 := hr.2
  unfold layB headL
  simp only [List.length_append]
  omega
theorem hash_byt {f : Nat} {w : World} {b : Bk} {cs : List Value} (h : IsB f w b cs) : ∀ e ∈ b.ents, Byt e.hash := by
  intro e he
  obtain ⟨j, hj, rfl⟩ := List.getElem_of_mem he
  obtain ⟨se, -, hents, -⟩ := h
  obtain ⟨_, _, _, cs, -, -, -, ⟨dc, -, -, -, -, -, hb, -⟩, -⟩ := hents.at hj
  have e1 : b.ents.getD j noE = b.ents[j] := by simp [hj]
  rw [e1] at hb
  exact hb
theorem layE_byt {e : En} (hk : 1 ≤ e.kind ∧ e.kind ≤ 7) (hh : Byt e.hash) : Byt (layE e) := by
  unfold layE
  refine Byt.cons (by omega) ((uvB_byt _).app ((uvB_byt _).app ((uvB_byt _).app ((uvB_byt _).app ((byI_byt _).app ((uvB_byt _).app ((uvB_byt _).app ?_)))))))
  split
  · exact hh
  · exact Byt.nil
theorem layD_byt {e : En} (h : chkE e = 0) : Byt (layD true e) := by
  unfold layD
  by_cases hk : e.kind = 2
  · rw [if_pos hk]
    by_cases hg : e.gone = true
    · rw [if_pos (Or.inl hg)]; exact Byt.one (by omega)
    · rw [if_neg (by simp [hg])]
      have he : (encR e.data).2 = 0 := by
        have h0 := h
        unfold chkE at h0
        by_cases hf : formE e
        · rw [if_pos hf, if_neg (by simp [hk, hg])] at h0
          by_cases h2 : (encR e.data).2 ≠ 0
          · rw [if_pos h2] at h0; exact h0
          · exact Classical.not_not.1 h2
        · rw [if_neg hf] at h0; cases h0
      obtain ⟨hc, -, hx⟩ := encR_ok he
      rw [hx]
      exact Byt.cons (by omega) ((uvB_byt _).app (encV_byt 16 hc))
  · rw [if_neg hk]; exact Byt.nil
theorem layB_byt {f : Nat} {w : World} {b : Bk} {cs : List Value} (h : chkB b = 0) (hb : IsB f w b cs) : Byt (layB true b) := by
  obtain ⟨-, hce, -⟩ := chkB_ok h
  have hp : Byt b.prev := by obtain ⟨_, -, -, -, h, -⟩ := hb; exact h
  unfold layB headL
  refine ((uvB_byt _).app ((uvB_byt _).app ((uvB_byt _).app hp))).app ((uvB_byt _).app fun c hc => ?_)
  obtain ⟨e, he, hc⟩ := List.mem_flatMap.1 hc
  have hkind := (formE_rng (chkE_ok (hce e he)).1).1
  exact ((layE_byt hkind (hash_byt hb e he)).app (layD_byt (hce e he))) c hc
theorem layB_byt2 {b : Bk} (h : chkB b = 0) (hp : Byt b.prev) (hh : ∀ e ∈ b.ents, Byt e.hash) : Byt (layB true b) := by
  obtain ⟨-, hce, -⟩ := chkB_ok h
  unfold layB headL
  refine ((uvB_byt _).app ((uvB_byt _).app ((uvB_byt _).app hp))).app ((uvB_byt _).app fun c hc => ?_)
  obtain ⟨e, he, hc⟩ := List.mem_flatMap.1 hc
  have hkind := (formE_rng (chkE_ok (hce e he)).1).1
  exact ((layE_byt hkind (hh e he)).app (layD_byt (hce e he))) c hc
/-- A block without its data. -/
def redB (b : Bk) : Bk := { b with ents := b.ents.map (redE false) }
theorem redB_len (b : Bk) : (redB b).ents.length = b.ents.length := List.length_map _
theorem redE_not {e : En} (k : ¬ e.kind = 2) : redE false e = e := by unfold redE; rw [if_neg (fun h => k h.1)]
theorem redE_two {e : En} (k : e.kind = 2) : redE false e = { e with gone := true, data := zV } := by unfold redE; rw [if_pos ⟨k, rfl⟩]
theorem redE_kind (e : En) : (redE false e).kind = e.kind := by unfold redE; split <;> rfl
theorem redE_hash (e : En) : (redE false e).hash = e.hash := by unfold redE; split <;> rfl
theorem redE_lay (e : En) : layE (redE false e) = layE e := by unfold redE; split <;> rfl
theorem redE_gone {e : En} (h : (redE false e).kind = 2) : (redE false e).gone = true := by
  rw [redE_kind] at h
  rw [redE_two h]
theorem redE_layD (e : En) : layD true (redE false e) = layD false e := by
  by_cases k : e.kind = 2
  · rw [redE_two k]; unfold layD; rw [if_pos k, if_pos k, if_pos (.inl rfl), if_pos (.inr rfl)]
  · rw [redE_not k]; unfold layD; rw [if_neg k, if_neg k]
theorem redE_form {e : En} (h : formE e) : formE (redE false e) := by
  by_cases k : e.kind = 2
  · rw [redE_two k]
    unfold formE at h ⊢
    rw [if_neg (by omega), if_pos k] at h
    rw [if_neg (by show ¬ e.kind = 1; omega), if_pos (show e.kind = 2 from k)]
    obtain ⟨a, b, c, d, -⟩ := h
    exact ⟨a, b, c, d, fun _ => rfl⟩
  · rw [redE_not k]; exact h
theorem redE_chk {e : En} (h : chkE e = 0) : chkE (redE false e) = 0 := by
  by_cases k : e.kind = 2
  · have hf := redE_form (chkE_ok h).1
    unfold chkE
    rw [if_pos hf, if_pos (.inr (redE_gone (by rw [redE_kind]; exact k)))]
  · rw [redE_not k]; exact h
theorem layB_red (b : Bk) : layB true (redB b) = layB false b := by
  unfold layB redB headL
  simp only [List.length_map, List.flatMap_map, redE_lay, redE_layD]
theorem layD_le (e : En) : (layD false e).length ≤ (layD true e).length := by
  unfold layD
  by_cases k : e.kind = 2
  · rw [if_pos k, if_pos k, if_pos (.inr rfl)]
    split <;> simp
  · rw [if_neg k, if_neg k]; exact Nat.le_refl _
theorem layEs_le : ∀ (es : List En), (es.flatMap fun e => layE e ++ layD false e).length ≤ (es.flatMap fun e => layE e ++ layD true e).length
  | [] => Nat.le_refl _
  | e :: es => by
    have h1 := layD_le e
    have h2 := layEs_le es
    simp only [List.flatMap_cons, List.length_append]
    omega
theorem layB_le (b : Bk) : (layB false b).length ≤ (layB true b).length := by
  have := layEs_le b.ents
  unfold layB
  simp only [List.length_append]
  omega
theorem chkB_red {b : Bk} (h : chkB b = 0) : chkB (redB b) = 0 := by
  obtain ⟨h1, h2, h3⟩ := chkB_ok h
  have hfb : firstBad ((redB b).ents.map chkE) = 0 := firstBad_zero.2 fun x hx => by
    obtain ⟨e, he, rfl⟩ := List.mem_map.1 hx
    obtain ⟨e0, he0, rfl⟩ := List.mem_map.1 (show e ∈ b.ents.map (redE false) from he)
    exact redE_chk (h2 e0 he0)
  have hle := layB_le b
  unfold chkB
  rw [if_pos (by rw [redB_len]; exact h1), if_neg (by simpa using hfb), if_neg (by rw [layB_red]; omega)]
theorem redB_mem {b : Bk} {e : En} (h : e ∈ (redB b).ents) : ∃ e0 ∈ b.ents, e = redE false e0 := by
  obtain ⟨e0, he0, rfl⟩ := List.mem_map.1 (show e ∈ b.ents.map (redE false) from h)
  exact ⟨e0, he0, rfl⟩
theorem zV_len : (encV 16 zV).length ≤ 70368744177664 := by
  have : (encV 16 zV).length ≤ 65536 := by decide
  omega
theorem redB_hlen {b : Bk} (h : ∀ e ∈ b.ents, chk 16 e.data = 0 → (encV 16 e.data).length ≤ 70368744177664) : ∀ e ∈ (redB b).ents, chk 16 e.data = 0 → (encV 16 e.data).length ≤ 70368744177664 := fun e he hc => by
  obtain ⟨e0, he0, rfl⟩ := redB_mem he
  by_cases k : e0.kind = 2
  · rw [redE_two k]; exact zV_len
  · rw [redE_not k] at hc ⊢; exact h e0 he0 hc
theorem redB_rng {b : Bk} (hz : Rng 1 zV) (h : RngB b) : RngB (redB b) := ⟨fun e he => by
  obtain ⟨e0, he0, rfl⟩ := redB_mem he
  obtain ⟨h1, h2⟩ := h.1 e0 he0
  by_cases k : e0.kind = 2
  · rw [redE_two k]; exact ⟨⟨1, hz⟩, h2⟩
  · rw [redE_not k]; exact ⟨h1, h2⟩, h.2⟩
theorem readB_red {b : Bk} (h : chkB b = 0) (hz : Rng 1 zV) (hr : RngB b) : readB (layB false b) = .ok (redB b) [] := by
  rw [← layB_red]; exact readB_enc (chkB_red h) (redB_rng hz hr)
theorem layB_fbyt {f : Nat} {w : World} {b : Bk} {cs : List Value} (h : chkB b = 0) (hb : IsB f w b cs) : Byt (layB false b) := by
  rw [← layB_red]
  refine layB_byt2 (chkB_red h) (by obtain ⟨_, -, -, -, h, -⟩ := hb; exact h) fun e he => ?_
  obtain ⟨e0, he0, rfl⟩ := redB_mem he
  rw [redE_hash]
  exact hash_byt hb e0 he0
theorem encB_snd (data : Bool) (b : Bk) : (encB data b).2 = chkB b := by
  unfold encB
  by_cases h : chkB b ≠ 0
  · rw [if_pos h]
  · rw [if_neg h]; exact (Classical.not_not.1 h).symm
theorem encB_fst (data : Bool) {b : Bk} (h : chkB b = 0) : (encB data b).1 = layB data b := by unfold encB; rw [if_neg (by simpa using h)]
end K
end Go.Proofs.YtlamdhekjlnccaaGreatDoor

/- Blocks (chapter 11): rows of entries in blocks of their own. -/
namespace Go.Proofs.YtlamdhekjlnccaaGreatDoor
open Go.RowKit
namespace K
theorem enC_setData {e : En} {dc m : List Value} (v : V) (hd : dc.length = 6) : (enC e dc).take 5 ++ m ++ (enC e dc).drop (5 + 6) = enC { e with data := v } m := by
  have : (enC e dc).drop 11 = hashC e.hash ++ [.bool e.gone, .int .i64 e.ab, .int .i64 e.ae] := by
    unfold enC
    simp only [List.drop_succ_cons]
    rw [List.drop_append, List.drop_eq_nil_of_le (by rw [hd]; omega), hd]
    simp
  rw [this]
  simp [enC]
theorem enC_setGone {e : En} {dc : List Value} (g : Bool) (hd : dc.length = 6) (hh : e.hash.length = 32) : (enC e dc).set 43 (.bool g) = enC { e with gone := g } dc := by
  have h1 : enC e dc = (.int .i64 e.kind :: .string e.text :: .int .i64 e.table :: .int .i64 e.doc :: .int .i64 e.ver :: (dc ++ hashC e.hash)) ++ [.bool e.gone, .int .i64 e.ab, .int .i64 e.ae] := by simp [enC]
  have h2 : (Value.int IntKind.i64 e.kind :: .string e.text :: .int .i64 e.table :: .int .i64 e.doc :: .int .i64 e.ver :: (dc ++ hashC e.hash)).length = 43 := by simp [hd, hh]
  rw [h1, List.set_append_right _ _ (by omega), h2]
  simp [enC]
theorem mid_set {A B C m : List Value} {x off k : Nat} (hA : A.length = x) (hk : m.length = k) (hB : off + k ≤ B.length) :
    (A ++ (B ++ C)).take (x + off) ++ m ++ (A ++ (B ++ C)).drop (x + off + k) = A ++ ((B.take off ++ m ++ B.drop (off + k)) ++ C) := by
  subst hA; subst hk
  rw [List.take_append, List.take_of_length_le (by omega), Nat.add_sub_cancel_left, List.take_append_of_le_length (by omega)]
  rw [Nat.add_assoc, List.drop_append, List.drop_eq_nil_of_le (by omega), Nat.add_sub_cancel_left, List.nil_append, List.drop_append_of_le_length (by omega)]
  simp [List.append_assoc]
theorem one_set {A B C : List Value} {x off : Nat} (v : Value) (hA : A.length = x) (hB : off < B.length) : (A ++ (B ++ C)).set (x + off) v = A ++ (B.set off v ++ C) := by
  subst hA
  rw [List.set_append_right _ _ (by omega), Nat.add_sub_cancel_left, List.set_append_left _ _ hB]
theorem flat_len {k : List (List Value)} {m : Nat} (h : ∀ x ∈ k, x.length = m) : k.flatten.length = k.length * m := by
  induction k with
  | nil => simp
  | cons a r ih =>
    rw [List.flatten_cons, List.length_append, h a (by simp), ih fun x hx => h x (List.mem_cons_of_mem _ hx), List.length_cons, Nat.succ_mul]; omega
/-- A row of entries in a block of its own. -/
structure RowE (P : En → List Value → Prop) (w : World) (g : Nat) (kcs : List (List Value)) (tail : List Value) (es : List En) : Prop where
  blk : VBlk 45 w g (kcs.flatten ++ tail)
  len : kcs.length = es.length
  ats : ∀ j, j < es.length → (kcs.getD j []).length = 46 ∧ P (es.getD j noE) (kcs.getD j [])
theorem RowE.all {P : En → List Value → Prop} {w : World} {g : Nat} {kcs : List (List Value)} {tail : List Value} {es : List En} (h : RowE P w g kcs tail es) : ∀ x ∈ kcs, x.length = 46 :=
  all_of_getD fun j hj => (h.ats j (by have := h.len; omega)).1
theorem RowE.keep {P P' : En → List Value → Prop} {w w' : World} {g : Nat} {kcs : List (List Value)} {tail : List Value} {es : List En} (h : RowE P w g kcs tail es) {K : Nat → Prop} (hk : Keep K w w') (hg : K g) (hP : ∀ x cs, P x cs → P' x cs) : RowE P' w' g kcs tail es :=
  ⟨VBlk.keep h.blk hk hg, h.len, fun j hj => ⟨(h.ats j hj).1, hP _ _ (h.ats j hj).2⟩⟩
/-- The row reads so. -/
theorem RowE.els {P : En → List Value → Prop} {O : Nat → Prop} {w : World} {g cap : Nat} {kcs : List (List Value)} {tail : List Value} {es : List En} (h : RowE P w g kcs tail es) (hO : O g) (h1 : es.length ≤ cap) (h2 : cap ≤ 9223372036854775807) : Els 46 noE P O w (.slice (some ⟨g, 0, none⟩) es.length cap) es := by
  refine ⟨_, cap, rfl, h1, h2, (fun h => by cases h), fun _ => ⟨g, 0, rfl, h.blk.lt, hO, fun j hj => ⟨kcs.getD j [], (h.ats j hj).1, (h.ats j hj).2, fun i u hu => ?_⟩⟩⟩
  have him : i < 46 := by
    rcases Nat.lt_or_ge i 46 with h3 | h3
    · exact h3
    · rw [List.getElem?_eq_none (by rw [(h.ats j hj).1]; exact h3)] at hu; cases hu
  have hjk : j < kcs.length := by have := h.len; omega
  have hg := flatten_get kcs h.all j i hjk him
  have hlt : j * 46 + i < kcs.flatten.length := by
    rcases Nat.lt_or_ge (j * 46 + i) kcs.flatten.length with h3 | h3
    · exact h3
    · rw [List.getElem?_eq_none h3, hu] at hg; cases hg
  have := VBlk.rangeAt h.blk (j * 46 + i) u (by rw [List.getElem?_append_left hlt, hg, hu])
  rwa [← Nat.add_assoc] at this
/-- The row at an entry. -/
theorem RowE.split {P : En → List Value → Prop} {w : World} {g : Nat} {kcs : List (List Value)} {tail : List Value} {es : List En} (h : RowE P w g kcs tail es) {j : Nat} (hj : j < es.length) :
    kcs.flatten ++ tail = (kcs.take j).flatten ++ (kcs.getD j [] ++ ((kcs.drop (j + 1)).flatten ++ tail)) ∧ (kcs.take j).flatten.length = j * 46 := by
  have hjk : j < kcs.length := by have := h.len; omega
  constructor
  · have e : kcs = kcs.take j ++ (kcs.getD j [] :: kcs.drop (j + 1)) := by
      rw [show kcs.getD j [] = kcs[j] by simp [hjk], ← List.drop_eq_getElem_cons hjk, List.take_append_drop]
    conv => lhs; rw [e]
    simp [List.flatten_append, List.append_assoc]
  · rw [flat_len fun x hx => h.all x (List.mem_of_mem_take hx), List.length_take]
    have : min j kcs.length = j := by omega
    rw [this]
/-- Another entry in its place. -/
theorem RowE.put {P P' : En → List Value → Prop} {w w' : World} {g : Nat} {kcs : List (List Value)} {tail : List Value} {es : List En} (h : RowE P w g kcs tail es) {j : Nat} (hj : j < es.length) {e : En} {cs : List Value} (hc : cs.length = 46) (hp : P' e cs)
    (hb : VBlk 45 w' g ((kcs.take j).flatten ++ (cs ++ ((kcs.drop (j + 1)).flatten ++ tail)))) (hP : ∀ x cs, P x cs → P' x cs) : RowE P' w' g (kcs.set j cs) tail (es.set j e) := by
  have hjk : j < kcs.length := by have := h.len; omega
  refine ⟨?_, by rw [List.length_set, List.length_set]; exact h.len, fun i hi => ?_⟩
  · have e1 : kcs.set j cs = kcs.take j ++ (cs :: kcs.drop (j + 1)) := List.set_eq_take_append_cons_drop .. |>.trans (if_pos hjk)
    rw [e1]
    simpa [List.flatten_append, List.append_assoc] using hb
  · rw [List.length_set] at hi
    have hik : i < kcs.length := by have := h.len; omega
    rcases Nat.decEq j i with hne | rfl
    · have a1 : (kcs.set j cs).getD i [] = kcs.getD i [] := by simp [List.getD_eq_getElem?_getD, hne]
      have a2 : (es.set j e).getD i noE = es.getD i noE := by simp [List.getD_eq_getElem?_getD, hne]
      rw [a1, a2]
      exact ⟨(h.ats i hi).1, hP _ _ (h.ats i hi).2⟩
    · have a1 : (kcs.set j cs).getD j [] = cs := by simp [List.getD_eq_getElem?_getD, hjk]
      have a2 : (es.set j e).getD j noE = e := by simp [List.getD_eq_getElem?_getD, hj]
      rw [a1, a2]
      exact ⟨hc, hp⟩
theorem ownV_block {w : World} {O : Nat → Prop} {v : Value} {n : Nat} {l : List Value} (h : OwnV 45 46 w O v n l) (hn : 0 < n) : ∃ g cap tail, v = .slice (some ⟨g, 0, none⟩) n cap ∧ O g ∧ n ≤ cap ∧ cap ≤ 9223372036854775807 ∧ VBlk 45 w g (l ++ tail) := by
  rcases h.form with ⟨-, rfl, -⟩ | ⟨g, cap, cur, rfl, hO, -, hb, h1, h2, -, h4⟩
  · omega
  · refine ⟨g, cap, cur.toList.drop (n * 46), rfl, hO, h1, by unfold maxLen at h2; omega, ?_⟩
    unfold VBlk
    rw [← h4, List.take_append_drop, Array.toArray_toList]
    exact hb
/-- An own row lies so. -/
theorem OwnE.row {P : En → List Value → Prop} {O : Nat → Prop} {w : World} {v : Value} {es : List En} (h : OwnE 45 46 noE P O w v es) (hn : 0 < es.length) :
    ∃ g cap kcs tail, v = .slice (some ⟨g, 0, none⟩) es.length cap ∧ O g ∧ es.length ≤ cap ∧ cap ≤ 9223372036854775807 ∧ RowE P w g kcs tail es := by
  obtain ⟨kcs, h1, h2, h3⟩ := h
  obtain ⟨g, cap, tail, rfl, hO, h4, h5, h6⟩ := ownV_block h3 hn
  exact ⟨g, cap, kcs, tail, rfl, hO, h4, h5, h6, h1, h2⟩
/-- A row of entries as cells. -/
theorem els_slV {P : En → List Value → Prop} {O : Nat → Prop} {w : World} {v : Value} {es : List En} (h : Els 46 noE P O w v es) (h1 : ∀ x cs, P x cs → Ones cs) :
    ∃ kcs : List (List Value), kcs.length = es.length ∧ (∀ j, j < es.length → (kcs.getD j []).length = 46 ∧ P (es.getD j noE) (kcs.getD j [])) ∧ SlV w O 46 v es.length kcs.flatten := by
  obtain ⟨sp, cap, rfl, h2, h3, h5, h4⟩ := h
  have key : ∀ j, j < es.length → ∃ cs : List Value, cs.length = 46 ∧ P (es.getD j noE) cs ∧ ∀ b o, sp = some ⟨b, o, none⟩ → w.rangeAt b (o + j * 46) cs := fun j hj => by
    obtain ⟨b, o, rfl, -, -, hr⟩ := h4 (by omega)
    obtain ⟨cs, a1, a2, a3⟩ := hr j hj
    exact ⟨cs, a1, a2, fun b' o' e => by cases e; exact a3⟩
  obtain ⟨f, hf⟩ := Deep.choose_lt key
  have hget : ∀ k, k < es.length → ((List.range es.length).map f).getD k [] = f k := fun k hk => by simp [hk]
  have hall : ∀ x ∈ (List.range es.length).map f, x.length = 46 := fun x hx => by
    obtain ⟨i, hi, rfl⟩ := List.mem_map.1 hx
    exact (hf i (List.mem_range.1 hi)).1
  have hlen : ((List.range es.length).map f).length = es.length := by simp
  refine ⟨(List.range es.length).map f, hlen, fun j hj => by rw [hget j hj]; exact ⟨(hf j hj).1, (hf j hj).2.1⟩, by rw [flat_len hall, hlen], fun u hu => ?_, sp, cap, rfl, h2, h3, h5, fun h0 => ?_⟩
  · obtain ⟨x, hx, hu⟩ := List.mem_flatten.1 hu
    obtain ⟨i, hi, rfl⟩ := List.mem_map.1 hx
    exact h1 _ _ (hf i (List.mem_range.1 hi)).2.1 u hu
  · obtain ⟨b, o, rfl, hb, hO, -⟩ := h4 h0
    refine ⟨b, o, rfl, hb, hO, fun q hq => ?_⟩
    rw [flat_len hall, hlen] at hq
    have hk : q / 46 < es.length := by omega
    have hm : q % 46 < 46 := Nat.mod_lt _ (by omega)
    have e1 : q / 46 * 46 + q % 46 = q := by omega
    have hg := flatten_get _ hall (q / 46) (q % 46) (by rw [hlen]; exact hk) hm
    rw [e1, hget _ hk] at hg
    have hx : (f (q / 46))[q % 46]? = some ((f (q / 46))[q % 46]'(by rw [(hf _ hk).1]; exact hm)) := List.getElem?_eq_getElem _
    have := (hf _ hk).2.2 b o rfl (q % 46) _ hx
    rw [Nat.add_assoc, e1] at this
    rw [this, ← hx, ← hg]
    have hql : q < ((List.range es.length).map f).flatten.length := by rw [flat_len hall, hlen]; omega
    generalize ((List.range es.length).map f).flatten = F at hql
    simp [hql]
/-- slices.Clone of entries. -/
theorem cloneE_any {P : En → List Value → Prop} {O : Nat → Prop} {w : World} {v : Value} {es : List En} (h : Els 46 noE P O w v es) (h1 : ∀ x cs, P x cs → Ones cs) (hn : 0 < es.length) (hl : es.length ≤ 3000) :
    Calls Tryz.prog 73 #[v] w fun r w' => Below w.heap.size w w' ∧ ∃ g cap kcs tail, r = .returned (.slice (some ⟨g, 0, none⟩) es.length cap) ∧ w.heap.size ≤ g ∧ es.length ≤ cap ∧ cap ≤ 9223372036854775807 ∧ RowE P w' g kcs tail es := by
  obtain ⟨kcs, k1, k2, k3⟩ := els_slV h h1
  obtain ⟨sp, cap, rfl⟩ := h.slice
  obtain ⟨b, o, cap', -, e, -⟩ := h.at hn
  injection e with e1 _ e2
  subst e1
  refine enter (args := [.slice (some ⟨b, o, none⟩) es.length cap]) Tryz.func73 rfl Tryz.ntmps73 rfl ?_
  refine kgo ?_
  refine WL.nilS rfl rfl rfl rfl rfl rfl rfl ?_
  show WL _ _ _ _ ((_, .bool false) :: _) _
  refine kgo ?_
  refine WL.empty rfl rfl rfl rfl rfl fun g w1 hf => ?_
  have hf' : Fresh w g w1 45 [] := hf
  clear hf
  have hg := hf'.eq
  have hz := hf'.size
  have hb1 := hf'.below
  refine kgo ?_
  have hown : OwnV 45 46 w1 (fun x => x = g) (.slice (some ⟨g, 0, none⟩) 0 0) 0 [] := ⟨⟨by simp, .inr ⟨g, 0, #[], rfl, Nat.zero_le _, hf'.blk, Nat.le_refl _, by unfold maxLen; omega, by simp, by simp⟩⟩, fun _ h => (List.not_mem_nil h).elim, fun g h => by cases h; rfl⟩
  refine WL.appV rfl rfl rfl rfl elemE rfl hown rfl (k3.below hb1 (Nat.le_refl _)) (by omega) (by omega) fun v2 w2 ho2 hg2 => ?_
  have hb2 : Below w.heap.size w w2 := hb1.trans (hg2.old (B := w.heap.size) (by omega) (fun x hx => by have : g = x := Option.some.inj hx; omega))
  simp only [Nat.zero_add, List.nil_append] at ho2
  obtain ⟨g2, cap2, tail, rfl, hO, h4, h5, h6⟩ := ownV_block ho2 hn
  refine kgo ?_
  exact WQ.ret1 rfl rfl ⟨hb2, g2, cap2, kcs, tail, rfl, by omega, h4, h5, h6, k1, k2⟩
end K
end Go.Proofs.YtlamdhekjlnccaaGreatDoor

/- Blocks (chapter 11): ownBlock. -/
namespace Go.Proofs.YtlamdhekjlnccaaGreatDoor
open Go.RowKit
namespace K
set_option maxHeartbeats 8000000 in
theorem ownBlock_any {f : Nat} {w : World} {b : Bk} {cs : List Value} (h : IsB f w b cs) (hsm : ∀ e ∈ b.ents, Sm 3000 f e.data) (hn0 : 0 < b.ents.length) (hle : b.ents.length ≤ 3000) :
    Calls Tryz.prog 48 #[.agg cs.toArray] w fun r w' => Below w.heap.size w w' ∧ ∃ g cap kcs tail, r = .returned (.agg (bkC b (.slice (some ⟨g, 0, none⟩) b.ents.length cap)).toArray) ∧ b.ents.length ≤ cap ∧ cap ≤ 9223372036854775807 ∧ w.heap.size ≤ g ∧ RowE (IsEo (fun x => w.heap.size ≤ x ∧ x ≠ g) f w') w' g kcs tail b.ents := by
  have hcl := h.len
  obtain ⟨se, rfl, hents, hpl, hpb, hr⟩ := h
  obtain ⟨sp, cap, rfl⟩ := hents.slice
  refine enter (args := [.agg (bkC b (.slice sp b.ents.length cap)).toArray]) Tryz.func48 rfl Tryz.ntmps48 rfl ?_
  refine kgo ?_
  refine WL.box rfl rfl rfl rfl rfl fun g1 w1 hf => ?_
  have hf' : Fresh w g1 w1 26 (bkC b (.slice sp b.ents.length cap)) := hf
  clear hf
  refine WL.alloc (z := .agg (bkC noB (.slice none 0 0)).toArray) rfl rfl rfl rfl (fun _ => by kernel_rfl) fun rg w2 hf2 => ?_
  have hf2' : Fresh w1 rg w2 26 (bkC noB (.slice none 0 0)) := hf2
  clear hf2
  have hg := hf'.eq
  have hz1 := hf'.size
  have hrg := hf2'.eq
  have hz2 := hf2'.size
  have hw2 : Below w.heap.size w w2 := hf'.below.trans (hf2'.below.mono hf'.below.size)
  have B2 : BkAt 26 g1 w2 b (.slice sp b.ents.length cap) := ⟨hf'.blk.below hf2'.below hf'.blk.lt, hpl⟩
  have R2 := hf2'.blk
  clear hf' hf2'
  have hels2 : Els 46 noE (IsE f w) (fun _ => True) w2 (.slice sp b.ents.length cap) b.ents := hents.keep (Keep.of_below hw2) (fun x _ hl => hl) (fun _ h => h) fun _ _ h => h
  refine kgo ?_
  refine WL.load rfl rfl rfl rfl rfl rfl B2.ents ?_
  refine WL.call rfl rfl rfl rfl rfl Tryz.func73 rfl (by kernel_rfl) (cloneE_any hels2 (fun _ _ h => EnP.one h) hn0 hle) ?_
  rintro _ w3 ⟨hk3, g, cap3, kcs, tail, rfl, hgw, hc1, hc2, hrow⟩
  refine ⟨_, rfl, ?_⟩
  have B3 := B2.below hk3
  have R3 := R2.below hk3 R2.lt
  have hw3 := hw2.trans (hk3.mono hw2.size)
  have hz3 := hk3.size
  have hgl := hrow.blk.lt
  refine kgo ?_
  refine WL.store rfl rfl rfl rfl rfl rfl (by kernel_rfl) B3.ents (B3.blk.free 35) ?_
  have hset : Keep (fun x => x ≠ g1) w3 (w3.setCell ⟨g1, 35, none⟩ (.slice (some ⟨g, 0, none⟩) b.ents.length cap3)) := (Keep.refl _ w3).setCell (fun hk => hk rfl) _
  have B4' := B3.setEnts (.slice (some ⟨g, 0, none⟩) b.ents.length cap3) b.ents
  have R4 : VBlk 26 (w3.setCell ⟨g1, 35, none⟩ (.slice (some ⟨g, 0, none⟩) b.ents.length cap3)) rg (bkC noB (.slice none 0 0)) := R3.other _ _ (by show rg ≠ g1; omega)
  have hw4 : Below w.heap.size w (w3.setCell ⟨g1, 35, none⟩ (.slice (some ⟨g, 0, none⟩) b.ents.length cap3)) := Keep.below (Keep.setCell (Keep.of_below hw3) (fun hk => by simp only at hk; omega) _)
  have hblk4 := VBlk.keep hrow.blk hset (by show g ≠ g1; omega)
  have hz4 := hset.size
  generalize w3.setCell ⟨g1, 35, none⟩ (.slice (some ⟨g, 0, none⟩) b.ents.length cap3) = w4 at B4' R4 hw4 hblk4 hz4 ⊢
  have B4 : BkAt 26 g1 w4 b (.slice (some ⟨g, 0, none⟩) b.ents.length cap3) := B4'
  clear B4' hset
  have hkl := hrow.len
  refine kgo ?_
  refine WL.load rfl rfl rfl rfl rfl rfl B4.ents ?_
  refine kgo ?_
  refine WC.loop (fun i : Nat => [(1, .pointer (some ⟨g1, 0, none⟩)), (2, .pointer (some ⟨rg, 0, none⟩)), (10, .int .i64 b.ents.length), (11, .int .i64 i)])
    (fun i wr => i ≤ b.ents.length ∧ Below w.heap.size w wr ∧ w4.heap.size ≤ wr.heap.size ∧ BkAt 26 g1 wr b (.slice (some ⟨g, 0, none⟩) b.ents.length cap3) ∧ VBlk 26 wr rg (bkC noB (.slice none 0 0)) ∧
      ∃ done : List (List Value), VBlk 45 wr g (done.flatten ++ ((kcs.drop i).flatten ++ tail)) ∧ done.length = i ∧ ∀ j, j < i → (done.getD j []).length = 46 ∧ IsEo (fun x => w4.heap.size ≤ x) f wr (b.ents.getD j noE) (done.getD j [])) (fun i => b.ents.length - i) 0
    ⟨rfl, rfl, rfl, rfl, trivial⟩ ⟨Nat.zero_le _, hw4, Nat.le_refl _, B4, R4, [], by simpa using hblk4, rfl, fun j hj => by omega⟩ ?_
  rintro i wr ⟨hi, hwr, hzr, Br, Rr, done, V, hdl0, hdone⟩
  have hA : done.flatten.length = i * 46 := by
    rw [flat_len (all_of_getD fun j hj => (hdone j (by omega)).1), hdl0]
  by_cases hik : i < b.ents.length
  · have hmem : b.ents.getD i noE ∈ b.ents := by simp [hik]
    have hsm1 := hsm _ hmem
    obtain ⟨hc46, hce⟩ := hrow.ats i hik
    have hdrop : kcs.drop i = kcs.getD i [] :: kcs.drop (i + 1) := by
      have hik2 : i < kcs.length := by omega
      rw [List.drop_eq_getElem_cons hik2]
      simp [hik2]
    rw [hdrop, List.flatten_cons, List.append_assoc] at V
    generalize hev : b.ents.getD i noE = e at hce hsm1
    generalize kcs.getD i [] = cs at hce hc46 V
    generalize hCC : (kcs.drop (i + 1)).flatten ++ tail = CC at V
    obtain ⟨dc, rfl, hv, hdl, hdo, hh, hby, htx, hrr⟩ := hce
    have hrd : ∀ {wx : World}, VBlk 45 wx g (done.flatten ++ (enC e dc ++ CC)) → wx.rangeAt g (i * 46 + 5) dc := fun {wx} hx => by
      have := VBlk.part hx done.flatten (enC e dc) CC rfl
      rw [hA] at this
      exact enC_dataAt hdl this
    refine kgo ?_
    refine WC.drawn 10 (fun wx => BkAt 26 g1 wx b (.slice (some ⟨g, 0, none⟩) b.ents.length cap3) ∧ VBlk 45 wx g (done.flatten ++ (enC e dc ++ CC))) fun w5 hd5 => ?_
    have k5 : Below wr.heap.size wr w5 := hd5.below _
    have hS : BkAt 26 g1 w5 b (.slice (some ⟨g, 0, none⟩) b.ents.length cap3) ∧ VBlk 45 w5 g (done.flatten ++ (enC e dc ++ CC)) := ⟨Br.below k5, V.below k5 V.lt⟩
    have hw5 := hwr.trans (k5.mono hwr.size)
    have hz5 := k5.size
    (((first | refine WD.free 0 rfl (by kernel_rfl) rfl rfl (fun _ _ _ _ _ h => h) rfl rfl (.inr hS) ?_ | refine WD.skip 0 rfl (by kernel_rfl) rfl rfl (fun _ _ _ _ _ h => h) rfl (.inr hS) ?_); try (first | ((with_reducible refine WD.topT ?_ ?_); omega) | ((with_reducible refine WD.topF ?_ ?_); omega) | ((with_reducible refine WD.top64 ?_ ?_); omega))); ((first | refine WD.free 2 rfl (by kernel_rfl) rfl rfl (fun _ _ _ _ _ h => h) rfl rfl (.inr hS) ?_ | refine WD.skip 2 rfl (by kernel_rfl) rfl rfl (fun _ _ _ _ _ h => h) rfl (.inr hS) ?_); try (first | ((with_reducible refine WD.topT ?_ ?_); omega) | ((with_reducible refine WD.topF ?_ ?_); omega) | ((with_reducible refine WD.top64 ?_ ?_); omega))); ((first | refine WD.free 3 rfl (by kernel_rfl) rfl rfl (fun _ _ _ _ _ h => h) rfl rfl (.inr hS) ?_ | refine WD.skip 3 rfl (by kernel_rfl) rfl rfl (fun _ _ _ _ _ h => h) rfl (.inr hS) ?_); try (first | ((with_reducible refine WD.topT ?_ ?_); omega) | ((with_reducible refine WD.topF ?_ ?_); omega) | ((with_reducible refine WD.top64 ?_ ?_); omega))); ((first | refine WD.free 5 rfl (by kernel_rfl) rfl rfl (fun _ _ _ _ _ h => h) rfl rfl (.inr hS) ?_ | refine WD.skip 5 rfl (by kernel_rfl) rfl rfl (fun _ _ _ _ _ h => h) rfl (.inr hS) ?_); try (first | ((with_reducible refine WD.topT ?_ ?_); omega) | ((with_reducible refine WD.topF ?_ ?_); omega) | ((with_reducible refine WD.top64 ?_ ?_); omega))))
    refine WD.load 1 [10, 11, 12] rfl (by kernel_rfl) rfl rfl (fun _ _ _ _ _ h => h) rfl rfl rfl rfl (fun wx hx => hx.1.ents) hS ?_
    refine WD.load 4 [6, 7, 8, 9, 10, 11, 12] rfl (by kernel_rfl) rfl rfl (fun _ _ _ _ _ h => h) rfl rfl rfl rfl (fun wx hx => hx.1.ents) hS ?_
    refine WD.idx 6 i (i * 46) rfl (by kernel_rfl) rfl rfl (fun _ _ _ _ _ h => h) rfl rfl rfl rfl rfl rfl hik (by omega) (.inr hS) ?_
    (((first | refine WD.free 7 rfl (by kernel_rfl) rfl rfl (fun _ _ _ _ _ h => h) rfl rfl (.inr hS) ?_ | refine WD.skip 7 rfl (by kernel_rfl) rfl rfl (fun _ _ _ _ _ h => h) rfl (.inr hS) ?_); try (first | ((with_reducible refine WD.topT ?_ ?_); omega) | ((with_reducible refine WD.topF ?_ ?_); omega) | ((with_reducible refine WD.top64 ?_ ?_); omega))))
    refine WD.loadMid 8 [9, 10, 11, 12] rfl (by kernel_rfl) rfl rfl (fun _ _ _ _ _ h => h) rfl rfl rfl rfl (fun wx hx => hrd hx.2) hdl hS ?_
    refine WD.one 9 (by kernel_rfl) rfl ?_
    refine WL.call rfl rfl rfl rfl rfl Tryz.func74 rfl (by kernel_rfl) (own_any (B := 3000) (by omega) f (hv.below hw5) hsm1) ?_
    rintro _ w6 ⟨hk6, c7, rfl, hv7⟩
    refine ⟨_, rfl, ?_⟩
    have hc7 := hv7.len
    have k6 : Below wr.heap.size wr w6 := k5.trans (hk6.mono k5.size)
    have hz6 := hk6.size
    have V6 := hS.2.below hk6 hS.2.lt
    have B6 := hS.1.below hk6
    refine WL.nil (WQ.dk (.inr ⟨B6, V6⟩) ?_)
    refine WD.one 10 (by kernel_rfl) rfl ?_
    refine WL.idx i (i * 46) rfl rfl rfl rfl rfl rfl rfl rfl hik (by omega) ?_
    refine WL.nil (WQ.dk (.inl rfl) ?_)
    (((first | refine WD.free 11 rfl (by kernel_rfl) rfl rfl (fun _ _ _ _ _ h => h) rfl rfl (.inl rfl) ?_ | refine WD.skip 11 rfl (by kernel_rfl) rfl rfl (fun _ _ _ _ _ h => h) rfl (.inl rfl) ?_); try (first | ((with_reducible refine WD.topT ?_ ?_); omega) | ((with_reducible refine WD.topF ?_ ?_); omega) | ((with_reducible refine WD.top64 ?_ ?_); omega))))
    refine WD.one 12 (by kernel_rfl) rfl ?_
    have h46 : (enC e dc).length = 46 := hc46
    refine WL.storeMid rfl rfl rfl rfl rfl rfl V6 hc7 (by rw [List.length_append, List.length_append, hA, h46]; omega) hv7.one ?_
    have V7 := V6.setRow ((done.flatten ++ (enC e dc ++ CC)).take (i * 46 + 5) ++ c7 ++ (done.flatten ++ (enC e dc ++ CC)).drop (i * 46 + 5 + 6))
    have hkg : Keep (fun x => x ≠ g) w6 (w6.setRow g ((done.flatten ++ (enC e dc ++ CC)).take (i * 46 + 5) ++ c7 ++ (done.flatten ++ (enC e dc ++ CC)).drop (i * 46 + 5 + 6)).toArray) := Keep.setRow (Keep.refl _ w6) (fun hk => hk rfl) _
    have hw7 : Below w.heap.size w (w6.setRow g ((done.flatten ++ (enC e dc ++ CC)).take (i * 46 + 5) ++ c7 ++ (done.flatten ++ (enC e dc ++ CC)).drop (i * 46 + 5 + 6)).toArray) := Keep.below (Keep.setRow (Keep.of_below (hwr.trans (k6.mono hwr.size))) (fun hk => by omega) _)
    generalize w6.setRow g ((done.flatten ++ (enC e dc ++ CC)).take (i * 46 + 5) ++ c7 ++ (done.flatten ++ (enC e dc ++ CC)).drop (i * 46 + 5 + 6)).toArray = w7 at V7 hkg hw7 ⊢
    rw [mid_set hA hc7 (by rw [h46]; omega), enC_setData e.data hdl] at V7
    have V7 : VBlk 45 w7 g (done.flatten ++ (enC e c7 ++ CC)) := V7
    refine WL.nil (WQ.dk (.inl rfl) ?_)
    refine WD.done (by kernel_rfl) ?_
    have hz7 := hkg.size
    refine kgo ?_
    refine WQ.again (i + 1) ⟨rfl, rfl, rfl, rfl, trivial⟩ ⟨hik, hw7, by omega, B6.keep hkg (by show g1 ≠ g; omega), VBlk.keep (Rr.below k6 Rr.lt) hkg (by show rg ≠ g; omega), done ++ [enC e c7], ?_, by rw [List.length_append, hdl0]; rfl, fun j hj => ?_⟩ (by show b.ents.length - (i + 1) < b.ents.length - i; omega)
    · rw [hCC, List.flatten_append]
      simpa [List.append_assoc] using V7
    · have hP : ∀ x cs, IsEo (fun x => w4.heap.size ≤ x) f wr x cs → IsEo (fun x => w4.heap.size ≤ x) f w7 x cs := fun x cs hx => EnP.mono (fun v cs hv => IsVo.keep hkg (fun x hx _ => by show x ≠ g; omega) (fun _ h => h) (IsVo.keep (Keep.of_below k6) (fun x _ hl => hl) (fun _ h => h) hv)) hx
      rcases Nat.lt_or_ge j i with h | h
      · have a1 : (done ++ [enC e c7]).getD j [] = done.getD j [] := by
          rw [List.getD_eq_getElem?_getD, List.getD_eq_getElem?_getD, List.getElem?_append_left (by omega)]
        rw [a1]
        exact ⟨(hdone j h).1, hP _ _ (hdone j h).2⟩
      · obtain rfl : j = i := by omega
        have a1 : (done ++ [enC e c7]).getD j [] = enC e c7 := by
          rw [List.getD_eq_getElem?_getD, List.getElem?_append_right (by omega), hdl0, Nat.sub_self]
          rfl
        rw [a1, hev]
        exact ⟨by simp [enC, hc7, hh], c7, rfl, IsVo.keep hkg (fun x hx _ => by show x ≠ g; omega) (fun x hx => by omega) hv7, hc7, hv7.one, hh, hby, htx, hrr⟩
  · obtain rfl : i = b.ents.length := by omega
    have hd0 : kcs.drop b.ents.length = [] := List.drop_eq_nil_of_le (by omega)
    rw [hd0, List.flatten_nil, List.nil_append] at V
    refine kgo ?_
    refine WL.loadMid rfl rfl rfl rfl rfl rfl (VBlk.rangeAt Br.blk) Br.len ?_
    have hone : Ones (bkC b (.slice (some ⟨g, 0, none⟩) b.ents.length cap3)) := by
      intro u hu
      unfold bkC at hu
      simp only [List.mem_cons, List.mem_append, List.not_mem_nil, or_false] at hu
      rcases hu with rfl | rfl | rfl | hu | rfl
      all_goals first | rfl | exact Ones.int _ _ u hu
    refine WL.storeRow rfl rfl rfl rfl rfl rfl Rr Br.len (by rfl) hone ?_
    refine kgo ?_
    have hset2 : ∀ a, Keep (fun x => x ≠ rg) wr (wr.setRow rg a) := fun a => Keep.setRow (Keep.refl _ wr) (fun hk => hk rfl) a
    refine WQ.retC rfl rfl rfl Br.len (Rr.setRow _) ⟨Keep.below (Keep.setRow (Keep.of_below hwr) (fun hk => by omega) _), g, cap3, done, tail, rfl, hc1, hc2, by omega, VBlk.keep V (hset2 _) (by show g ≠ rg; omega), hdl0, fun j hj => ⟨(hdone j hj).1, ?_⟩⟩
    exact EnP.mono (fun v cs hv => IsVo.keep (hset2 _) (fun x hx _ => by show x ≠ rg; omega) (fun x hx => by omega) hv) (hdone j hj).2
end K
end Go.Proofs.YtlamdhekjlnccaaGreatDoor

/- The document's blocks (chapter 11): Clone, with its row. -/
namespace Go.Proofs.YtlamdhekjlnccaaGreatDoor
open Go.RowKit
namespace K
set_option maxHeartbeats 8000000 in
theorem rclone11r_any {f : Nat} {w : World} {b : Bk} {cs : List Value} (h : IsB f w b cs) (hsm : ∀ e ∈ b.ents, Sm 3000 f e.data) (hle : b.ents.length ≤ 3000) :
    Calls Tryz.prog 6 #[.agg cs.toArray] w fun r w' => Below w.heap.size w w' ∧ ∃ (se : Value) (q : Nat → Prop), r = .returned (.agg (bkC b se).toArray) ∧ OwnE 45 46 noE (IsEo q f w') (fun x => w.heap.size ≤ x) w' se b.ents ∧ ∀ x, q x → w.heap.size ≤ x ∧ se.ownBlock ≠ some x := by
  have hcl := h.len
  obtain ⟨se, rfl, hents, hpl, hpb, hr⟩ := h
  obtain ⟨sp, cap, rfl⟩ := hents.slice
  refine enter (args := [.agg (bkC b (.slice sp b.ents.length cap)).toArray]) Tryz.func6 rfl Tryz.ntmps6 rfl ?_
  refine kgo ?_
  refine WL.box rfl rfl rfl rfl rfl fun g w1 hf => ?_
  have hf' : Fresh w g w1 26 (bkC b (.slice sp b.ents.length cap)) := hf
  clear hf
  refine WL.alloc (z := .agg (bkC noB (.slice none 0 0)).toArray) rfl rfl rfl rfl (fun _ => by kernel_rfl) fun rg w2 hf2 => ?_
  have hf2' : Fresh w1 rg w2 26 (bkC noB (.slice none 0 0)) := hf2
  clear hf2
  have hg := hf'.eq
  have hz1 := hf'.size
  have hrg := hf2'.eq
  have hz2 := hf2'.size
  have hw2 : Below w.heap.size w w2 := hf'.below.trans (hf2'.below.mono hf'.below.size)
  have B2 : BkAt 26 g w2 b (.slice sp b.ents.length cap) := ⟨hf'.blk.below hf2'.below hf'.blk.lt, hpl⟩
  have R2 := hf2'.blk
  clear hf' hf2'
  refine kgo ?_
  refine WC.loop (fun i : Nat × Value => [(1, .pointer (some ⟨g, 0, none⟩)), (2, .pointer (some ⟨rg, 0, none⟩)), (3, i.2), (4, .int .i64 i.1)])
    (fun i wr => i.1 ≤ b.ents.length ∧ Below w2.heap.size w2 wr ∧ ∃ q : Nat → Prop, OwnE 45 46 noE (IsEo q f wr) (fun x => w2.heap.size ≤ x) wr i.2 (b.ents.take i.1) ∧ ∀ x, q x → w2.heap.size ≤ x ∧ x < wr.heap.size ∧ i.2.ownBlock ≠ some x) (fun i => b.ents.length - i.1) (0, .slice none 0 0)
    ⟨rfl, rfl, rfl, rfl, trivial⟩ ⟨Nat.zero_le _, Below.refl _ _, fun _ => False, OwnE.nil _ _ _ _ _ _, fun x h => h.elim⟩ ?_
  rintro ⟨i, vk⟩ wr ⟨hi, hbr, q, hoE, hq⟩
  simp only at hi hbr hoE hq ⊢
  have Br := B2.below hbr
  have Rr := R2.below hbr R2.lt
  have hwr : Below w.heap.size w wr := hw2.trans (hbr.mono hw2.size)
  have hzr := hbr.size
  refine kgo ?_
  refine WL.load rfl rfl rfl rfl rfl rfl Br.ents ?_
  by_cases hik : i < b.ents.length
  · obtain ⟨kb, ko, cap', cs, hse, hkb, hc46, hce, hcr⟩ := hents.at hik
    injection hse with hse1 _ hse2
    subst hse1; subst hse2
    have hmem : b.ents.getD i noE ∈ b.ents := by simp [hik]
    have hsm1 := hsm _ hmem
    have hts := take_snoc b.ents noE hik
    generalize b.ents.getD i noE = e at hce hsm1 hts
    have hone := hce.one
    obtain ⟨dc, rfl, hv, hdl, hdo, hh, hby, htx, hrr⟩ := hce
    refine kgo ?_
    refine WL.load rfl rfl rfl rfl rfl rfl Br.ents ?_
    refine kgo ?_
    refine WL.idx i (ko + i * 46) rfl rfl rfl rfl rfl rfl rfl rfl hik rfl ?_
    refine WL.loadMid rfl rfl rfl rfl rfl rfl (fun j u hu => (hwr.cell (p := ⟨kb, ko + i * 46 + j, none⟩) hkb).trans (hcr j u hu)) hc46 ?_
    refine WL.alloc (z := .agg (enC noE zCells).toArray) rfl rfl rfl rfl (fun _ => by kernel_rfl) fun c w5 hf5 => ?_
    have hf5' : Fresh wr c w5 45 (enC noE zCells) := hf5
    clear hf5
    refine kgo ?_
    refine WL.storeRow rfl rfl rfl rfl rfl rfl hf5'.blk hc46 (by rfl) hone ?_
    have hk6 : Below wr.heap.size wr (w5.setRow c (enC e dc).toArray) := below_setRow hf5'.below (by rw [hf5'.eq]; exact Nat.le_refl _) _
    have C6 : EnAt 45 c (w5.setRow c (enC e dc).toArray) e dc := ⟨hf5'.blk.setRow _, hdl, hh⟩
    have hce5 := hf5'.eq
    generalize w5.setRow c (enC e dc).toArray = w6 at hk6 C6
    clear hf5'
    have hw6 := hwr.trans (hk6.mono hwr.size)
    have hz6 := hk6.size
    refine kgo ?_
    refine WL.loadMid rfl rfl rfl rfl rfl rfl C6.data hdl ?_
    refine WL.call rfl rfl rfl rfl rfl Tryz.func21 rfl (by kernel_rfl) (clone_any (B := 3000) (by omega) f (hv.below hw6) hsm1) ?_
    rintro _ w7 ⟨hk7, c7, rfl, hv7⟩
    refine ⟨_, rfl, ?_⟩
    have hz7 := hk7.size
    have C7 := C6.below hk7
    have hc7 := hv7.len
    refine kgo ?_
    refine WL.storeMid rfl rfl rfl rfl rfl rfl C7.blk hc7 (by rw [C7.len]; omega) hv7.one ?_
    have C8 := C7.setData (m := c7) (off := 0 + 5) e.data hc7 rfl
    have hk8 : Keep (fun x => x ≠ c) w7 (w7.setRow c ((enC e dc).take (0 + 5) ++ c7 ++ (enC e dc).drop (0 + 5 + 6)).toArray) := Keep.setRow (Keep.refl _ w7) (fun hk => hk rfl) _
    have hv8 : IsVo (fun x => w6.heap.size ≤ x ∧ x ≠ c ∧ x < (w7.setRow c ((enC e dc).take (0 + 5) ++ c7 ++ (enC e dc).drop (0 + 5 + 6)).toArray).heap.size) f (w7.setRow c ((enC e dc).take (0 + 5) ++ c7 ++ (enC e dc).drop (0 + 5 + 6)).toArray) e.data c7 :=
      hv7.there.keep hk8 (fun x hx _ => by have := C6.blk.lt; omega) fun x hx => by have := C6.blk.lt; have := hk8.size; omega
    have hw8 : Below wr.heap.size wr (w7.setRow c ((enC e dc).take (0 + 5) ++ c7 ++ (enC e dc).drop (0 + 5 + 6)).toArray) := Keep.below (Keep.setRow (Keep.of_below (hk6.trans (hk7.mono hz6))) (fun hk => by omega) _)
    generalize w7.setRow c ((enC e dc).take (0 + 5) ++ c7 ++ (enC e dc).drop (0 + 5 + 6)).toArray = w8 at C8 hv8 hw8 hk8
    have C8b : EnAt 45 c w8 e c7 := C8
    have hz8 := hw8.size
    refine kgo ?_
    refine WL.loadMid rfl rfl rfl rfl rfl rfl (VBlk.rangeAt C8b.blk) C8b.len ?_
    have hE8 : IsEo (fun x => w6.heap.size ≤ x ∧ x ≠ c ∧ x < w8.heap.size) f w8 e (enC e c7) := ⟨c7, rfl, hv8, hc7, hv7.one, hh, hby, htx, hrr⟩
    refine WL.lit1 rfl rfl rfl rfl rfl rfl rfl hE8.len ⟨by omega, by omega⟩ (by kernel_rfl) fun g9 w9 hf9 => ?_
    have hz9 := hf9.size
    have hk9 : Below wr.heap.size wr w9 := hw8.trans (hf9.below.mono hz8)
    have hoE9 : OwnE 45 46 noE (IsEo (fun x => q x ∨ (wr.heap.size ≤ x ∧ x < w9.heap.size)) f w9) (fun x => w2.heap.size ≤ x) w9 vk (b.ents.take i) :=
      hoE.keep (Keep.of_below hk9) (fun g hg => hoE.lt hg) (fun _ h => h) fun x cs hx => EnP.mono (fun v cs hv => IsVo.keep (Keep.of_below hk9) (fun x hx _ => (hq x hx).2.1) (fun x hx => .inl hx) hv) hx
    have hE9 : IsEo (fun x => q x ∨ (wr.heap.size ≤ x ∧ x < w9.heap.size)) f w9 e (enC e c7) := EnP.mono (fun v cs hv => IsVo.keep (Keep.of_below hf9.below) (fun x hx _ => hx.2.2) (fun x hx => .inr (by omega)) hv) hE8
    have hlt : (b.ents.take i).length ≤ i := by rw [List.length_take]; omega
    refine kgo ?_
    refine WL.snoc rfl rfl rfl rfl elemE rfl hoE9 rfl hf9.blk hE8.one hE8.len hE9 (by omega) (by omega) fun vk10 w10 ho10 hg10 => ?_
    have hbel10 : Below w2.heap.size w2 w10 := (hbr.trans (hk9.mono hzr)).trans (hg10.old (by omega) fun g hg => hoE9.own hg)
    have hq10 : ∀ x, (q x ∨ (wr.heap.size ≤ x ∧ x < w9.heap.size)) → w2.heap.size ≤ x ∧ x < w9.heap.size ∧ vk.ownBlock ≠ some x := fun x hx => hx.elim (fun h => by
      obtain ⟨h1, h2, h3⟩ := hq x h
      exact ⟨h1, by omega, h3⟩) fun h => ⟨by omega, h.2, fun e => by have := hoE.lt e; omega⟩
    refine kgo ?_
    refine WQ.again (i + 1, vk10) ⟨rfl, rfl, rfl, rfl, trivial⟩ ⟨hik, hbel10, (fun x => q x ∨ (wr.heap.size ≤ x ∧ x < w9.heap.size)), ?_, fun x hx => ?_⟩ (by show b.ents.length - (i + 1) < b.ents.length - i; omega)
    · show OwnE _ _ _ _ _ _ _ (b.ents.take (i + 1))
      rw [hts]
      exact ho10.keep (Keep.refl (fun _ => True) w10) (fun _ _ => trivial) (fun x hx => by omega) fun x cs hx => EnP.mono (fun v cs hv => IsVo.keep hg10.1 (fun x hx _ => (hq10 x hx).2) (fun x hx => hx) hv) hx
    · obtain ⟨h1, h2, h3⟩ := hq10 x hx
      exact ⟨h1, Nat.lt_of_lt_of_le h2 hg10.1.size, fun e => (hg10.2 x e).elim h3 fun h4 => by omega⟩
  · obtain rfl : i = b.ents.length := by omega
    rw [List.take_length] at hoE
    have hvk := hoE.one
    have hset : Keep (fun x => x ≠ g) wr (wr.setCell ⟨g, 35, none⟩ vk) := (Keep.refl _ wr).setCell (fun hk => hk rfl) _
    refine kgo ?_
    refine WL.store rfl rfl rfl rfl rfl hvk (by kernel_rfl) Br.ents (Br.blk.free 35) ?_
    have E1 := Br.setEnts vk b.ents
    have E2 : VBlk 26 (wr.setCell ⟨g, 35, none⟩ vk) rg (bkC noB (.slice none 0 0)) := Rr.other _ _ (by show rg ≠ g; omega)
    have hwE : Below w.heap.size w (wr.setCell ⟨g, 35, none⟩ vk) := Keep.below (Keep.setCell (Keep.of_below hwr) (fun hk => by simp only at hk; omega) _)
    have hown9 : OwnE 45 46 noE (IsEo q f (wr.setCell ⟨g, 35, none⟩ vk)) (fun x => w2.heap.size ≤ x) (wr.setCell ⟨g, 35, none⟩ vk) vk b.ents :=
      hoE.keep hset (fun x hx => by show x ≠ g; have := hoE.own hx; omega) (fun _ h => h) fun x cs hx => EnP.mono (fun v cs hv => IsVo.keep hset (fun x hx _ => by show x ≠ g; have := (hq x hx).1; omega) (fun _ h => h) hv) hx
    generalize wr.setCell ⟨g, 35, none⟩ vk = w9 at E1 E2 hwE hown9
    have E1b : BkAt 26 g w9 b vk := E1
    refine kgo ?_
    refine WL.loadMid rfl rfl rfl rfl rfl rfl (VBlk.rangeAt E1b.blk) E1b.len ?_
    have hone : Ones (bkC b vk) := by
      intro u hu
      unfold bkC at hu
      simp only [List.mem_cons, List.mem_append, List.not_mem_nil, or_false] at hu
      rcases hu with rfl | rfl | rfl | hu | rfl
      all_goals first | rfl | exact Ones.int _ _ u hu | exact hvk
    refine WL.storeRow rfl rfl rfl rfl rfl rfl E2 E1b.len (by rfl) hone ?_
    refine kgo ?_
    have hset2 : ∀ a, Keep (fun x => x ≠ rg) w9 (w9.setRow rg a) := fun a => Keep.setRow (Keep.refl _ w9) (fun hk => hk rfl) a
    refine WQ.retC rfl rfl rfl E1b.len (E2.setRow _) ⟨Keep.below (Keep.setRow (Keep.of_below hwE) (fun hk => by omega) _), vk, q, rfl, ?_, fun x hx => ⟨by have := (hq x hx).1; omega, (hq x hx).2.2⟩⟩
    exact hown9.keep (hset2 _) (fun x hx => by show x ≠ rg; have := hown9.own hx; omega) (fun x hx => by omega) fun x cs hx => EnP.mono (fun v cs hv => IsVo.keep (hset2 _) (fun x hx _ => by show x ≠ rg; have := (hq x hx).1; omega) (fun _ h => h) hv) hx
end K
end Go.Proofs.YtlamdhekjlnccaaGreatDoor

/- Blocks (chapter 11): Redact, the program's and the document's. -/
namespace Go.Proofs.YtlamdhekjlnccaaGreatDoor
open Go.RowKit
namespace K
/-- The block without one entry's data. -/
def redAt (b : Bk) (k : Nat) : Bk := { b with ents := b.ents.set k (redE false (b.ents.getD k noE)) }
theorem redAt_len (b : Bk) (k : Nat) : (redAt b k).ents.length = b.ents.length := List.length_set
open Classical in
/-- What Redact tells. -/
noncomputable def redR (b : Bk) (x : Int) : Bk × Int :=
  if chkB b ≠ 0 then (noB, chkB b)
  else if x < 0 ∨ (b.ents.length : Int) ≤ x ∨ (b.ents.getD x.toNat noE).kind ≠ 2 then (noB, 7)
  else if (b.ents.getD x.toNat noE).gone = true then (noB, 23)
  else (redAt b x.toNat, 0)
def RedPost (f : Nat) (w : World) (b : Bk) (x : Int) (r : Ending) (w' : World) : Prop := Below w.heap.size w w' ∧ ∃ cs, r = .returned (.tuple #[.agg cs.toArray, .int .i64 (redR b x).2]) ∧ IsB f w' (redR b x).1 cs
theorem noB_is (f : Nat) (w : World) : IsB f w noB (bkC noB (.slice none 0 0)) := ⟨_, rfl, Els.nil _ _ _ _ _, rfl, z32_byt, by show R64 0; omega, by show R64 0; omega, by show R64 0; omega⟩
/-- The row of a block, an entry of which has been taken away. -/
theorem red_row {f g cap k : Nat} {w : World} {q : Nat → Prop} {b : Bk} {kcs : List (List Value)} {tail dc : List Value} {e : En} (hrow : RowE (IsEo q f w) w g kcs tail b.ents) (hk : k < b.ents.length) (hf : 0 < f) (he : b.ents.getD k noE = e) (hk2 : e.kind = 2) (hcs : kcs.getD k [] = enC e dc)
    {w' : World} (hkp : Keep (fun x => x ≠ g) w w') (hq : ∀ x, q x → x ≠ g) {O : Nat → Prop} (hO : ∀ x, q x → O x) (hOg : O g) (hb : VBlk 45 w' g ((kcs.take k).flatten ++ (enC { e with gone := true, data := zV } zCells ++ ((kcs.drop (k + 1)).flatten ++ tail))))
    (h1 : b.ents.length ≤ cap) (h2 : cap ≤ 9223372036854775807) : Els 46 noE (IsEo O f w') O w' (.slice (some ⟨g, 0, none⟩) b.ents.length cap) (redAt b k).ents := by
  have hP : ∀ x cs, IsEo q f w x cs → IsEo O f w' x cs := fun x cs hx => EnP.mono (fun v cs hv => IsVo.keep hkp (fun x hx _ => hq x hx) hO hv) hx
  obtain ⟨f, rfl⟩ : ∃ f', f = f' + 1 := ⟨f - 1, by omega⟩
  have hold := (hrow.ats k hk).2
  rw [he, hcs] at hold
  obtain ⟨dc2, hcs2, -, hd2, -, hh, hby, htx, hr⟩ := hold
  have hnew : IsEo O (f + 1) w' { e with gone := true, data := zV } (enC { e with gone := true, data := zV } zCells) := ⟨zCells, rfl, zV_is O f w', rfl, (zV_is (fun _ => True) f w').one, hh, hby, htx, hr⟩
  have hput := hrow.put (P' := IsEo O (f + 1) w') hk (by simp [enC, hh, show zCells.length = 6 from rfl]) hnew hb hP
  have hl : (b.ents.set k { e with gone := true, data := zV }).length = b.ents.length := List.length_set
  have hred : (redAt b k).ents = b.ents.set k { e with gone := true, data := zV } := by
    unfold redAt
    rw [he, redE_two hk2]
  rw [hred]
  have := hput.els (O := O) hOg (cap := cap) (by rw [hl]; exact h1) h2
  rw [hl] at this
  exact this
theorem redR_bad {b : Bk} {x : Int} (hc : ¬ chkB b = 0) : redR b x = (noB, chkB b) := by unfold redR; rw [if_pos hc]
theorem redR_none {b : Bk} {x : Int} (hc : chkB b = 0) (h : x < 0 ∨ (b.ents.length : Int) ≤ x ∨ (b.ents.getD x.toNat noE).kind ≠ 2) : redR b x = (noB, 7) := by unfold redR; rw [if_neg (by simpa using hc), if_pos h]
theorem redR_gone {b : Bk} {x : Int} (hc : chkB b = 0) (h : ¬ (x < 0 ∨ (b.ents.length : Int) ≤ x ∨ (b.ents.getD x.toNat noE).kind ≠ 2)) (hg : (b.ents.getD x.toNat noE).gone = true) : redR b x = (noB, 23) := by unfold redR; rw [if_neg (by simpa using hc), if_neg h, if_pos hg]
theorem redR_ok {b : Bk} {x : Int} (hc : chkB b = 0) (h : ¬ (x < 0 ∨ (b.ents.length : Int) ≤ x ∨ (b.ents.getD x.toNat noE).kind ≠ 2)) (hg : ¬ (b.ents.getD x.toNat noE).gone = true) : redR b x = (redAt b x.toNat, 0) := by unfold redR; rw [if_neg (by simpa using hc), if_neg h, if_neg hg]
set_option maxHeartbeats 8000000 in
theorem redact_any {f : Nat} {w : World} {b : Bk} {cs : List Value} {x : Int} (h : IsB f w b cs) (hx : R64 x) (hlen : ∀ e ∈ b.ents, chk 16 e.data = 0 → (encV 16 e.data).length ≤ 70368744177664) (hsm : ∀ e ∈ b.ents, Sm 3000 f e.data) (hle : b.ents.length ≤ 3000) :
    Calls Tryz.prog 17 #[.agg cs.toArray, .int .i64 x] w (RedPost f w b x) := by
  have hall := h
  have hcl := h.len
  obtain ⟨se, rfl, hents, hpl, hpb, hr⟩ := h
  obtain ⟨sp, cap, rfl⟩ := hents.slice
  refine enter (args := [.agg (bkC b (.slice sp b.ents.length cap)).toArray, .int .i64 x]) Tryz.func17 rfl Tryz.ntmps17 rfl ?_
  refine kgo ?_
  refine WL.box rfl rfl rfl rfl rfl fun g1 w1 hf => ?_
  have hf' : Fresh w g1 w1 26 (bkC b (.slice sp b.ents.length cap)) := hf
  clear hf
  refine WL.alloc (z := .agg (bkC noB (.slice none 0 0)).toArray) rfl rfl rfl rfl (fun _ => by kernel_rfl) fun rg w2 hf2 => ?_
  have hf2' : Fresh w1 rg w2 26 (bkC noB (.slice none 0 0)) := hf2
  clear hf2
  have hg := hf'.eq
  have hz1 := hf'.size
  have hrg := hf2'.eq
  have hz2 := hf2'.size
  have hw2 : Below w.heap.size w w2 := hf'.below.trans (hf2'.below.mono hf'.below.size)
  have B2 : BkAt 26 g1 w2 b (.slice sp b.ents.length cap) := ⟨hf'.blk.below hf2'.below hf'.blk.lt, hpl⟩
  have R2 := hf2'.blk
  clear hf' hf2'
  refine kgo ?_
  refine WL.loadMid rfl rfl rfl rfl rfl rfl (VBlk.rangeAt B2.blk) hcl ?_
  refine WL.call rfl rfl rfl rfl rfl Tryz.func9 rfl (by kernel_rfl) (check11_any (IsB.below hw2 hall) hlen) ?_
  rintro _ w3 ⟨rfl, hk3⟩
  refine ⟨_, rfl, ?_⟩
  have hw3 := hw2.trans (hk3.mono hw2.size)
  have hz3 := hk3.size
  have B3 := B2.below hk3
  have R3 := R2.below hk3 R2.lt
  by_cases hc : chkB b = 0
  rotate_left
  · have hv := redR_bad (x := x) hc
    refine kgo ?_
    refine WL.build (bkC noB (.slice none 0 0)) rfl rfl rfl rfl rfl (by kernel_rfl) ?_
    refine kgo ?_
    refine WL.storeRow rfl rfl rfl rfl rfl rfl R3 rfl rfl (noB_is f w).one ?_
    refine kgo ?_
    exact WQ.retCT rfl rfl rfl rfl rfl (R3.setRow _) ⟨Keep.below (Keep.setRow (Keep.of_below hw3) (fun hk => by omega) _), _, by rw [hv], by rw [hv]; exact noB_is f _⟩
  by_cases ha : x < 0
  · have hv := redR_none hc (.inl ha)
    refine kgo ?_
    refine WL.build (bkC noB (.slice none 0 0)) rfl rfl rfl rfl rfl (by kernel_rfl) ?_
    refine kgo ?_
    refine WL.storeRow rfl rfl rfl rfl rfl rfl R3 rfl rfl (noB_is f w).one ?_
    refine kgo ?_
    exact WQ.retCT rfl rfl rfl rfl rfl (R3.setRow _) ⟨Keep.below (Keep.setRow (Keep.of_below hw3) (fun hk => by omega) _), _, by rw [hv], by rw [hv]; exact noB_is f _⟩
  by_cases hb : (b.ents.length : Int) ≤ x
  · have hv := redR_none hc (.inr (.inl hb))
    refine kgo ?_
    refine WL.load rfl rfl rfl rfl rfl rfl B3.ents ?_
    refine kgo ?_
    refine WL.build (bkC noB (.slice none 0 0)) rfl rfl rfl rfl rfl (by kernel_rfl) ?_
    refine kgo ?_
    refine WL.storeRow rfl rfl rfl rfl rfl rfl R3 rfl rfl (noB_is f w).one ?_
    refine kgo ?_
    exact WQ.retCT rfl rfl rfl rfl rfl (R3.setRow _) ⟨Keep.below (Keep.setRow (Keep.of_below hw3) (fun hk => by omega) _), _, by rw [hv], by rw [hv]; exact noB_is f _⟩
  obtain ⟨k, rfl⟩ : ∃ k : Nat, x = (k : Int) := ⟨x.toNat, by omega⟩
  have hk : k < b.ents.length := by omega
  obtain ⟨kb, ko, cap', cs, hse, hkb, hc46, hce, hcr⟩ := hents.at hk
  injection hse with hse1 _ hse2
  subst hse1; subst hse2
  have ht : (k : Int).toNat = k := Int.toNat_natCast k
  generalize hev : b.ents.getD k noE = e at hce
  have hf0 : 0 < f := by
    obtain ⟨_, -, hv, -⟩ := hce
    cases f with
    | zero => exact hv.elim
    | succ f => omega
  obtain ⟨dc0, rfl, -, hdl0, -, hh0, -⟩ := hce
  have ck : w3.cell? ⟨kb, ko + k * 46 + 0, none⟩ = some (.int .i64 e.kind) := (hw3.cell (p := ⟨kb, ko + k * 46 + 0, none⟩) hkb).trans (hcr 0 _ rfl)
  have cg : w3.cell? ⟨kb, ko + k * 46 + 43, none⟩ = some (.bool e.gone) := (hw3.cell (p := ⟨kb, ko + k * 46 + 43, none⟩) hkb).trans (hcr 43 _ (enC_tail hdl0 hh0).1)
  refine kgo ?_
  refine WL.load rfl rfl rfl rfl rfl rfl B3.ents ?_
  refine kgo ?_
  refine WL.load rfl rfl rfl rfl rfl rfl B3.ents ?_
  refine kgo ?_
  refine WL.idx k (ko + k * 46) rfl rfl rfl rfl rfl rfl rfl rfl hk rfl ?_
  refine kgo ?_
  refine WL.load rfl rfl rfl rfl rfl rfl ck ?_
  by_cases k2 : e.kind = 2
  rotate_left
  · have hv := redR_none (x := (k : Int)) hc (.inr (.inr (by rw [ht, hev]; exact k2)))
    refine kgo ?_
    refine WL.build (bkC noB (.slice none 0 0)) rfl rfl rfl rfl rfl (by kernel_rfl) ?_
    refine kgo ?_
    refine WL.storeRow rfl rfl rfl rfl rfl rfl R3 rfl rfl (noB_is f w).one ?_
    refine kgo ?_
    exact WQ.retCT rfl rfl rfl rfl rfl (R3.setRow _) ⟨Keep.below (Keep.setRow (Keep.of_below hw3) (fun hk => by omega) _), _, by rw [hv], by rw [hv]; exact noB_is f _⟩
  have hnn : ¬ ((k : Int) < 0 ∨ (b.ents.length : Int) ≤ (k : Int) ∨ (b.ents.getD (k : Int).toNat noE).kind ≠ 2) := by rw [ht, hev]; omega
  refine kgo ?_
  refine WL.load rfl rfl rfl rfl rfl rfl B3.ents ?_
  refine kgo ?_
  refine WL.idx k (ko + k * 46) rfl rfl rfl rfl rfl rfl rfl rfl hk rfl ?_
  refine kgo ?_
  refine WL.load rfl rfl rfl rfl rfl rfl cg ?_
  cases hgo : e.gone with
  | true =>
    have hv := redR_gone (x := (k : Int)) hc hnn (by rw [ht, hev]; exact hgo)
    refine kgo ?_
    refine WL.build (bkC noB (.slice none 0 0)) rfl rfl rfl rfl rfl (by kernel_rfl) ?_
    refine kgo ?_
    refine WL.storeRow rfl rfl rfl rfl rfl rfl R3 rfl rfl (noB_is f w).one ?_
    refine kgo ?_
    exact WQ.retCT rfl rfl rfl rfl rfl (R3.setRow _) ⟨Keep.below (Keep.setRow (Keep.of_below hw3) (fun hk => by omega) _), _, by rw [hv], by rw [hv]; exact noB_is f _⟩
  | false =>
  have hv := redR_ok (x := (k : Int)) hc hnn (by rw [ht, hev, hgo]; simp)
  rw [ht] at hv
  refine kgo ?_
  refine WL.loadMid rfl rfl rfl rfl rfl rfl (VBlk.rangeAt B3.blk) hcl ?_
  refine WL.call rfl rfl rfl rfl rfl Tryz.func48 rfl (by kernel_rfl) (ownBlock_any (IsB.below hw3 hall) hsm (by omega) hle) ?_
  rintro _ w4 ⟨hk4, g, cap4, kcs, tail, rfl, hq1, hq2, hgw, hrow⟩
  refine ⟨_, rfl, ?_⟩
  have hw4 := hw3.trans (hk4.mono hw3.size)
  have B4 := B3.below hk4
  have R4 := R3.below hk4 R3.lt
  have hg1l := B3.blk.lt
  have hrgl := R3.lt
  have hone0 : Ones (bkC b (.slice (some ⟨g, 0, none⟩) b.ents.length cap4)) := by
    intro u hu
    unfold bkC at hu
    simp only [List.mem_cons, List.mem_append, List.not_mem_nil, or_false] at hu
    rcases hu with rfl | rfl | rfl | hu | rfl
    all_goals first | rfl | exact Ones.int _ _ u hu
  have hl4 : (bkC b (.slice (some ⟨g, 0, none⟩) b.ents.length cap4)).length = 36 := by simp [bkC, hpl]
  refine WL.storeRow rfl rfl rfl rfl rfl rfl B4.blk hl4 B4.len hone0 ?_
  have hk5 : Keep (fun x => x ≠ g1) w4 (w4.setRow g1 (bkC b (.slice (some ⟨g, 0, none⟩) b.ents.length cap4)).toArray) := Keep.setRow (Keep.refl _ w4) (fun hk => hk rfl) _
  have B5 : BkAt 26 g1 (w4.setRow g1 (bkC b (.slice (some ⟨g, 0, none⟩) b.ents.length cap4)).toArray) b (.slice (some ⟨g, 0, none⟩) b.ents.length cap4) := ⟨B4.blk.setRow _, hpl⟩
  have hw5 : Below w.heap.size w (w4.setRow g1 (bkC b (.slice (some ⟨g, 0, none⟩) b.ents.length cap4)).toArray) := Keep.below (Keep.setRow (Keep.of_below hw4) (fun hk => by omega) _)
  generalize w4.setRow g1 (bkC b (.slice (some ⟨g, 0, none⟩) b.ents.length cap4)).toArray = w5 at hk5 B5 hw5 ⊢
  have R5 := VBlk.keep R4 hk5 (by show rg ≠ g1; omega)
  have hrow := hrow.keep (P' := IsEo (fun x => w3.heap.size ≤ x ∧ x ≠ g) f w5) hk5 (by show g ≠ g1; omega) fun x cs hx => EnP.mono (fun v cs hv => IsVo.keep hk5 (fun x hx _ => by show x ≠ g1; omega) (fun _ h => h) hv) hx
  refine kgo ?_
  refine WC.drawn 10 (fun wx => BkAt 26 g1 wx b (.slice (some ⟨g, 0, none⟩) b.ents.length cap4)) fun w6 hd6 => ?_
  have k6 : Below w5.heap.size w5 w6 := hd6.below _
  have hS : BkAt 26 g1 w6 b (.slice (some ⟨g, 0, none⟩) b.ents.length cap4) := B5.below k6
  have hw6 := hw5.trans (k6.mono hw5.size)
  have R6 := R5.below k6 R5.lt
  have hrow := hrow.keep (P' := IsEo (fun x => w3.heap.size ≤ x ∧ x ≠ g) f w6) (Keep.of_below k6) hrow.blk.lt fun x cs hx => EnP.mono (fun v cs hv => IsVo.keep (Keep.of_below k6) (fun x _ hl => hl) (fun _ h => h) hv) hx
  obtain ⟨hc46, hce⟩ := hrow.ats k hk
  rw [hev] at hce
  obtain ⟨dc, hcs, -, hdl, -, hh, -⟩ := hce
  obtain ⟨hsp, hA⟩ := hrow.split hk
  have V := hrow.blk
  rw [hsp, hcs] at V
  rw [hcs] at hc46
  generalize hCC : (kcs.drop (k + 1)).flatten ++ tail = CC at V
  generalize hAA : (kcs.take k).flatten = A at V hA
  (((first | refine WD.free 0 rfl (by kernel_rfl) rfl rfl (fun _ _ _ _ _ h => h) rfl rfl (.inr hS) ?_ | refine WD.skip 0 rfl (by kernel_rfl) rfl rfl (fun _ _ _ _ _ h => h) rfl (.inr hS) ?_); try (first | ((with_reducible refine WD.topT ?_ ?_); omega) | ((with_reducible refine WD.topF ?_ ?_); omega) | ((with_reducible refine WD.top64 ?_ ?_); omega))); ((first | refine WD.free 2 rfl (by kernel_rfl) rfl rfl (fun _ _ _ _ _ h => h) rfl rfl (.inr hS) ?_ | refine WD.skip 2 rfl (by kernel_rfl) rfl rfl (fun _ _ _ _ _ h => h) rfl (.inr hS) ?_); try (first | ((with_reducible refine WD.topT ?_ ?_); omega) | ((with_reducible refine WD.topF ?_ ?_); omega) | ((with_reducible refine WD.top64 ?_ ?_); omega))); ((first | refine WD.free 3 rfl (by kernel_rfl) rfl rfl (fun _ _ _ _ _ h => h) rfl rfl (.inr hS) ?_ | refine WD.skip 3 rfl (by kernel_rfl) rfl rfl (fun _ _ _ _ _ h => h) rfl (.inr hS) ?_); try (first | ((with_reducible refine WD.topT ?_ ?_); omega) | ((with_reducible refine WD.topF ?_ ?_); omega) | ((with_reducible refine WD.top64 ?_ ?_); omega))); ((first | refine WD.free 5 rfl (by kernel_rfl) rfl rfl (fun _ _ _ _ _ h => h) rfl rfl (.inr hS) ?_ | refine WD.skip 5 rfl (by kernel_rfl) rfl rfl (fun _ _ _ _ _ h => h) rfl (.inr hS) ?_); try (first | ((with_reducible refine WD.topT ?_ ?_); omega) | ((with_reducible refine WD.topF ?_ ?_); omega) | ((with_reducible refine WD.top64 ?_ ?_); omega))))
  refine WD.load 1 [7, 8, 9, 10, 11, 12] rfl (by kernel_rfl) rfl rfl (fun _ _ _ _ _ h => h) rfl rfl rfl rfl (fun wx hx => hx.ents) hS ?_
  refine WD.load 4 [10, 11, 12] rfl (by kernel_rfl) rfl rfl (fun _ _ _ _ _ h => h) rfl rfl rfl rfl (fun wx hx => hx.ents) hS ?_
  refine WD.build zCells 6 rfl (by kernel_rfl) rfl rfl (fun _ _ _ _ _ h => h) rfl rfl rfl (by kernel_rfl) (.inr hS) ?_
  refine WD.one 7 (by kernel_rfl) rfl ?_
  refine WL.idx k (k * 46) rfl rfl rfl rfl rfl rfl rfl rfl hk (by omega) ?_
  refine WL.nil (WQ.dk (.inr hS) ?_)
  (((first | refine WD.free 8 rfl (by kernel_rfl) rfl rfl (fun _ _ _ _ _ h => h) rfl rfl (.inr hS) ?_ | refine WD.skip 8 rfl (by kernel_rfl) rfl rfl (fun _ _ _ _ _ h => h) rfl (.inr hS) ?_); try (first | ((with_reducible refine WD.topT ?_ ?_); omega) | ((with_reducible refine WD.topF ?_ ?_); omega) | ((with_reducible refine WD.top64 ?_ ?_); omega))))
  refine WD.one 9 (by kernel_rfl) rfl ?_
  refine WL.storeMid rfl rfl rfl rfl rfl rfl V rfl (by rw [List.length_append, List.length_append, hA, hc46]; omega) (zV_is (fun _ => True) 0 w6).one ?_
  have V7 := V.setRow ((A ++ (enC e dc ++ CC)).take (k * 46 + 5) ++ zCells ++ (A ++ (enC e dc ++ CC)).drop (k * 46 + 5 + 6))
  have hkg : Keep (fun x => x ≠ g) w6 (w6.setRow g ((A ++ (enC e dc ++ CC)).take (k * 46 + 5) ++ zCells ++ (A ++ (enC e dc ++ CC)).drop (k * 46 + 5 + 6)).toArray) := Keep.setRow (Keep.refl _ w6) (fun hk => hk rfl) _
  have hw7 : Below w.heap.size w (w6.setRow g ((A ++ (enC e dc ++ CC)).take (k * 46 + 5) ++ zCells ++ (A ++ (enC e dc ++ CC)).drop (k * 46 + 5 + 6)).toArray) := Keep.below (Keep.setRow (Keep.of_below hw6) (fun hk => by omega) _)
  generalize w6.setRow g ((A ++ (enC e dc ++ CC)).take (k * 46 + 5) ++ zCells ++ (A ++ (enC e dc ++ CC)).drop (k * 46 + 5 + 6)).toArray = w7 at V7 hkg hw7 ⊢
  rw [mid_set (k := 6) (off := 5) hA (show zCells.length = 6 from rfl) (by rw [hc46]; omega), enC_setData zV hdl] at V7
  have hS7 := hS.keep hkg (by show g1 ≠ g; omega)
  refine WL.nil (WQ.dk (.inr hS7) ?_)
  refine WD.one 10 (by kernel_rfl) rfl ?_
  refine WL.idx k (k * 46) rfl rfl rfl rfl rfl rfl rfl rfl hk (by omega) ?_
  refine WL.nil (WQ.dk (.inl rfl) ?_)
  (((first | refine WD.free 11 rfl (by kernel_rfl) rfl rfl (fun _ _ _ _ _ h => h) rfl rfl (.inl rfl) ?_ | refine WD.skip 11 rfl (by kernel_rfl) rfl rfl (fun _ _ _ _ _ h => h) rfl (.inl rfl) ?_); try (first | ((with_reducible refine WD.topT ?_ ?_); omega) | ((with_reducible refine WD.topF ?_ ?_); omega) | ((with_reducible refine WD.top64 ?_ ?_); omega))))
  refine WD.one 12 (by kernel_rfl) rfl ?_
  have cg7 : w7.cell? ⟨g, k * 46 + 43, none⟩ = some (.bool e.gone) := by
    have := VBlk.part V7 A (enC { e with data := zV } zCells) CC rfl 43 _ (enC_tail (e := { e with data := zV }) rfl hh).1
    rw [hA] at this
    exact this
  refine WL.store (v := .bool true) rfl rfl rfl rfl rfl rfl (by kernel_rfl) cg7 (V7.free (k * 46 + 43)) ?_
  have V8 := V7.set (k * 46 + 43) (.bool true)
  have hkg8 : Keep (fun x => x ≠ g) w7 (w7.setCell ⟨g, k * 46 + 43, none⟩ (.bool true)) := (Keep.refl _ w7).setCell (fun hk => hk rfl) _
  have hwF : Below w.heap.size w (w7.setCell ⟨g, k * 46 + 43, none⟩ (.bool true)) := Keep.below (Keep.setCell (Keep.of_below hw7) (fun hk => by simp only at hk; omega) _)
  generalize w7.setCell ⟨g, k * 46 + 43, none⟩ (.bool true) = w8 at V8 hkg8 hwF ⊢
  have h46 : (enC { e with data := zV } zCells).length = 46 := by simp [enC, hh, show zCells.length = 6 from rfl]
  rw [one_set (.bool true) hA (by rw [h46]; omega), enC_setGone (e := { e with data := zV }) true rfl hh] at V8
  have VF : VBlk 45 w8 g (A ++ (enC { e with gone := true, data := zV } zCells ++ CC)) := V8
  have hkp : Keep (fun x => x ≠ g) w6 w8 := Keep.trans hkg hkg8
  have hqg : ∀ x, (w3.heap.size ≤ x ∧ x ≠ g) → x ≠ g := fun x h => h.2
  have hOq : ∀ x, (w3.heap.size ≤ x ∧ x ≠ g) → w3.heap.size ≤ x := fun x h => h.1
  have hOg : w3.heap.size ≤ g := hgw
  have S8 := hS7.keep hkg8 (by show g1 ≠ g; omega)
  have R8 := VBlk.keep R6 hkp (by show rg ≠ g; omega)
  refine WL.nil (WQ.dk (.inl rfl) ?_)
  refine WD.done (by kernel_rfl) ?_
  refine kgo ?_
  refine WL.loadMid rfl rfl rfl rfl rfl rfl (VBlk.rangeAt S8.blk) S8.len ?_
  have hone : Ones (bkC b (.slice (some ⟨g, 0, none⟩) b.ents.length cap4)) := by
    intro u hu
    unfold bkC at hu
    simp only [List.mem_cons, List.mem_append, List.not_mem_nil, or_false] at hu
    rcases hu with rfl | rfl | rfl | hu | rfl
    all_goals first | rfl | exact Ones.int _ _ u hu
  refine WL.storeRow rfl rfl rfl rfl rfl rfl R8 S8.len (by rfl) hone ?_
  refine kgo ?_
  have hset2 : Keep (fun x => x ≠ rg) w8 (w8.setRow rg (bkC b (.slice (some ⟨g, 0, none⟩) b.ents.length cap4)).toArray) := Keep.setRow (Keep.refl _ w8) (fun hk => hk rfl) _
  have hels := (red_row hrow hk hf0 hev k2 hcs hkp hqg hOq hOg (by rw [hAA, hCC]; exact VF) hq1 hq2).keep hset2 (fun x hx _ => by show x ≠ rg; omega) (fun x hx => hx) fun x cs hx => EnP.mono (fun v cs hv => IsVo.keep hset2 (fun x hx _ => by show x ≠ rg; omega) (fun _ h => h) hv) hx
  have hBo : IsBo (fun x => w3.heap.size ≤ x) f (w8.setRow rg (bkC b (.slice (some ⟨g, 0, none⟩) b.ents.length cap4)).toArray) (redAt b k) (bkC b (.slice (some ⟨g, 0, none⟩) b.ents.length cap4)) := ⟨_, rfl, hels, hpl, hpb, hr⟩
  exact WQ.retCT rfl rfl rfl rfl S8.len (R8.setRow _) ⟨Keep.below (Keep.setRow (Keep.of_below hwF) (fun hk => by omega) _), _, by rw [hv], by rw [hv]; exact isB_of hBo⟩
set_option maxHeartbeats 8000000 in
theorem rredact_any {f : Nat} {w : World} {b : Bk} {cs : List Value} {x : Int} (h : IsB f w b cs) (hx : R64 x) (hlen : ∀ e ∈ b.ents, chk 16 e.data = 0 → (encV 16 e.data).length ≤ 70368744177664) (hsm : ∀ e ∈ b.ents, Sm 3000 f e.data) (hle : b.ents.length ≤ 3000) :
    Calls Tryz.prog 18 #[.agg cs.toArray, .int .i64 x] w (RedPost f w b x) := by
  have hall := h
  have hcl := h.len
  obtain ⟨se, rfl, hents, hpl, hpb, hr⟩ := h
  obtain ⟨sp, cap, rfl⟩ := hents.slice
  refine enter (args := [.agg (bkC b (.slice sp b.ents.length cap)).toArray, .int .i64 x]) Tryz.func18 rfl Tryz.ntmps18 rfl ?_
  refine kgo ?_
  refine WL.box rfl rfl rfl rfl rfl fun g1 w1 hf => ?_
  have hf' : Fresh w g1 w1 26 (bkC b (.slice sp b.ents.length cap)) := hf
  clear hf
  refine WL.alloc (z := .agg (bkC noB (.slice none 0 0)).toArray) rfl rfl rfl rfl (fun _ => by kernel_rfl) fun rg w2 hf2 => ?_
  have hf2' : Fresh w1 rg w2 26 (bkC noB (.slice none 0 0)) := hf2
  clear hf2
  have hg := hf'.eq
  have hz1 := hf'.size
  have hrg := hf2'.eq
  have hz2 := hf2'.size
  have hw2 : Below w.heap.size w w2 := hf'.below.trans (hf2'.below.mono hf'.below.size)
  have B2 : BkAt 26 g1 w2 b (.slice sp b.ents.length cap) := ⟨hf'.blk.below hf2'.below hf'.blk.lt, hpl⟩
  have R2 := hf2'.blk
  clear hf' hf2'
  refine kgo ?_
  refine WL.loadMid rfl rfl rfl rfl rfl rfl (VBlk.rangeAt B2.blk) hcl ?_
  refine WL.call rfl rfl rfl rfl rfl Tryz.func10 rfl (by kernel_rfl) (rcheck11_any (IsB.below hw2 hall) hlen) ?_
  rintro _ w3 ⟨rfl, hk3⟩
  refine ⟨_, rfl, ?_⟩
  have hw3 := hw2.trans (hk3.mono hw2.size)
  have hz3 := hk3.size
  have B3 := B2.below hk3
  have R3 := R2.below hk3 R2.lt
  by_cases hc : chkB b = 0
  rotate_left
  · have hv := redR_bad (x := x) hc
    refine kgo ?_
    refine WL.build (bkC noB (.slice none 0 0)) rfl rfl rfl rfl rfl (by kernel_rfl) ?_
    refine kgo ?_
    refine WL.storeRow rfl rfl rfl rfl rfl rfl R3 rfl rfl (noB_is f w).one ?_
    refine kgo ?_
    exact WQ.retCT rfl rfl rfl rfl rfl (R3.setRow _) ⟨Keep.below (Keep.setRow (Keep.of_below hw3) (fun hk => by omega) _), _, by rw [hv], by rw [hv]; exact noB_is f _⟩
  by_cases ha : x < 0
  · have hv := redR_none hc (.inl ha)
    refine kgo ?_
    refine WL.build (bkC noB (.slice none 0 0)) rfl rfl rfl rfl rfl (by kernel_rfl) ?_
    refine kgo ?_
    refine WL.storeRow rfl rfl rfl rfl rfl rfl R3 rfl rfl (noB_is f w).one ?_
    refine kgo ?_
    exact WQ.retCT rfl rfl rfl rfl rfl (R3.setRow _) ⟨Keep.below (Keep.setRow (Keep.of_below hw3) (fun hk => by omega) _), _, by rw [hv], by rw [hv]; exact noB_is f _⟩
  by_cases hb : (b.ents.length : Int) ≤ x
  · have hv := redR_none hc (.inr (.inl hb))
    refine kgo ?_
    refine WL.load rfl rfl rfl rfl rfl rfl B3.ents ?_
    refine kgo ?_
    refine WL.build (bkC noB (.slice none 0 0)) rfl rfl rfl rfl rfl (by kernel_rfl) ?_
    refine kgo ?_
    refine WL.storeRow rfl rfl rfl rfl rfl rfl R3 rfl rfl (noB_is f w).one ?_
    refine kgo ?_
    exact WQ.retCT rfl rfl rfl rfl rfl (R3.setRow _) ⟨Keep.below (Keep.setRow (Keep.of_below hw3) (fun hk => by omega) _), _, by rw [hv], by rw [hv]; exact noB_is f _⟩
  obtain ⟨k, rfl⟩ : ∃ k : Nat, x = (k : Int) := ⟨x.toNat, by omega⟩
  have hk : k < b.ents.length := by omega
  obtain ⟨kb, ko, cap', cs, hse, hkb, hc46, hce, hcr⟩ := hents.at hk
  injection hse with hse1 _ hse2
  subst hse1; subst hse2
  have ht : (k : Int).toNat = k := Int.toNat_natCast k
  generalize hev : b.ents.getD k noE = e at hce
  have hf0 : 0 < f := by
    obtain ⟨_, -, hv, -⟩ := hce
    cases f with
    | zero => exact hv.elim
    | succ f => omega
  obtain ⟨dc0, rfl, -, hdl0, -, hh0, -⟩ := hce
  have ck : w3.cell? ⟨kb, ko + k * 46 + 0, none⟩ = some (.int .i64 e.kind) := (hw3.cell (p := ⟨kb, ko + k * 46 + 0, none⟩) hkb).trans (hcr 0 _ rfl)
  have cg : w3.cell? ⟨kb, ko + k * 46 + 43, none⟩ = some (.bool e.gone) := (hw3.cell (p := ⟨kb, ko + k * 46 + 43, none⟩) hkb).trans (hcr 43 _ (enC_tail hdl0 hh0).1)
  refine kgo ?_
  refine WL.load rfl rfl rfl rfl rfl rfl B3.ents ?_
  refine kgo ?_
  refine WL.load rfl rfl rfl rfl rfl rfl B3.ents ?_
  refine kgo ?_
  refine WL.idx k (ko + k * 46) rfl rfl rfl rfl rfl rfl rfl rfl hk rfl ?_
  refine kgo ?_
  refine WL.load rfl rfl rfl rfl rfl rfl ck ?_
  by_cases k2 : e.kind = 2
  rotate_left
  · have hv := redR_none (x := (k : Int)) hc (.inr (.inr (by rw [ht, hev]; exact k2)))
    refine kgo ?_
    refine WL.build (bkC noB (.slice none 0 0)) rfl rfl rfl rfl rfl (by kernel_rfl) ?_
    refine kgo ?_
    refine WL.storeRow rfl rfl rfl rfl rfl rfl R3 rfl rfl (noB_is f w).one ?_
    refine kgo ?_
    exact WQ.retCT rfl rfl rfl rfl rfl (R3.setRow _) ⟨Keep.below (Keep.setRow (Keep.of_below hw3) (fun hk => by omega) _), _, by rw [hv], by rw [hv]; exact noB_is f _⟩
  have hnn : ¬ ((k : Int) < 0 ∨ (b.ents.length : Int) ≤ (k : Int) ∨ (b.ents.getD (k : Int).toNat noE).kind ≠ 2) := by rw [ht, hev]; omega
  refine kgo ?_
  refine WL.load rfl rfl rfl rfl rfl rfl B3.ents ?_
  refine kgo ?_
  refine WL.idx k (ko + k * 46) rfl rfl rfl rfl rfl rfl rfl rfl hk rfl ?_
  refine kgo ?_
  refine WL.load rfl rfl rfl rfl rfl rfl cg ?_
  cases hgo : e.gone with
  | true =>
    have hv := redR_gone (x := (k : Int)) hc hnn (by rw [ht, hev]; exact hgo)
    refine kgo ?_
    refine WL.build (bkC noB (.slice none 0 0)) rfl rfl rfl rfl rfl (by kernel_rfl) ?_
    refine kgo ?_
    refine WL.storeRow rfl rfl rfl rfl rfl rfl R3 rfl rfl (noB_is f w).one ?_
    refine kgo ?_
    exact WQ.retCT rfl rfl rfl rfl rfl (R3.setRow _) ⟨Keep.below (Keep.setRow (Keep.of_below hw3) (fun hk => by omega) _), _, by rw [hv], by rw [hv]; exact noB_is f _⟩
  | false =>
  have hv := redR_ok (x := (k : Int)) hc hnn (by rw [ht, hev, hgo]; simp)
  rw [ht] at hv
  refine kgo ?_
  refine WL.loadMid rfl rfl rfl rfl rfl rfl (VBlk.rangeAt B3.blk) hcl ?_
  refine WL.call rfl rfl rfl rfl rfl Tryz.func6 rfl (by kernel_rfl) (rclone11r_any (IsB.below hw3 hall) hsm hle) ?_
  rintro _ w4 ⟨hk4, ve, q, rfl, hown, hqq⟩
  refine ⟨_, rfl, ?_⟩
  obtain ⟨g, cap4, kcs, tail, rfl, hgw, hq1, hq2, hrow⟩ := hown.row (by omega)
  have hqg : ∀ x, q x → x ≠ g := fun x hx e => (hqq x hx).2 (by rw [e]; rfl)
  have hOq : ∀ x, q x → w3.heap.size ≤ x := fun x hx => (hqq x hx).1
  have hOg : w3.heap.size ≤ g := hgw
  have hw4 := hw3.trans (hk4.mono hw3.size)
  have R4 := R3.below hk4 R3.lt
  have hrgl := R3.lt
  have hone0 : Ones (bkC b (.slice (some ⟨g, 0, none⟩) b.ents.length cap4)) := by
    intro u hu
    unfold bkC at hu
    simp only [List.mem_cons, List.mem_append, List.not_mem_nil, or_false] at hu
    rcases hu with rfl | rfl | rfl | hu | rfl
    all_goals first | rfl | exact Ones.int _ _ u hu
  have hl4 : (bkC b (.slice (some ⟨g, 0, none⟩) b.ents.length cap4)).length = 36 := by simp [bkC, hpl]
  refine WL.alloc (z := .agg (bkC noB (.slice none 0 0)).toArray) rfl rfl rfl rfl (fun _ => by kernel_rfl) fun xg w5 hf5 => ?_
  have hf5' : Fresh w4 xg w5 26 (bkC noB (.slice none 0 0)) := hf5
  clear hf5
  have hxg := hf5'.eq
  have hgl := hrow.blk.lt
  have hk4s := hk4.size
  refine WL.storeRow rfl rfl rfl rfl rfl rfl hf5'.blk hl4 (by rfl) hone0 ?_
  have k6 : Below w4.heap.size w4 (w5.setRow xg (bkC b (.slice (some ⟨g, 0, none⟩) b.ents.length cap4)).toArray) := below_setRow hf5'.below (by omega) _
  have S6 : BkAt 26 xg (w5.setRow xg (bkC b (.slice (some ⟨g, 0, none⟩) b.ents.length cap4)).toArray) b (.slice (some ⟨g, 0, none⟩) b.ents.length cap4) := ⟨hf5'.blk.setRow _, hpl⟩
  generalize w5.setRow xg (bkC b (.slice (some ⟨g, 0, none⟩) b.ents.length cap4)).toArray = w6 at k6 S6
  clear hf5'
  have hw6 := hw4.trans (k6.mono hw4.size)
  have R6 := R4.below k6 R4.lt
  have hrow := hrow.keep (P' := IsEo q f w6) (Keep.of_below k6) hgl fun x cs hx => EnP.mono (fun v cs hv => IsVo.keep (Keep.of_below k6) (fun x _ hl => hl) (fun _ h => h) hv) hx
  obtain ⟨hc46, hce⟩ := hrow.ats k hk
  rw [hev] at hce
  obtain ⟨dc, hcs, -, hdl, -, hh, -⟩ := hce
  obtain ⟨hsp, hA⟩ := hrow.split hk
  have V := hrow.blk
  rw [hsp, hcs] at V
  rw [hcs] at hc46
  generalize hCC : (kcs.drop (k + 1)).flatten ++ tail = CC at V
  generalize hAA : (kcs.take k).flatten = A at V hA
  refine kgo ?_
  refine WL.load rfl rfl rfl rfl rfl rfl S6.ents ?_
  refine kgo ?_
  refine WL.idx k (k * 46) rfl rfl rfl rfl rfl rfl rfl rfl hk (by omega) ?_
  refine kgo ?_
  have cg6 : w6.cell? ⟨g, k * 46 + 43, none⟩ = some (.bool e.gone) := by
    have := VBlk.part V A (enC e dc) CC rfl 43 _ (enC_tail hdl hh).1
    rw [hA] at this
    exact this
  refine WL.store (v := .bool true) rfl rfl rfl rfl rfl rfl (by kernel_rfl) cg6 (V.free (k * 46 + 43)) ?_
  have V7 := V.set (k * 46 + 43) (.bool true)
  have hkg : Keep (fun x => x ≠ g) w6 (w6.setCell ⟨g, k * 46 + 43, none⟩ (.bool true)) := (Keep.refl _ w6).setCell (fun hk => hk rfl) _
  have hw7 : Below w.heap.size w (w6.setCell ⟨g, k * 46 + 43, none⟩ (.bool true)) := Keep.below (Keep.setCell (Keep.of_below hw6) (fun hk => by simp only at hk; omega) _)
  generalize w6.setCell ⟨g, k * 46 + 43, none⟩ (.bool true) = w7 at V7 hkg hw7 ⊢
  rw [one_set (.bool true) hA (by rw [hc46]; omega), enC_setGone true hdl hh] at V7
  have S7 := S6.keep hkg (by show xg ≠ g; omega)
  refine kgo ?_
  refine WL.load rfl rfl rfl rfl rfl rfl S7.ents ?_
  refine kgo ?_
  refine WL.build zCells rfl rfl rfl rfl rfl (by kernel_rfl) ?_
  refine kgo ?_
  refine WL.idx k (k * 46) rfl rfl rfl rfl rfl rfl rfl rfl hk (by omega) ?_
  refine kgo ?_
  have h46 : (enC { e with gone := true } dc).length = 46 := by simp [enC, hdl, hh]
  refine WL.storeMid rfl rfl rfl rfl rfl rfl V7 rfl (by rw [List.length_append, List.length_append, hA, h46]; omega) (zV_is (fun _ => True) 0 w6).one ?_
  have V8 := V7.setRow ((A ++ (enC { e with gone := true } dc ++ CC)).take (k * 46 + 5) ++ zCells ++ (A ++ (enC { e with gone := true } dc ++ CC)).drop (k * 46 + 5 + 6))
  have hkg8 : Keep (fun x => x ≠ g) w7 (w7.setRow g ((A ++ (enC { e with gone := true } dc ++ CC)).take (k * 46 + 5) ++ zCells ++ (A ++ (enC { e with gone := true } dc ++ CC)).drop (k * 46 + 5 + 6)).toArray) := Keep.setRow (Keep.refl _ w7) (fun hk => hk rfl) _
  have hwF : Below w.heap.size w (w7.setRow g ((A ++ (enC { e with gone := true } dc ++ CC)).take (k * 46 + 5) ++ zCells ++ (A ++ (enC { e with gone := true } dc ++ CC)).drop (k * 46 + 5 + 6)).toArray) := Keep.below (Keep.setRow (Keep.of_below hw7) (fun hk => by omega) _)
  generalize w7.setRow g ((A ++ (enC { e with gone := true } dc ++ CC)).take (k * 46 + 5) ++ zCells ++ (A ++ (enC { e with gone := true } dc ++ CC)).drop (k * 46 + 5 + 6)).toArray = w8 at V8 hkg8 hwF ⊢
  rw [mid_set (k := 6) (off := 5) hA (show zCells.length = 6 from rfl) (by rw [h46]; omega), enC_setData (e := { e with gone := true }) zV hdl] at V8
  have VF : VBlk 45 w8 g (A ++ (enC { e with gone := true, data := zV } zCells ++ CC)) := V8
  have hkp : Keep (fun x => x ≠ g) w6 w8 := Keep.trans hkg hkg8
  have S8 := S7.keep hkg8 (by show xg ≠ g; omega)
  have R8 := VBlk.keep R6 hkp (by show rg ≠ g; omega)
  refine kgo ?_
  refine WL.loadMid rfl rfl rfl rfl rfl rfl (VBlk.rangeAt S8.blk) S8.len ?_
  have hone : Ones (bkC b (.slice (some ⟨g, 0, none⟩) b.ents.length cap4)) := by
    intro u hu
    unfold bkC at hu
    simp only [List.mem_cons, List.mem_append, List.not_mem_nil, or_false] at hu
    rcases hu with rfl | rfl | rfl | hu | rfl
    all_goals first | rfl | exact Ones.int _ _ u hu
  refine WL.storeRow rfl rfl rfl rfl rfl rfl R8 S8.len (by rfl) hone ?_
  refine kgo ?_
  have hset2 : Keep (fun x => x ≠ rg) w8 (w8.setRow rg (bkC b (.slice (some ⟨g, 0, none⟩) b.ents.length cap4)).toArray) := Keep.setRow (Keep.refl _ w8) (fun hk => hk rfl) _
  have hels := (red_row hrow hk hf0 hev k2 hcs hkp hqg hOq hOg (by rw [hAA, hCC]; exact VF) hq1 hq2).keep hset2 (fun x hx _ => by show x ≠ rg; omega) (fun x hx => hx) fun x cs hx => EnP.mono (fun v cs hv => IsVo.keep hset2 (fun x hx _ => by show x ≠ rg; omega) (fun _ h => h) hv) hx
  have hBo : IsBo (fun x => w3.heap.size ≤ x) f (w8.setRow rg (bkC b (.slice (some ⟨g, 0, none⟩) b.ents.length cap4)).toArray) (redAt b k) (bkC b (.slice (some ⟨g, 0, none⟩) b.ents.length cap4)) := ⟨_, rfl, hels, hpl, hpb, hr⟩
  exact WQ.retCT rfl rfl rfl rfl S8.len (R8.setRow _) ⟨Keep.below (Keep.setRow (Keep.of_below hwF) (fun hk => by omega) _), _, by rw [hv], by rw [hv]; exact isB_of hBo⟩
end K
end Go.Proofs.YtlamdhekjlnccaaGreatDoor

/- Blocks (chapter 11): what a redaction keeps; no program in sight. -/
namespace Go.Proofs.YtlamdhekjlnccaaGreatDoor
open Go.RowKit
namespace K
theorem layE_set_le (es : List En) (k : Nat) (hk : k < es.length) : ((es.set k (redE false (es.getD k noE))).flatMap fun e => layE e ++ layD true e).length ≤ (es.flatMap fun e => layE e ++ layD true e).length := by
  have hd := layD_le (es.getD k noE)
  have e1 : es.set k (redE false (es.getD k noE)) = es.take k ++ (redE false (es.getD k noE) :: es.drop (k + 1)) := List.set_eq_take_append_cons_drop .. |>.trans (if_pos hk)
  have e2 : es = es.take k ++ (es.getD k noE :: es.drop (k + 1)) := by
    rw [show es.getD k noE = es[k] by simp [hk], ← List.drop_eq_getElem_cons hk, List.take_append_drop]
  rw [e1]
  conv => rhs; rw [e2]
  simp only [List.flatMap_append, List.flatMap_cons, List.length_append, redE_lay, redE_layD]
  omega
theorem set_mem {b : Bk} {k : Nat} {e : En} (hk : k < b.ents.length) (h : e ∈ (redAt b k).ents) : e ∈ b.ents ∨ ∃ e0 ∈ b.ents, e = redE false e0 := by
  rcases List.mem_or_eq_of_mem_set (show e ∈ b.ents.set k (redE false (b.ents.getD k noE)) from h) with h | h
  · exact .inl h
  · exact .inr ⟨b.ents.getD k noE, by simp [hk], h⟩
theorem chkB_redAt {b : Bk} {k : Nat} (hk : k < b.ents.length) (h : chkB b = 0) : chkB (redAt b k) = 0 := by
  obtain ⟨h1, h2, h3⟩ := chkB_ok h
  have hfb : firstBad ((redAt b k).ents.map chkE) = 0 := firstBad_zero.2 fun x hx => by
    obtain ⟨e, he, rfl⟩ := List.mem_map.1 hx
    rcases set_mem hk he with h | ⟨e0, he0, rfl⟩
    · exact h2 e h
    · exact redE_chk (h2 e0 he0)
  have hle : (layB true (redAt b k)).length ≤ (layB true b).length := by
    have := layE_set_le b.ents k hk
    unfold layB
    rw [redAt_len]
    have e1 : headL (redAt b k) = headL b := rfl
    rw [e1]
    simp only [List.length_append]
    show _ + (_ + ((b.ents.set k (redE false (b.ents.getD k noE))).flatMap fun e => layE e ++ layD true e).length) ≤ _
    omega
  unfold chkB
  rw [if_pos (by rw [redAt_len]; exact h1), if_neg (by simpa using hfb), if_neg (by omega)]
theorem leafH_redE (e : En) : leafH (redE false e) = leafH e := by unfold leafH; rw [redE_lay]
theorem hashH_redAt {b : Bk} {k : Nat} (hk : k < b.ents.length) : hashH (redAt b k) = hashH b := by
  have h0 : (b.ents.set k (redE false (b.ents.getD k noE))).map leafH = b.ents.map leafH := by
    rw [List.map_set, leafH_redE]
    have e1 : leafH (b.ents.getD k noE) = (b.ents.map leafH)[k]'(by rw [List.length_map]; exact hk) := by simp [hk]
    rw [e1, List.set_getElem_self]
  have h1 : rootH (redAt b k) = rootH b := by
    show Mk.rt ((b.ents.set k (redE false (b.ents.getD k noE))).map leafH) = Mk.rt (b.ents.map leafH)
    rw [h0]
  have h2 : headL (redAt b k) = headL b := rfl
  unfold hashH headH
  rw [h1, h2, redAt_len]
theorem redAt_at {b : Bk} {k : Nat} (hk : k < b.ents.length) : (redAt b k).ents.getD k noE = redE false (b.ents.getD k noE) := by
  show (b.ents.set k (redE false (b.ents.getD k noE))).getD k noE = _
  generalize redE false (b.ents.getD k noE) = x
  simp [List.getD_eq_getElem?_getD, hk]
theorem redAt_not {b : Bk} {k j : Nat} (hj : ¬ j = k) : (redAt b k).ents.getD j noE = b.ents.getD j noE := by
  show (b.ents.set k (redE false (b.ents.getD k noE))).getD j noE = _
  generalize redE false (b.ents.getD k noE) = x
  have : ¬ k = j := fun h => hj h.symm
  simp [List.getD_eq_getElem?_getD, this]
theorem redAt_hlen {b : Bk} {k : Nat} (hk : k < b.ents.length) (h : ∀ e ∈ b.ents, chk 16 e.data = 0 → (encV 16 e.data).length ≤ 70368744177664) : ∀ e ∈ (redAt b k).ents, chk 16 e.data = 0 → (encV 16 e.data).length ≤ 70368744177664 := fun e he hc => by
  rcases set_mem hk he with h1 | ⟨e0, he0, rfl⟩
  · exact h e h1 hc
  · by_cases k2 : e0.kind = 2
    · rw [redE_two k2]; exact zV_len
    · rw [redE_not k2] at hc ⊢; exact h e0 he0 hc
theorem sm_zV (f : Nat) (h : 0 < f) : Sm 3000 f zV := by
  obtain ⟨f, rfl⟩ : ∃ f', f = f' + 1 := ⟨f - 1, by omega⟩
  exact ⟨by decide, by decide, fun x hx => by cases hx⟩
theorem redAt_sm {f : Nat} {b : Bk} {k : Nat} (hk : k < b.ents.length) (h : ∀ e ∈ b.ents, Sm 3000 f e.data) : ∀ e ∈ (redAt b k).ents, Sm 3000 f e.data := fun e he => by
  rcases set_mem hk he with h1 | ⟨e0, he0, rfl⟩
  · exact h e h1
  · have h2 := h e0 he0
    by_cases k2 : e0.kind = 2
    · rw [redE_two k2]
      refine sm_zV f ?_
      cases f with
      | zero => exact h2.elim
      | succ f => omega
    · rw [redE_not k2]; exact h2
open Classical in
/-- When a redaction is taken. -/
theorem redR_zero {b : Bk} {x : Int} (h : (redR b x).2 = 0) : ∃ k : Nat, x = (k : Int) ∧ k < b.ents.length ∧ chkB b = 0 ∧ (b.ents.getD k noE).kind = 2 ∧ redR b x = (redAt b k, 0) := by
  unfold redR at h ⊢
  by_cases hc : chkB b = 0
  rotate_left
  · rw [if_pos hc] at h; exact absurd h hc
  rw [if_neg (by simpa using hc)] at h ⊢
  by_cases h1 : x < 0 ∨ (b.ents.length : Int) ≤ x ∨ (b.ents.getD x.toNat noE).kind ≠ 2
  · rw [if_pos h1] at h; cases h
  rw [if_neg h1] at h ⊢
  by_cases h2 : (b.ents.getD x.toNat noE).gone = true
  · rw [if_pos h2] at h; cases h
  rw [if_neg h2]
  have h3 : 0 ≤ x ∧ x < (b.ents.length : Int) := by omega
  exact ⟨x.toNat, by omega, by omega, hc, Classical.byContradiction fun h4 => h1 (.inr (.inr h4)), rfl⟩
theorem redR_twice {b : Bk} {k : Nat} (hk : k < b.ents.length) (hc : chkB b = 0) (h2 : (b.ents.getD k noE).kind = 2) : redR (redAt b k) (k : Int) = (noB, 23) := by
  have ht : (k : Int).toNat = k := Int.toNat_natCast k
  have h3 : ((redAt b k).ents.getD k noE).kind = 2 := by rw [redAt_at hk, redE_kind]; exact h2
  refine redR_gone (chkB_redAt hk hc) (by rw [ht, redAt_len]; omega) ?_
  rw [ht, redAt_at hk]
  exact redE_gone (by rw [redE_kind]; exact h2)
end K
end Go.Proofs.YtlamdhekjlnccaaGreatDoor

/- BlockRedacts (chapter 11): the law. -/
namespace Go.Proofs.YtlamdhekjlnccaaGreatDoor
open Go.RowKit
namespace K
set_option maxHeartbeats 16000000 in
theorem blockRedacts_law {f : Nat} {w : World} {b : Bk} {x : Int} {c1 : List Value} (h : IsB f w b c1) (hm : ∀ e ∈ b.ents, Sml f e.data) (hx : R64 x) (hT : Mk.Tab w) :
    Calls Tryz.prog 4 #[.agg c1.toArray, .int .i64 x] w fun e w' => e = .returned (.bool true) ∧ Below w.heap.size w w' := by
  have hall := h
  have hl1 := h.len
  obtain ⟨se, rfl, hents, hpl, hpb, hr⟩ := h
  obtain ⟨sp, cap, rfl⟩ := hents.slice
  refine enter (args := [.agg (bkC b (.slice sp b.ents.length cap)).toArray, .int .i64 x]) Tryz.func4 rfl Tryz.ntmps4 rfl ?_
  refine kgo ?_
  refine WL.box rfl rfl rfl rfl rfl fun g1 w1 hf1 => ?_
  have hf1' : Fresh w g1 w1 26 (bkC b (.slice sp b.ents.length cap)) := hf1
  clear hf1
  have hw1 := hf1'.below
  have B1 : BkAt 26 g1 w1 b (.slice sp b.ents.length cap) := ⟨hf1'.blk, hpl⟩
  clear hf1'
  refine kgo ?_
  refine WL.loadMid rfl rfl rfl rfl rfl rfl (VBlk.rangeAt B1.blk) hl1 ?_
  refine WL.call rfl rfl rfl rfl rfl Tryz.func5 rfl (by kernel_rfl) (heavy_grt (IsB.below hw1 hall) hm) ?_
  rintro _ w2 ⟨hk2, p1, rfl, hp1⟩
  refine ⟨_, rfl, ?_⟩
  have hw2 := hw1.trans (hk2.mono hw1.size)
  have B2 := B1.below hk2
  cases p1 with
  | true =>
    refine kgo ?_
    exact WQ.ret1 rfl rfl ⟨rfl, hw2⟩
  | false =>
  obtain ⟨hn, hgr⟩ := hp1 rfl
  obtain ⟨hlen, hsm⟩ := heavy_sm hm hgr
  refine kgo ?_
  refine WL.loadMid rfl rfl rfl rfl rfl rfl (VBlk.rangeAt B2.blk) hl1 ?_
  refine WL.call rfl rfl rfl rfl rfl Tryz.func6 rfl (by kernel_rfl) (rclone11_any (IsB.below hw2 hall) hsm hn) ?_
  rintro _ w3 ⟨hk3, c3, rfl, hB3⟩
  refine ⟨_, rfl, ?_⟩
  have hl3 := hB3.len
  refine WL.alloc (z := .agg (bkC noB (.slice none 0 0)).toArray) rfl rfl rfl rfl (fun _ => by kernel_rfl) fun xg w4 hf4 => ?_
  have hf4' : Fresh w3 xg w4 26 (bkC noB (.slice none 0 0)) := hf4
  clear hf4
  refine WL.storeRow rfl rfl rfl rfl rfl rfl hf4'.blk hl3 rfl hB3.one ?_
  have hk5 : Below w3.heap.size w3 (w4.setRow xg c3.toArray) := below_setRow hf4'.below (by rw [hf4'.eq]; exact Nat.le_refl _) _
  have X5 : VBlk 26 (w4.setRow xg c3.toArray) xg c3 := hf4'.blk.setRow c3
  have hxgB : w3.heap.size ≤ xg := by have := hf4'.eq; omega
  generalize w4.setRow xg c3.toArray = w5 at hk5 X5
  clear hf4'
  have hk25 : Below w2.heap.size w2 w5 := hk3.trans (hk5.mono hk3.size)
  have hw5 : Below w.heap.size w w5 := hw2.trans (hk25.mono hw2.size)
  have B5 := B2.below hk25
  have hX5 : IsB f w5 b c3 := IsB.below hk5 (isB_of hB3)
  have hwp : ∀ {wx : World}, Below w5.heap.size w5 wx → Below w.heap.size w wx := fun h => hw5.trans (h.mono hw5.size)
  refine kgo ?_
  refine WL.loadMid rfl rfl rfl rfl rfl rfl (VBlk.rangeAt X5) hl3 ?_
  refine kgo ?_
  refine WL.call rfl rfl rfl rfl rfl Tryz.func17 rfl (by kernel_rfl) (redact_any hX5 hx hlen hsm hn) ?_
  rintro _ pa ⟨hk, cyg, rfl, Iyg⟩
  refine ⟨_, rfl, ?_⟩
  have lyg := Iyg.len
  refine kgo ?_
  refine WL.alloc (z := .agg (bkC noB (.slice none 0 0)).toArray) rfl rfl rfl rfl (fun _ => by kernel_rfl) fun yg pb hf => ?_
  have hf' : Fresh pa yg pb 26 (bkC noB (.slice none 0 0)) := hf
  clear hf
  refine WL.storeRow rfl rfl rfl rfl rfl rfl hf'.blk lyg rfl Iyg.one ?_
  have hk2 : Below pa.heap.size pa (pb.setRow yg cyg.toArray) := below_setRow hf'.below (by rw [hf'.eq]; exact Nat.le_refl _) _
  have Vyg : VBlk 26 (pb.setRow yg cyg.toArray) yg cyg := hf'.blk.setRow cyg
  generalize pb.setRow yg cyg.toArray = p at hk2 Vyg
  clear hf'
  have Iyg := IsB.below hk2 Iyg
  have hkp : Below w5.heap.size w5 p := hk.trans (hk2.mono hk.size)
  clear hk hk2
  have Bp := B5.below hkp
  have Xp := X5.below hkp X5.lt
  refine kgo ?_
  refine WL.loadMid rfl rfl rfl rfl rfl rfl (VBlk.rangeAt Bp.blk) hl1 ?_
  refine kgo ?_
  refine WL.call rfl rfl rfl rfl rfl Tryz.func18 rfl (by kernel_rfl) (rredact_any (IsB.below (hwp hkp) hall) hx hlen hsm hn) ?_
  rintro _ qa ⟨hk, czg, rfl, Izg⟩
  refine ⟨_, rfl, ?_⟩
  have lzg := Izg.len
  refine kgo ?_
  refine WL.alloc (z := .agg (bkC noB (.slice none 0 0)).toArray) rfl rfl rfl rfl (fun _ => by kernel_rfl) fun zg qb hf => ?_
  have hf' : Fresh qa zg qb 26 (bkC noB (.slice none 0 0)) := hf
  clear hf
  refine WL.storeRow rfl rfl rfl rfl rfl rfl hf'.blk lzg rfl Izg.one ?_
  have hk2 : Below qa.heap.size qa (qb.setRow zg czg.toArray) := below_setRow hf'.below (by rw [hf'.eq]; exact Nat.le_refl _) _
  have Vzg : VBlk 26 (qb.setRow zg czg.toArray) zg czg := hf'.blk.setRow czg
  generalize qb.setRow zg czg.toArray = q at hk2 Vzg
  clear hf'
  have Izg := IsB.below hk2 Izg
  have hkq : Below p.heap.size p q := hk.trans (hk2.mono hk.size)
  clear hk hk2
  have k5q : Below w5.heap.size w5 q := hkp.trans (hkq.mono hkp.size)
  have Bq := Bp.below hkq
  have Xq := Xp.below hkq Xp.lt
  have Iyg := IsB.below hkq Iyg
  have Vyg := Vyg.below hkq Vyg.lt
  refine kgo ?_
  refine WL.loadMid rfl rfl rfl rfl rfl rfl (VBlk.rangeAt Vyg) lyg ?_
  refine WL.loadMid rfl rfl rfl rfl rfl rfl (VBlk.rangeAt Vzg) lzg ?_
  refine WL.call rfl rfl rfl rfl rfl Tryz.func15 rfl (by kernel_rfl) (blocks_any Iyg Izg) ?_
  rintro _ w6 ⟨⟨bb, rfl, hbb⟩, hk6⟩
  refine ⟨_, rfl, ?_⟩
  obtain rfl : bb = true := hbb.2 rfl
  have k56 : Below w5.heap.size w5 w6 := k5q.trans (hk6.mono k5q.size)
  have B6 := Bq.below hk6
  have X6 := Xq.below hk6 Xq.lt
  have Vyg := Vyg.below hk6 Vyg.lt
  have Iyg := IsB.below hk6 Iyg
  refine kgo ?_
  refine WL.loadMid rfl rfl rfl rfl rfl rfl (VBlk.rangeAt X6) hl3 ?_
  refine kgo ?_
  refine WL.loadMid rfl rfl rfl rfl rfl rfl (VBlk.rangeAt B6.blk) hl1 ?_
  refine WL.on rfl rfl ?_
  refine WL.call rfl rfl rfl rfl rfl Tryz.func15 rfl (by kernel_rfl) (blocks_any (IsB.below k56 hX5) (IsB.below (hwp k56) hall)) ?_
  rintro _ w7 ⟨⟨b2, rfl, hb2⟩, hk7⟩
  refine ⟨_, rfl, ?_⟩
  obtain rfl : b2 = true := hb2.2 rfl
  have k57 : Below w5.heap.size w5 w7 := k56.trans (hk7.mono k56.size)
  have hw7 := hwp k57
  have B7 := B6.below hk7
  have Vyg := Vyg.below hk7 Vyg.lt
  have Iyg := IsB.below hk7 Iyg
  by_cases hz : (redR b x).2 = 0
  rotate_left
  · refine kgo ?_
    refine WL.call rfl rfl rfl rfl rfl Tryz.func16 rfl (by kernel_rfl) known_any ?_
    rintro _ w9 ⟨rfl, hk9⟩
    refine ⟨_, rfl, ?_⟩
    refine kgo ?_
    exact WQ.ret1 rfl rfl ⟨rfl, hw7.trans (hk9.mono hw7.size)⟩
  obtain ⟨k, rfl, hk, hc, hkd, hrr⟩ := redR_zero hz
  rw [hrr] at Iyg
  have Iyg : IsB f w7 (redAt b k) cyg := Iyg
  clear Izg Vzg hbb
  have hc2 := chkB_redAt hk hc
  have hlen2 := redAt_hlen hk hlen
  have hsm2 := redAt_sm hk hsm
  have hln := redAt_len b k
  obtain ⟨⟨-, -, -, hn1, hn2⟩, -, -⟩ := chkB_ok hc
  obtain ⟨ye, rfl, hye, hyp, hyr⟩ := Iyg
  have Iyg : IsB f w7 (redAt b k) (bkC (redAt b k) ye) := ⟨ye, rfl, hye, hyp, hyr⟩
  obtain ⟨ysp, ycap, rfl⟩ := hye.slice
  have Y7 : BkAt 26 yg w7 (redAt b k) (.slice ysp (redAt b k).ents.length ycap) := ⟨Vyg, hyp⟩
  have hyl := Iyg.len
  have hv1 : hashBV b = hashH b := by unfold hashBV; rw [if_neg (by simpa using hc)]
  have hv2 : hashBV (redAt b k) = hashH b := by unfold hashBV; rw [if_neg (by simpa using hc2), hashH_redAt hk]
  have hH := hashH_len b
  have hbl : (hashC (hashH b)).length = 32 := by rw [List.length_map]; exact hH
  refine kgo ?_
  refine WL.loadMid rfl rfl rfl rfl rfl rfl (VBlk.rangeAt B7.blk) hl1 ?_
  refine WL.call rfl rfl rfl rfl rfl Tryz.func7 rfl (by kernel_rfl) (hash11_any (IsB.below hw7 hall) (hT.below hw7 (Nat.le_refl _)) hlen) ?_
  rintro _ sa ⟨rfl, hk⟩
  refine ⟨_, rfl, ?_⟩
  rw [hv1]
  refine kgo ?_
  refine WL.alloc (z := .agg (hashC Dig.Z32).toArray) rfl rfl rfl rfl (Dig.zero25) fun h1 sb hf => ?_
  have hf' : Fresh sa h1 sb 23 (hashC Dig.Z32) := hf
  clear hf
  refine WL.storeRow rfl rfl rfl rfl rfl rfl hf'.blk hbl (by rfl) (Ones.int _ _) ?_
  have hk2 : Below sa.heap.size sa (sb.setRow h1 (hashC (hashH b)).toArray) := below_setRow hf'.below (by rw [hf'.eq]; exact Nat.le_refl _) _
  have Hh1 : VBlk 23 (sb.setRow h1 (hashC (hashH b)).toArray) h1 (hashC (hashH b)) := hf'.blk.setRow _
  generalize sb.setRow h1 (hashC (hashH b)).toArray = s at hk2 Hh1
  clear hf'
  have hks : Below w7.heap.size w7 s := hk.trans (hk2.mono hk.size)
  clear hk hk2
  have hws := hw7.trans (hks.mono hw7.size)
  have Ys := Y7.below hks
  have Iys := IsB.below hks Iyg
  have Bs := B7.below hks
  refine kgo ?_
  refine WL.loadMid rfl rfl rfl rfl rfl rfl (VBlk.rangeAt Ys.blk) hyl ?_
  refine WL.call rfl rfl rfl rfl rfl Tryz.func7 rfl (by kernel_rfl) (hash11_any Iys (hT.below hws (Nat.le_refl _)) hlen2) ?_
  rintro _ ta ⟨rfl, hk⟩
  refine ⟨_, rfl, ?_⟩
  rw [hv2]
  refine kgo ?_
  refine WL.alloc (z := .agg (hashC Dig.Z32).toArray) rfl rfl rfl rfl (Dig.zero25) fun h2 tb hf => ?_
  have hf' : Fresh ta h2 tb 23 (hashC Dig.Z32) := hf
  clear hf
  refine WL.storeRow rfl rfl rfl rfl rfl rfl hf'.blk hbl (by rfl) (Ones.int _ _) ?_
  have hk2 : Below ta.heap.size ta (tb.setRow h2 (hashC (hashH b)).toArray) := below_setRow hf'.below (by rw [hf'.eq]; exact Nat.le_refl _) _
  have Hh2 : VBlk 23 (tb.setRow h2 (hashC (hashH b)).toArray) h2 (hashC (hashH b)) := hf'.blk.setRow _
  generalize tb.setRow h2 (hashC (hashH b)).toArray = t at hk2 Hh2
  clear hf'
  have hkt : Below s.heap.size s t := hk.trans (hk2.mono hk.size)
  clear hk hk2
  have hwt := hws.trans (hkt.mono hws.size)
  have Yt := Ys.below hkt
  have Iyt := IsB.below hkt Iys
  have Bt := Bs.below hkt
  have Hh1 := Hh1.below hkt Hh1.lt
  have k7t : Below w7.heap.size w7 t := hks.trans (hkt.mono hks.size)
  have hyet : Els 46 noE (IsE f w7) (fun _ => True) t (.slice ysp (redAt b k).ents.length ycap) (redAt b k).ents := hye.keep (Keep.of_below k7t) (fun x _ hl => hl) (fun _ h => h) fun _ _ h => h
  obtain ⟨yb, yo, cap2, ycs, hse, hyb, hy46, hyce, hycr⟩ := hyet.at (j := k) (by omega)
  injection hse with hse1 _ hse2
  subst hse1; subst hse2
  rw [redAt_at hk] at hyce
  have hgone : (redE false (b.ents.getD k noE)).gone = true := redE_gone (by rw [redE_kind]; exact hkd)
  have cgn : t.cell? ⟨yb, yo + k * 46 + 43, none⟩ = some (.bool true) := by
    obtain ⟨dc, rfl, -, hdl, -, hh, -⟩ := hyce
    have := hycr 43 _ (enC_tail hdl hh).1
    rw [hgone] at this
    exact this
  clear hyce hycr
  rw [hrr]
  refine kgo ?_
  refine WL.loadMid rfl rfl rfl rfl rfl rfl (VBlk.rangeAt Hh1) hbl ?_
  refine kgo ?_
  refine WL.loadMid rfl rfl rfl rfl rfl rfl (VBlk.rangeAt Hh2) hbl ?_
  refine WL.on rfl rfl ?_
  refine WL.neqH rfl rfl rfl rfl rfl rfl hH hH ?_
  refine WL.as 66 (.bool false) rfl (congrArg Value.bool (by simp)) ?_
  refine kgo ?_
  refine WL.load rfl rfl rfl rfl rfl rfl Yt.ents ?_
  refine kgo ?_
  refine WL.idx k (yo + k * 46) rfl rfl rfl rfl rfl rfl rfl rfl (by omega) rfl ?_
  refine kgo ?_
  refine WL.load rfl rfl rfl rfl rfl rfl cgn ?_
  refine kgo ?_
  refine WC.loop (fun i : Nat => [(1, .int .i64 (k : Nat)), (2, .pointer (some ⟨g1, 0, none⟩)), (6, .pointer (some ⟨yg, 0, none⟩)), (14, .int .i64 i)])
    (fun i wr => i ≤ b.ents.length ∧ Below t.heap.size t wr) (fun i => b.ents.length - i) 0 ⟨rfl, rfl, rfl, rfl, trivial⟩ ⟨Nat.zero_le _, Below.refl _ _⟩ ?_
  rintro i wr ⟨hi, hbr⟩
  have Br := Bt.below hbr
  have Yr := Yt.below hbr
  have hwr := hwt.trans (hbr.mono hwt.size)
  refine kgo ?_
  refine WL.load rfl rfl rfl rfl rfl rfl Br.ents ?_
  by_cases hik : i < b.ents.length
  · obtain ⟨kb, ko, cap', cs, hse, hkb, hc46, hce, hcr⟩ := hents.at hik
    injection hse with hse1 _ hse2
    subst hse1; subst hse2
    obtain ⟨yb', yo', cap2', ycs', hse, hyb', hy46', hyce', hycr'⟩ := hyet.at (j := i) (by omega)
    injection hse with hse1 _ hse2
    injection hse1 with hse1
    injection hse1 with hs1 hs2 _
    subst hs1; subst hs2; subst hse2
    refine kgo ?_
    refine WC.drawn 14 (fun wx => wx.heap = wr.heap) fun w8 hd => ?_
    have hS : w8.heap = wr.heap := hd.heap
    have kr8 : Below wr.heap.size wr w8 := hd.below _
    by_cases hne : i = k
    · (((first | refine WD.free 0 rfl (by kernel_rfl) rfl rfl (fun _ _ _ _ _ h => h) rfl rfl (.inr hS) ?_ | refine WD.skip 0 rfl (by kernel_rfl) rfl rfl (fun _ _ _ _ _ h => h) rfl (.inr hS) ?_); try (first | ((with_reducible refine WD.topT ?_ ?_); omega) | ((with_reducible refine WD.topF ?_ ?_); omega) | ((with_reducible refine WD.top64 ?_ ?_); omega))); ((first | refine WD.free 1 rfl (by kernel_rfl) rfl rfl (fun _ _ _ _ _ h => h) rfl rfl (.inr hS) ?_ | refine WD.skip 1 rfl (by kernel_rfl) rfl rfl (fun _ _ _ _ _ h => h) rfl (.inr hS) ?_); try (first | ((with_reducible refine WD.topT ?_ ?_); omega) | ((with_reducible refine WD.topF ?_ ?_); omega) | ((with_reducible refine WD.top64 ?_ ?_); omega))); ((first | refine WD.free 2 rfl (by kernel_rfl) rfl rfl (fun _ _ _ _ _ h => h) rfl rfl (.inr hS) ?_ | refine WD.skip 2 rfl (by kernel_rfl) rfl rfl (fun _ _ _ _ _ h => h) rfl (.inr hS) ?_); try (first | ((with_reducible refine WD.topT ?_ ?_); omega) | ((with_reducible refine WD.topF ?_ ?_); omega) | ((with_reducible refine WD.top64 ?_ ?_); omega))); ((first | refine WD.free 3 rfl (by kernel_rfl) rfl rfl (fun _ _ _ _ _ h => h) rfl rfl (.inr hS) ?_ | refine WD.skip 3 rfl (by kernel_rfl) rfl rfl (fun _ _ _ _ _ h => h) rfl (.inr hS) ?_); try (first | ((with_reducible refine WD.topT ?_ ?_); omega) | ((with_reducible refine WD.topF ?_ ?_); omega) | ((with_reducible refine WD.top64 ?_ ?_); omega))); ((first | refine WD.free 4 rfl (by kernel_rfl) rfl rfl (fun _ _ _ _ _ h => h) rfl rfl (.inr hS) ?_ | refine WD.skip 4 rfl (by kernel_rfl) rfl rfl (fun _ _ _ _ _ h => h) rfl (.inr hS) ?_); try (first | ((with_reducible refine WD.topT ?_ ?_); omega) | ((with_reducible refine WD.topF ?_ ?_); omega) | ((with_reducible refine WD.top64 ?_ ?_); omega))); ((first | refine WD.free 5 rfl (by kernel_rfl) rfl rfl (fun _ _ _ _ _ h => h) rfl rfl (.inr hS) ?_ | refine WD.skip 5 rfl (by kernel_rfl) rfl rfl (fun _ _ _ _ _ h => h) rfl (.inr hS) ?_); try (first | ((with_reducible refine WD.topT ?_ ?_); omega) | ((with_reducible refine WD.topF ?_ ?_); omega) | ((with_reducible refine WD.top64 ?_ ?_); omega))); ((first | refine WD.free 6 rfl (by kernel_rfl) rfl rfl (fun _ _ _ _ _ h => h) rfl rfl (.inr hS) ?_ | refine WD.skip 6 rfl (by kernel_rfl) rfl rfl (fun _ _ _ _ _ h => h) rfl (.inr hS) ?_); try (first | ((with_reducible refine WD.topT ?_ ?_); omega) | ((with_reducible refine WD.topF ?_ ?_); omega) | ((with_reducible refine WD.top64 ?_ ?_); omega))); ((first | refine WD.free 7 rfl (by kernel_rfl) rfl rfl (fun _ _ _ _ _ h => h) rfl rfl (.inr hS) ?_ | refine WD.skip 7 rfl (by kernel_rfl) rfl rfl (fun _ _ _ _ _ h => h) rfl (.inr hS) ?_); try (first | ((with_reducible refine WD.topT ?_ ?_); omega) | ((with_reducible refine WD.topF ?_ ?_); omega) | ((with_reducible refine WD.top64 ?_ ?_); omega))); ((first | refine WD.free 8 rfl (by kernel_rfl) rfl rfl (fun _ _ _ _ _ h => h) rfl rfl (.inr hS) ?_ | refine WD.skip 8 rfl (by kernel_rfl) rfl rfl (fun _ _ _ _ _ h => h) rfl (.inr hS) ?_); try (first | ((with_reducible refine WD.topT ?_ ?_); omega) | ((with_reducible refine WD.topF ?_ ?_); omega) | ((with_reducible refine WD.top64 ?_ ?_); omega))); ((first | refine WD.free 9 rfl (by kernel_rfl) rfl rfl (fun _ _ _ _ _ h => h) rfl rfl (.inr hS) ?_ | refine WD.skip 9 rfl (by kernel_rfl) rfl rfl (fun _ _ _ _ _ h => h) rfl (.inr hS) ?_); try (first | ((with_reducible refine WD.topT ?_ ?_); omega) | ((with_reducible refine WD.topF ?_ ?_); omega) | ((with_reducible refine WD.top64 ?_ ?_); omega))); ((first | refine WD.free 10 rfl (by kernel_rfl) rfl rfl (fun _ _ _ _ _ h => h) rfl rfl (.inr hS) ?_ | refine WD.skip 10 rfl (by kernel_rfl) rfl rfl (fun _ _ _ _ _ h => h) rfl (.inr hS) ?_); try (first | ((with_reducible refine WD.topT ?_ ?_); omega) | ((with_reducible refine WD.topF ?_ ?_); omega) | ((with_reducible refine WD.top64 ?_ ?_); omega))); ((first | refine WD.free 11 rfl (by kernel_rfl) rfl rfl (fun _ _ _ _ _ h => h) rfl rfl (.inr hS) ?_ | refine WD.skip 11 rfl (by kernel_rfl) rfl rfl (fun _ _ _ _ _ h => h) rfl (.inr hS) ?_); try (first | ((with_reducible refine WD.topT ?_ ?_); omega) | ((with_reducible refine WD.topF ?_ ?_); omega) | ((with_reducible refine WD.top64 ?_ ?_); omega))); ((first | refine WD.free 12 rfl (by kernel_rfl) rfl rfl (fun _ _ _ _ _ h => h) rfl rfl (.inr hS) ?_ | refine WD.skip 12 rfl (by kernel_rfl) rfl rfl (fun _ _ _ _ _ h => h) rfl (.inr hS) ?_); try (first | ((with_reducible refine WD.topT ?_ ?_); omega) | ((with_reducible refine WD.topF ?_ ?_); omega) | ((with_reducible refine WD.top64 ?_ ?_); omega))); ((first | refine WD.free 13 rfl (by kernel_rfl) rfl rfl (fun _ _ _ _ _ h => h) rfl rfl (.inr hS) ?_ | refine WD.skip 13 rfl (by kernel_rfl) rfl rfl (fun _ _ _ _ _ h => h) rfl (.inr hS) ?_); try (first | ((with_reducible refine WD.topT ?_ ?_); omega) | ((with_reducible refine WD.topF ?_ ?_); omega) | ((with_reducible refine WD.top64 ?_ ?_); omega))))
      refine WD.one 14 (by kernel_rfl) rfl ?_
      refine WL.off rfl rfl rfl ?_
      refine WL.nil (WQ.dk (.inl rfl) ?_)
      (((first | refine WD.free 15 rfl (by kernel_rfl) rfl rfl (fun _ _ _ _ _ h => h) rfl rfl (.inl rfl) ?_ | refine WD.skip 15 rfl (by kernel_rfl) rfl rfl (fun _ _ _ _ _ h => h) rfl (.inl rfl) ?_); try (first | ((with_reducible refine WD.topT ?_ ?_); omega) | ((with_reducible refine WD.topF ?_ ?_); omega) | ((with_reducible refine WD.top64 ?_ ?_); omega))))
      refine WD.one 16 (by kernel_rfl) rfl ?_
      refine WL.pure rfl rfl rfl rfl ?_
      refine WL.nil (WQ.dk (.inl rfl) ?_)
      refine WD.done (by kernel_rfl) ?_
      refine kgo ?_
      exact WQ.again (i + 1) ⟨rfl, rfl, rfl, rfl, trivial⟩ ⟨hik, hbr.trans (kr8.mono hbr.size)⟩ (by show b.ents.length - (i + 1) < b.ents.length - i; omega)
    · rw [redAt_not hne] at hyce'
      have a1 : ∀ {wx : World}, wx.heap = wr.heap → wx.rangeAt kb (ko + i * 46) cs := fun hx j u hu => (heap_cell hx _).trans ((hwr.cell (p := ⟨kb, ko + i * 46 + j, none⟩) hkb).trans (hcr j u hu))
      have a2 : ∀ {wx : World}, wx.heap = wr.heap → wx.rangeAt yb (yo + i * 46) ycs' := fun hx j u hu => (heap_cell hx _).trans ((hbr.cell (p := ⟨yb, yo + i * 46 + j, none⟩) hyb').trans (hycr' j u hu))
      have k78 : Below w7.heap.size w7 w8 := k7t.trans ((hbr.trans (kr8.mono hbr.size)).mono k7t.size)
      have hw8 := hwr.trans (kr8.mono hwr.size)
      (((first | refine WD.free 0 rfl (by kernel_rfl) rfl rfl (fun _ _ _ _ _ h => h) rfl rfl (.inr hS) ?_ | refine WD.skip 0 rfl (by kernel_rfl) rfl rfl (fun _ _ _ _ _ h => h) rfl (.inr hS) ?_); try (first | ((with_reducible refine WD.topT ?_ ?_); omega) | ((with_reducible refine WD.topF ?_ ?_); omega) | ((with_reducible refine WD.top64 ?_ ?_); omega))); ((first | refine WD.free 1 rfl (by kernel_rfl) rfl rfl (fun _ _ _ _ _ h => h) rfl rfl (.inr hS) ?_ | refine WD.skip 1 rfl (by kernel_rfl) rfl rfl (fun _ _ _ _ _ h => h) rfl (.inr hS) ?_); try (first | ((with_reducible refine WD.topT ?_ ?_); omega) | ((with_reducible refine WD.topF ?_ ?_); omega) | ((with_reducible refine WD.top64 ?_ ?_); omega))); ((first | refine WD.free 2 rfl (by kernel_rfl) rfl rfl (fun _ _ _ _ _ h => h) rfl rfl (.inr hS) ?_ | refine WD.skip 2 rfl (by kernel_rfl) rfl rfl (fun _ _ _ _ _ h => h) rfl (.inr hS) ?_); try (first | ((with_reducible refine WD.topT ?_ ?_); omega) | ((with_reducible refine WD.topF ?_ ?_); omega) | ((with_reducible refine WD.top64 ?_ ?_); omega))); ((first | refine WD.free 3 rfl (by kernel_rfl) rfl rfl (fun _ _ _ _ _ h => h) rfl rfl (.inr hS) ?_ | refine WD.skip 3 rfl (by kernel_rfl) rfl rfl (fun _ _ _ _ _ h => h) rfl (.inr hS) ?_); try (first | ((with_reducible refine WD.topT ?_ ?_); omega) | ((with_reducible refine WD.topF ?_ ?_); omega) | ((with_reducible refine WD.top64 ?_ ?_); omega))); ((first | refine WD.free 4 rfl (by kernel_rfl) rfl rfl (fun _ _ _ _ _ h => h) rfl rfl (.inr hS) ?_ | refine WD.skip 4 rfl (by kernel_rfl) rfl rfl (fun _ _ _ _ _ h => h) rfl (.inr hS) ?_); try (first | ((with_reducible refine WD.topT ?_ ?_); omega) | ((with_reducible refine WD.topF ?_ ?_); omega) | ((with_reducible refine WD.top64 ?_ ?_); omega))))
      refine WD.load 5 [7, 8, 14, 15, 16] rfl (by kernel_rfl) rfl rfl (fun _ _ _ _ _ h => h) rfl rfl rfl rfl (fun wx hx => (heap_cell hx _).trans Yr.ents) hS ?_
      (((first | refine WD.free 6 rfl (by kernel_rfl) rfl rfl (fun _ _ _ _ _ h => h) rfl rfl (.inr hS) ?_ | refine WD.skip 6 rfl (by kernel_rfl) rfl rfl (fun _ _ _ _ _ h => h) rfl (.inr hS) ?_); try (first | ((with_reducible refine WD.topT ?_ ?_); omega) | ((with_reducible refine WD.topF ?_ ?_); omega) | ((with_reducible refine WD.top64 ?_ ?_); omega))))
      refine WD.idx 7 i (yo + i * 46) rfl (by kernel_rfl) rfl rfl (fun _ _ _ _ _ h => h) rfl rfl rfl rfl rfl rfl (by omega) rfl (.inr hS) ?_
      refine WD.loadMid 8 [14, 15, 16] rfl (by kernel_rfl) rfl rfl (fun _ _ _ _ _ h => h) rfl rfl rfl rfl (fun wx hx => a2 hx) hy46' hS ?_
      (((first | refine WD.free 9 rfl (by kernel_rfl) rfl rfl (fun _ _ _ _ _ h => h) rfl rfl (.inr hS) ?_ | refine WD.skip 9 rfl (by kernel_rfl) rfl rfl (fun _ _ _ _ _ h => h) rfl (.inr hS) ?_); try (first | ((with_reducible refine WD.topT ?_ ?_); omega) | ((with_reducible refine WD.topF ?_ ?_); omega) | ((with_reducible refine WD.top64 ?_ ?_); omega))))
      refine WD.load 10 [12, 13, 14, 15, 16] rfl (by kernel_rfl) rfl rfl (fun _ _ _ _ _ h => h) rfl rfl rfl rfl (fun wx hx => (heap_cell hx _).trans Br.ents) hS ?_
      (((first | refine WD.free 11 rfl (by kernel_rfl) rfl rfl (fun _ _ _ _ _ h => h) rfl rfl (.inr hS) ?_ | refine WD.skip 11 rfl (by kernel_rfl) rfl rfl (fun _ _ _ _ _ h => h) rfl (.inr hS) ?_); try (first | ((with_reducible refine WD.topT ?_ ?_); omega) | ((with_reducible refine WD.topF ?_ ?_); omega) | ((with_reducible refine WD.top64 ?_ ?_); omega))))
      refine WD.idx 12 i (ko + i * 46) rfl (by kernel_rfl) rfl rfl (fun _ _ _ _ _ h => h) rfl rfl rfl rfl rfl rfl hik rfl (.inr hS) ?_
      refine WD.loadMid 13 [14, 15, 16] rfl (by kernel_rfl) rfl rfl (fun _ _ _ _ _ h => h) rfl rfl rfl rfl (fun wx hx => a1 hx) hc46 hS ?_
      refine WD.one 14 (by kernel_rfl) rfl ?_
      refine WL.on rfl rfl ?_
      refine WL.call rfl rfl rfl rfl rfl Tryz.func19 rfl (by kernel_rfl) (entries_any (IsE.below k78 hyce') (IsE.below hw8 hce)) ?_
      rintro _ w9 ⟨⟨bq, rfl, hbq⟩, hk9⟩
      refine ⟨_, rfl, ?_⟩
      obtain rfl : bq = true := hbq.2 rfl
      refine WL.nil (WQ.dk (.inl rfl) ?_)
      (((first | refine WD.free 15 rfl (by kernel_rfl) rfl rfl (fun _ _ _ _ _ h => h) rfl rfl (.inl rfl) ?_ | refine WD.skip 15 rfl (by kernel_rfl) rfl rfl (fun _ _ _ _ _ h => h) rfl (.inl rfl) ?_); try (first | ((with_reducible refine WD.topT ?_ ?_); omega) | ((with_reducible refine WD.topF ?_ ?_); omega) | ((with_reducible refine WD.top64 ?_ ?_); omega))))
      refine WD.one 16 (by kernel_rfl) rfl ?_
      refine WL.pure rfl rfl rfl rfl ?_
      refine WL.nil (WQ.dk (.inl rfl) ?_)
      refine WD.done (by kernel_rfl) ?_
      refine kgo ?_
      exact WQ.again (i + 1) ⟨rfl, rfl, rfl, rfl, trivial⟩ ⟨hik, hbr.trans ((kr8.trans (hk9.mono kr8.size)).mono hbr.size)⟩ (by show b.ents.length - (i + 1) < b.ents.length - i; omega)
  · obtain rfl : i = b.ents.length := by omega
    have Iyr := IsB.below hbr Iyt
    refine kgo ?_
    refine WL.loadMid rfl rfl rfl rfl rfl rfl (VBlk.rangeAt Yr.blk) hyl ?_
    refine kgo ?_
    refine WL.call rfl rfl rfl rfl rfl Tryz.func17 rfl (by kernel_rfl) (redact_any Iyr hx hlen2 hsm2 (by omega)) ?_
    rintro _ ua ⟨hk, cug, rfl, Iug⟩
    refine ⟨_, rfl, ?_⟩
    have lug := Iug.len
    refine kgo ?_
    refine WL.alloc (z := .agg (bkC noB (.slice none 0 0)).toArray) rfl rfl rfl rfl (fun _ => by kernel_rfl) fun ug ub hf => ?_
    have hf' : Fresh ua ug ub 26 (bkC noB (.slice none 0 0)) := hf
    clear hf
    refine WL.storeRow rfl rfl rfl rfl rfl rfl hf'.blk lug rfl Iug.one ?_
    have hk2 : Below ua.heap.size ua (ub.setRow ug cug.toArray) := below_setRow hf'.below (by rw [hf'.eq]; exact Nat.le_refl _) _
    have Vug : VBlk 26 (ub.setRow ug cug.toArray) ug cug := hf'.blk.setRow cug
    generalize ub.setRow ug cug.toArray = u at hk2 Vug
    clear hf'
    have Iug := IsB.below hk2 Iug
    have hku : Below wr.heap.size wr u := hk.trans (hk2.mono hk.size)
    clear hk hk2
    have hwu := hwr.trans (hku.mono hwr.size)
    have htw := redR_twice hk hc hkd
    rw [htw]
    refine kgo ?_
    refine WL.call rfl rfl rfl rfl rfl Tryz.func16 rfl (by kernel_rfl) known_any ?_
    rintro _ w11 ⟨rfl, hk11⟩
    refine ⟨_, rfl, ?_⟩
    refine kgo ?_
    exact WQ.ret1 rfl rfl ⟨rfl, hwu.trans (hk11.mono hwu.size)⟩
end K
end Go.Proofs.YtlamdhekjlnccaaGreatDoor

/-
  For every block and every number the law BlockRedacts answers true, and the arguments read as they did. The library's table lies as the program's text lays it: that is the card's tie; no other condition.
-/
namespace Go.Proofs.YtlamdhekjlnccaaGreatDoor.blockRedacts
open Go.ChangeShapes Go.WideShapes Go.ChangeAt Go.RowKit
open Go.ChangeMaps (open_string shut_string)
open Go.Proofs.YtlamdhekjlnccaaGreatDoor

set_option maxRecDepth 100000 in
theorem lifted (os : Os) (started : os.Started) (H : Type) (enc : TypeId × Value → H) :
    ReturnsInHanded {} Tryz.checked os 4 .any (fun w args => (Rows.blockRedactsSpec.pre enc Tryz.prog Tryz.f4 [] false w args ∧ laidMetH Tryz.prog Mk.laidL w) ∧ sizedMet enc Tryz.prog Tryz.f4 (OpenSpec.ofChange Rows.blockRedactsSpec) false w args)
      (Rows.blockRedactsSpec.post enc Tryz.prog Tryz.f4 false true false false) := by
  refine returnsInHanded_of_change_and (C := Tryz.checked) (X := fun w _ => laidMetH Tryz.prog Mk.laidL w) (fun _ _ _ hh h => h.of_heap hh) Tryz.ownKnob started (by kernel_rfl) Tryz.func4
    (ChangeSpec.witness_shaped (enc := enc) (C := Tryz.checked) (os := os) (X := fun w _ => laidMetH Tryz.prog Mk.laidL w) false (World.doorLaid Tryz.prog 14 os) #[.agg (K.bkC K.noB (.slice none 0 0)).toArray, .int .i64 0] 8 rfl (World.shaped_of_RefB (by kernel_rfl) (by kernel_rfl)) (by kernel_rfl) (by kernel_rfl) (by kernel_rfl) (Mk.door_met os _)) ?_
  intro W base args ds gs before hval0 hW hcnd hsz hL _
  have hval : ∀ (j : Nat) t v, Tryz.f4.params[j]? = some t → args[j]? = some v → Value.okWide Tryz.prog W .any base t v := hval0
  have hW' := hW
  obtain ⟨p, q, hA0, hV, rfl, hfz, hnd⟩ := hW
  have hA : DataW.TrodAll enc Tryz.prog W 0 (fun _ => true) true Tryz.f4.params.toList args.toList ds p := hA0
  rw [Tryz.params4] at hA hval
  obtain ⟨v0, vs0, d0, ds0, p0, q0, hargs, rfl, rfl, h0, r0⟩ := trodAll_cons hA
  obtain ⟨v1, vs1, d1, ds1, p1, q1, rfl, rfl, rfl, h1, r1⟩ := trodAll_cons r0
  obtain ⟨rfl, rfl, rfl⟩ := trodAll_nil r1
  obtain rfl : args = #[v0, v1] := by cases args; simp_all
  obtain ⟨rfl, rfl⟩ := trodVars_none hV
  have k0 := h0
  have lt0 : ∀ x ∈ p0, x.block < W.heap.size := by obtain ⟨m, hm⟩ := k0; exact DataW.trod_lt m _ _ _ hm
  obtain ⟨f0, x0, c0, rfl, iv0, sm0⟩ := K.open_blkA (hval 0 26 v0 rfl rfl) h0 (fun n hn => by have := List.all_eq_true.1 hsz n (DataW.weights_mem_each (j := 0) rfl rfl n hn); simpa using this)
  have k1 := h1
  have lt1 : ∀ x ∈ p1, x.block < W.heap.size := by obtain ⟨m, hm⟩ := k1; exact DataW.trod_lt m _ _ _ hm
  obtain ⟨x1, rfl, -, -, wx1⟩ := open_int Tryz.underlying3 (hval 1 3 v1 rfl rfl) h1
  clear hA0 hval0
  have hT := Mk.of_laid hL
  refine (K.blockRedacts_law iv0 sm0 (by simp [Lit.wf, IntKind.min, IntKind.max, IntKind.bits, IntKind.signed] at wx1; show K.R64 _; omega) hT).mono fun e W' ⟨he, bel⟩ => ?_
  subst he
  exact ⟨_, rfl, _, _, _, [], _, [], hW', trodAll_mk1 (shut_bool Tryz.underlying4 _), (trodAll_cons_mk (Below.trod Tryz.laid (by kernel_rfl) (of_decide_eq_true (by kernel_rfl)) k0 bel lt0) (trodAll_cons_mk (Below.trod Tryz.laid (by kernel_rfl) (of_decide_eq_true (by kernel_rfl)) k1 bel lt1) trodAll_mk0)), rfl, bel.frame _, fun h => by cases h⟩

theorem over : Rows.blockRedactsRow.holds Tryz.pinned (OpenSpec.ofChange Rows.blockRedactsSpec) :=
  OpenClaim.holds_of_wide 4 Tryz.f4 rfl rfl rfl rfl rfl rfl rfl ⟨rfl, rfl, rfl, rfl, rfl⟩ rfl rfl rfl rfl rfl (by kernel_rfl) Tryz.func4 (by kernel_rfl)
    (of_decide_eq_true (by kernel_rfl)) (by unfold Func.isWrapper; first | (rw [if_pos (by decide +kernel)]; kernel_rfl) | (rw [if_neg (by decide +kernel)]; exact ⟨rfl, rfl⟩))
    (fun os started H enc _ => lifted os started H enc)

/-- The statement: the tied card. -/
theorem proved : Rows.BlockRedactsCardSaid :=
  Claim7.holds_tied_plain_at .later [] [.data] true (true, "5b8e71136d18ad0beb00200b58e3df34c33f2e0ff157dfff6c07f73d723e1b9a") false
    over (fun _ h => by cases h) (by kernel_rfl) (fun _ h => by cases h) blockRedacts_row_tie rfl ⟨rfl, rfl⟩ (by kernel_rfl) rfl
    (fun f fn hf hfn => by
      obtain rfl : f = 4 := Option.some.inj ((show Tryz.prog.funcNamed Rows.blockRedactsRow.func = some 4 by kernel_rfl).symm.trans hf) |>.symm
      obtain rfl : fn = Tryz.f4 := (Option.some.inj (Tryz.func4.symm.trans hfn)).symm
      exact ⟨by kernel_rfl, fun j t ht => by
        rw [Tryz.params4] at ht
        have hm : t ∈ [26, 3] := by simpa using Array.mem_of_getElem? ht
        have hall : ([26, 3].all fun u => !Tryz.prog.wantsStandIn u) = true := by kernel_rfl
        exact (show Tryz.prog.wantsStandIn t = false by simpa using List.all_eq_true.1 hall t hm)⟩)
    (by kernel_rfl)
end Go.Proofs.YtlamdhekjlnccaaGreatDoor.blockRedacts
