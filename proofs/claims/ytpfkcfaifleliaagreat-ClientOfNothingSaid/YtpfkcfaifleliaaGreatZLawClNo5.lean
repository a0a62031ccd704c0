/-
  For every message and every job the law ClientOfNothing answers true, and the arguments read as they did. No condition.
-/
import Derived.Test.YtpfkcfaifleliaaGreatZLawClNo4
import Derived.ChangeMaps5
import Derived.SizedLaws
namespace Go.Proofs.YtpfkcfaifleliaaGreat
open Go.RowKit
namespace K
set_option maxHeartbeats 4000000 in
theorem great_weak : ∀ (f : Nat) {w0 w : World} {v : V} {cs : List Value} {pb : Nat} {n : Int}, IsV f w0 v cs → Below w0.heap.size w0 w → w0.heap.size ≤ pb → VBlk 3 w pb [.int .i64 n] →
    Calls Tryz.prog 20 #[.agg cs.toArray, .pointer (some ⟨pb, 0, none⟩)] w fun e w' => (∃ b, e = .returned (.bool b)) ∧ (∃ m : Int, VBlk 3 w' pb [.int .i64 m]) ∧ Keep (fun b => b < w.heap.size ∧ b ≠ pb) w w'
  | 0, _, _, _, _, _, _, h, _, _, _ => h.elim
  | f + 1, w0, w, v, cs, pb, n, hv, hbel, hpb, hblk => by
    have ih := @great_weak f; obtain ⟨sn, sk, rfl, -, -, -, htz, ⟨np, nc, rfl, nl, nc2, -, -⟩, ⟨sp, cap, rfl, hcap1, hcap2, hrow⟩⟩ := hv; refine enter (args := [.agg (six v (.slice np v.names.length nc) (.slice sp v.kids.length cap)).toArray, .pointer (some ⟨pb, 0, none⟩)]) Tryz.func20 rfl Tryz.ntmps20 rfl ?_; refine K.kgo ?_; refine WL.box rfl rfl rfl rfl rfl fun g w1 hf => ?_; have hf' : Fresh w g w1 82 (six v (.slice np v.names.length nc) (.slice sp v.kids.length cap)) := hf; clear hf; have hpw := hblk.lt; have hne : g ≠ pb := by rw [hf'.eq]; omega
    have hblk1 : VBlk 3 w1 pb [.int .i64 n] := hblk.below hf'.below hpw; have hkeep1 : Keep (fun b => b < w.heap.size ∧ b ≠ pb) w w1 := (Keep.of_below hf'.below).mono fun _ h => h.1; refine K.kgo ?_; refine WC.drawn 15 (fun wx => VBlk 3 wx pb [.int .i64 n] ∧ VBlk 82 wx g (six v (.slice np v.names.length nc) (.slice sp v.kids.length cap))) fun w2 hd2 => ?_; have hS : VBlk 3 w2 pb [.int .i64 n] ∧ VBlk 82 w2 g (six v (.slice np v.names.length nc) (.slice sp v.kids.length cap)) := ⟨hblk1.below (hd2.below _) hblk1.lt, hf'.blk.below (hd2.below _) hf'.blk.lt⟩; refine K.fr [0, 1, 2] hS ?_; refine K.wl 3 [4, 9, 13, 15] rfl rfl rfl rfl rfl rfl rfl (fun wx hx => hx.1.cell 0 (by simp)) hS ?_; refine K.fr [4, 5] hS ?_; refine K.wl 6 [7, 8, 9, 13, 15] rfl rfl rfl rfl rfl rfl rfl (fun wx hx => hx.2.cell 3 (by simp)) hS ?_; refine K.fr [7, 8, 9, 10] hS ?_; refine K.wl 11 [12, 13, 15] rfl rfl rfl rfl rfl rfl rfl (fun wx hx => hx.2.cell 4 (by simp)) hS ?_; refine K.fr [12, 13, 14] hS ?_; refine K.wo 15 ?_; refine WL.store rfl rfl rfl rfl rfl rfl (by kernel_rfl) (hS.1.cell 0 (by simp)) (hS.1.free 0) ?_; generalize IntKind.i64.wrap _ = n1; have hb2 : VBlk 3 (w2.setCell ⟨pb, 0, none⟩ (.int .i64 n1)) pb [.int .i64 n1] := hS.1.set 0 (.int .i64 n1); have hg2 : VBlk 82 (w2.setCell ⟨pb, 0, none⟩ (.int .i64 n1)) g (six v (.slice np v.names.length nc) (.slice sp v.kids.length cap)) := hS.2.other _ _ hne; have hk2 : Keep (fun b => b < w.heap.size ∧ b ≠ pb) w (w2.setCell ⟨pb, 0, none⟩ (.int .i64 n1)) := (hkeep1.trans ((Keep.of_below (hd2.below w1.heap.size)).mono fun b hb => Nat.lt_of_lt_of_le hb.1 hf'.below.size)).setCell (fun h => h.2 rfl) _; generalize w2.setCell ⟨pb, 0, none⟩ (.int .i64 n1) = w3 at hb2 hg2 hk2; refine K.dl ?_; refine WD.done (by kernel_rfl) ?_; refine K.kgo ?_; have hgw : g < w3.heap.size := hg2.lt; refine WC.loop (fun i : Nat => [(1, .pointer (some ⟨pb, 0, none⟩)), (2, .pointer (some ⟨g, 0, none⟩)), (5, .int .i64 i)])
      (fun i w' => i ≤ v.kids.length ∧ Keep (fun b => b < w3.heap.size ∧ b ≠ pb) w3 w' ∧ ∃ x : Int, VBlk 3 w' pb [.int .i64 x]) (fun i => v.kids.length - i) 0
      ⟨rfl, rfl, rfl, trivial⟩ ⟨Nat.zero_le _, Keep.refl _ _, n1, hb2⟩ ?_
    rintro i wr ⟨hi, hkr, x, hbx⟩; have hgr2 : VBlk 82 wr g (six v (.slice np v.names.length nc) (.slice sp v.kids.length cap)) := hg2.keep hkr ⟨hgw, hne⟩; have hkw : Keep (fun b => b < w.heap.size ∧ b ≠ pb) w wr := hk2.trans (hkr.mono fun b hb => ⟨Nat.lt_of_lt_of_le hb.1 hk2.size, hb.2⟩); refine K.kgo ?_; refine WL.load rfl rfl rfl rfl rfl rfl (hgr2.cell 5 (by simp)) ?_
    by_cases hik : i < v.kids.length
    · refine K.kgo ?_
      refine WL.load rfl rfl rfl rfl rfl rfl (hbx.cell 0 (by simp)) ?_
      by_cases hx2 : x ≤ 500
      · obtain ⟨kb, ko, rfl, hkb, hcells⟩ := hrow (by omega)
        obtain ⟨c, hc6, hci, hcr⟩ := hcells i hik; have hbelr : Below w0.heap.size w0 wr := (hbel.trans ((hkw.mono fun b hb => ⟨Nat.lt_of_lt_of_le hb hbel.size, Nat.ne_of_lt (Nat.lt_of_lt_of_le hb hpb)⟩ : Keep (fun b => b < w0.heap.size) w wr).below)); have hcr' : wr.rangeAt kb (ko + i * 6) c := fun j u hu => by rw [hbelr.cell (p := ⟨kb, ko + i * 6 + j, none⟩) hkb]; exact hcr j u hu
        refine K.kgo ?_; refine WL.load rfl rfl rfl rfl rfl rfl (hgr2.cell 5 (by simp)) ?_; refine K.kgo ?_; refine WL.idx i (ko + i * 6) rfl rfl rfl rfl rfl rfl rfl rfl hik rfl ?_; refine WL.loadMid rfl rfl rfl rfl rfl rfl hcr' hc6 ?_; refine K.kgo ?_; refine WL.call rfl rfl rfl rfl rfl Tryz.func20 rfl (by kernel_rfl) (ih (n := x) hci hbelr hpb hbx) ?_; rintro e w4 ⟨⟨b4, rfl⟩, ⟨m4, hb4⟩, hk4⟩; refine ⟨_, rfl, ?_⟩; refine K.kgo ?_; exact WQ.again (i + 1) ⟨rfl, rfl, rfl, trivial⟩ ⟨hik, hkr.trans (hk4.mono fun b hb => ⟨Nat.lt_of_lt_of_le hb.1 hkr.size, hb.2⟩), m4, hb4⟩ (by show v.kids.length - (i + 1) < v.kids.length - i; omega)
      · refine K.kgo ?_
        refine WL.load rfl rfl rfl rfl rfl rfl (hbx.cell 0 (by simp)) ?_; refine WL.pure rfl rfl rfl rfl ?_; refine WL.pure rfl rfl rfl rfl ?_; refine K.kgo ?_; exact WQ.ret1 rfl rfl ⟨⟨_, rfl⟩, ⟨x, hbx⟩, hkw⟩
    · obtain rfl : i = v.kids.length := by omega
      refine K.kgo ?_; refine WL.load rfl rfl rfl rfl rfl rfl (hbx.cell 0 (by simp)) ?_; refine WL.pure rfl rfl rfl rfl ?_; refine WL.pure rfl rfl rfl rfl ?_; refine K.kgo ?_; exact WQ.ret1 rfl rfl ⟨⟨_, rfl⟩, ⟨x, hbx⟩, hkw⟩
end K
namespace Cl
open K
set_option maxRecDepth 100000
def RowJ (E : Nat → Prop) (f : Nat) (w : World) (L : List Stm) (cs : List Value) : Prop := ∃ u, cs = [u] ∧ IsSts E f w u L
def IsJobs (E : Nat → Prop) (f : Nat) (w : World) (v : Value) (JJ : List (List Stm)) : Prop := Els 1 [] (RowJ E f w) E w v JJ
set_option maxHeartbeats 8000000 in
theorem heavyJobs_weak {E : Nat → Prop} {f : Nat} {w : World} {v : Value} {JJ : List (List Stm)} (hv : IsJobs E f w v JJ) : Calls Tryz.prog 7 #[v] w fun e w' => (∃ b, e = .returned (.bool b)) ∧ Below w.heap.size w w' := by
  obtain ⟨sp, cap, rfl, hc1, hc2, hc3, hrow⟩ := id hv; refine enter (args := [.slice sp JJ.length cap]) Tryz.func7 rfl Tryz.ntmps7 rfl ?_; refine K.kgo ?_; refine WL.alloc (z := .int .i64 0) rfl rfl rfl rfl (fun _ => by kernel_rfl) fun nb w1 f1 => ?_; have v1 : VBlk 3 w1 nb [.int .i64 0] := f1.blk; have e1 := f1.eq; refine WL.store (v := .int .i64 0) rfl rfl rfl rfl rfl rfl (by kernel_rfl) (v1.cell 0 (by simp)) (v1.free 0) ?_; have v2 : VBlk 3 (w1.setCell ⟨nb, 0, none⟩ (.int .i64 0)) nb [.int .i64 0] := v1.set 0 _; have b2 : Below w.heap.size w (w1.setCell ⟨nb, 0, none⟩ (.int .i64 0)) := ((Keep.of_below f1.below).setCell (fun hx => by have : nb < w.heap.size := hx; omega) _).below; generalize w1.setCell ⟨nb, 0, none⟩ (.int .i64 0) = w2 at v2 b2 ⊢; have hnb : w.heap.size ≤ nb := by omega
  clear f1 v1 e1; refine K.kgo ?_; have step : ∀ {wz wy : World}, Below w.heap.size w wz → Keep (fun b => b < wz.heap.size ∧ b ≠ nb) wz wy → Below w.heap.size w wy := fun h1 h2 => ((Keep.of_below h1).trans (h2.mono fun x (hx : x < w.heap.size) => ⟨Nat.lt_of_lt_of_le hx h1.size, by omega⟩)).below; refine WC.loop (fun i : Nat × Int => [(0, .slice sp JJ.length cap), (3, .pointer (some ⟨nb, 0, none⟩)), (4, .int .i64 i.2), (5, .int .i64 i.1)]) (fun i wz => i.1 ≤ JJ.length ∧ Below w.heap.size w wz ∧ ∃ n : Int, VBlk 3 wz nb [.int .i64 n]) (fun i => JJ.length - i.1) (0, 0) ⟨rfl, rfl, rfl, rfl, trivial⟩ ⟨Nat.zero_le _, b2, 0, v2⟩ ?_; clear v2 b2; rintro ⟨i, B⟩ wz ⟨hi, bz, n, vn⟩; simp only at hi ⊢
  by_cases hik : i < JJ.length
  · obtain ⟨b, o, rfl, hb, -, hr⟩ := hrow (by omega)
    obtain ⟨cs, -, ⟨u, rfl, hu⟩, hat⟩ := hr i hik; have hcell : w.cell? ⟨b, o + i * 1, none⟩ = some u := hat 0 u rfl; obtain ⟨sp2, cap2, rfl, hd1, hd2, hd3, hrow2⟩ := id hu; generalize JJ.getD i [] = L at hu hcell hrow2 hd1; clear hrow hr hat hd3; have at1 : ∀ {wy : World}, Below w.heap.size w wy → wy.cell? ⟨b, o + i * 1, none⟩ = some (.slice sp2 L.length cap2) := fun h => (h.cell (p := ⟨b, o + i * 1, none⟩) hb).trans hcell; refine K.kgo ?_; refine WC.drawn 7 (fun wx => VBlk 3 wx nb [.int .i64 n] ∧ Below w.heap.size w wx) fun wa hd => ?_; have hS : VBlk 3 wa nb [.int .i64 n] ∧ Below w.heap.size w wa := ⟨VBlk.below vn (hd.below _) (VBlk.lt vn), bz.trans (hd.below _)⟩; clear hd vn; refine K.wl 0 [6, 7] rfl rfl rfl rfl rfl rfl rfl (v := .int .i64 n) (fun wx hx => hx.1.cell 0 (by simp)) hS ?_; refine K.fr [1, 2] hS ?_; refine K.wi 3 i (o + i * 1) rfl rfl rfl rfl rfl rfl rfl rfl rfl hik rfl (.inr hS) ?_; refine K.wl 4 [5, 6, 7] rfl rfl rfl rfl rfl rfl rfl (v := .slice sp2 L.length cap2) (fun wx hx => at1 hx.2) hS ?_; refine K.fr [5, 6] hS ?_; refine K.wo 7 ?_; refine WL.store rfl rfl rfl rfl rfl rfl (by kernel_rfl) (hS.1.cell 0 (by simp)) (hS.1.free 0) ?_; generalize IntKind.i64.wrap _ = n1; have v3 : VBlk 3 (wa.setCell ⟨nb, 0, none⟩ (.int .i64 n1)) nb [.int .i64 n1] := hS.1.set 0 _; have b3 := step hS.2 ((Keep.refl (fun x => x < wa.heap.size ∧ x ≠ nb) wa).setCell (p := ⟨nb, 0, none⟩) (fun hx => hx.2 rfl) (.int .i64 n1)); generalize wa.setCell ⟨nb, 0, none⟩ (.int .i64 n1) = w3 at v3 b3 ⊢; refine K.dl ?_; refine WD.done (by kernel_rfl) ?_; clear hS bz; refine K.kgo ?_; refine WC.loop (fun k : Nat × Int => [(0, .slice (some ⟨b, o, none⟩) JJ.length cap), (3, .pointer (some ⟨nb, 0, none⟩)), (4, .int .i64 k.2), (5, .int .i64 i), (6, .int .i64 k.1)]) (fun k wz => k.1 ≤ L.length ∧ Below w.heap.size w wz ∧ ∃ n : Int, VBlk 3 wz nb [.int .i64 n]) (fun k => L.length - k.1) (0, B) ⟨rfl, rfl, rfl, rfl, rfl, trivial⟩ ⟨Nat.zero_le _, b3, n1, v3⟩ ?_; clear v3 b3; rintro ⟨k, B2⟩ wz ⟨hk, bz, n2, vn⟩; simp only at hk ⊢; have c1 := at1 bz
    by_cases hkk : k < L.length
    · refine K.kgo ?_
      refine WL.idx i (o + i * 1) rfl rfl rfl rfl rfl rfl rfl rfl hik rfl ?_; refine K.kgl ?_; obtain ⟨b2, o2, rfl, hb2, -, hr2⟩ := hrow2 (by omega); obtain ⟨cs2, -, ⟨pv, rfl, hts, hps, hpl, -⟩, hat2⟩ := hr2 k hkk; have hc0 : w.cell? ⟨b2, o2 + k * 2 + 0, none⟩ = some (.string (L.getD k noSt).text) := hat2 0 _ rfl; have hc1 : w.cell? ⟨b2, o2 + k * 2 + 1, none⟩ = some pv := hat2 1 _ rfl; obtain ⟨sp3, cap3, rfl, hg1, hg2, hg3, hrow3⟩ := id hps; generalize L.getD k noSt = S at hc0 hc1 hrow3 hpl hg1 hts; clear hr2 hat2 hps hg3; have at0 : ∀ {wy : World}, Below w.heap.size w wy → wy.cell? ⟨b2, o2 + k * 2 + 0, none⟩ = some (.string S.text) := fun h => (h.cell (p := ⟨b2, o2 + k * 2 + 0, none⟩) hb2).trans hc0; have at2 : ∀ {wy : World}, Below w.heap.size w wy → wy.cell? ⟨b2, o2 + k * 2 + 1, none⟩ = some (.slice sp3 S.params.length cap3) := fun h => (h.cell (p := ⟨b2, o2 + k * 2 + 1, none⟩) hb2).trans hc1; have c0 := at0 bz; refine K.kgo ?_; refine WL.idx i (o + i * 1) rfl rfl rfl rfl rfl rfl rfl rfl hik rfl ?_; refine K.kgl ?_; refine WL.idx k (o2 + k * 2) rfl rfl rfl rfl rfl rfl rfl rfl hkk rfl ?_; refine K.kgl ?_; generalize IntKind.i64.wrap _ = B3; refine WC.loop (fun j : Nat => [(0, .slice (some ⟨b, o, none⟩) JJ.length cap), (3, .pointer (some ⟨nb, 0, none⟩)), (4, .int .i64 B3), (5, .int .i64 i), (6, .int .i64 k), (7, .int .i64 j)]) (fun j wz => j ≤ S.params.length ∧ Below w.heap.size w wz ∧ ∃ n : Int, VBlk 3 wz nb [.int .i64 n]) (fun j => S.params.length - j) 0 ⟨rfl, rfl, rfl, rfl, rfl, rfl, trivial⟩ ⟨Nat.zero_le _, bz, n2, vn⟩ ?_; clear vn bz c1 c0; rintro j wz ⟨hj, bz, n3, vn⟩; have c1 := at1 bz; have c2 := at2 bz
      by_cases hjj : j < S.params.length
      · refine K.kgo ?_
        refine WL.idx i (o + i * 1) rfl rfl rfl rfl rfl rfl rfl rfl hik rfl ?_; refine K.kgl ?_; refine WL.idx k (o2 + k * 2) rfl rfl rfl rfl rfl rfl rfl rfl hkk rfl ?_; refine K.kgl ?_; obtain ⟨b3, o3, rfl, hb3, -, hr3⟩ := hrow3 (by omega); obtain ⟨cs3, hcl3, hv3, hat3⟩ := hr3 j hjj; have hat4 : wz.rangeAt b3 (o3 + j * 6) cs3 := fun q u hu => by rw [bz.cell (p := ⟨b3, o3 + j * 6 + q, none⟩) hb3]; exact hat3 q u hu
        refine K.kgo ?_; refine WL.idx i (o + i * 1) rfl rfl rfl rfl rfl rfl rfl rfl hik rfl ?_; refine K.kgl ?_; refine WL.idx k (o2 + k * 2) rfl rfl rfl rfl rfl rfl rfl rfl hkk rfl ?_; refine K.kgl ?_; refine WL.idx j (o3 + j * 6) rfl rfl rfl rfl rfl rfl rfl rfl hjj rfl ?_; refine WL.loadMid rfl rfl rfl rfl rfl rfl hat4 hcl3 ?_; refine WL.call rfl rfl rfl rfl rfl Tryz.func20 rfl (by kernel_rfl) (great_weak f hv3.isV bz hnb vn) ?_; rintro _ w4 ⟨⟨b4, rfl⟩, ⟨m4, v4⟩, k4⟩; refine ⟨_, rfl, ?_⟩; cases b4 with
        | true =>
          refine K.kgo ?_; exact WQ.ret1 rfl rfl ⟨⟨_, rfl⟩, step bz k4⟩
        | false =>
          refine K.kgo ?_; exact WQ.again (j + 1) ⟨rfl, rfl, rfl, rfl, rfl, rfl, trivial⟩ ⟨hjj, step bz k4, m4, v4⟩ (by show S.params.length - (j + 1) < S.params.length - j; omega)
      · refine K.kgo ?_
        refine WL.idx i (o + i * 1) rfl rfl rfl rfl rfl rfl rfl rfl hik rfl ?_; refine K.kgl ?_; refine WL.idx k (o2 + k * 2) rfl rfl rfl rfl rfl rfl rfl rfl hkk rfl ?_; refine K.kgl ?_; exact WQ.again (k + 1, B3) ⟨rfl, rfl, rfl, rfl, rfl, trivial⟩ ⟨hkk, bz, n3, vn⟩ (by show L.length - (k + 1) < L.length - k; omega)
    · refine K.kgo ?_
      refine WL.idx i (o + i * 1) rfl rfl rfl rfl rfl rfl rfl rfl hik rfl ?_; refine K.kgl ?_; exact WQ.again (i + 1, B2) ⟨rfl, rfl, rfl, rfl, trivial⟩ ⟨hik, bz, n2, vn⟩ (by show JJ.length - (i + 1) < JJ.length - i; omega)
  · refine K.kgo ?_
    refine WL.load rfl rfl rfl rfl rfl rfl (vn.cell 0 (by simp)) ?_
    by_cases q1 : 500 < n
    · refine K.kgo ?_
      exact WQ.ret1 rfl rfl ⟨⟨_, rfl⟩, bz⟩
    · by_cases q2 : 8000 < B
      · refine K.kgo ?_
        exact WQ.ret1 rfl rfl ⟨⟨_, rfl⟩, bz⟩
      · refine K.kgo ?_
        exact WQ.ret1 rfl rfl ⟨⟨_, rfl⟩, bz⟩
end Cl
end Go.Proofs.YtpfkcfaifleliaaGreat

namespace Go.Proofs.YtpfkcfaifleliaaGreat
open Go.RowKit
namespace Cl
open K
set_option maxRecDepth 100000
abbrev dgT : Nat := 76
def dgZ : List Value := .int .i64 0 :: z32.map (Value.int .u8)
variable {w : World}
theorem digZ_eql (W : World) : (binOp .eql 76 (.agg dgZ.toArray) (.agg dgZ.toArray)).run Tryz.prog W = .ok (.bool true) W := by kernel_rfl
theorem dig_guard (x y : Operand) (a b : Array Value) (W : World) : (eqGuard .eql 76 x y (.agg a) (.agg b)).run Tryz.prog W = .ok () W := by
  have h : Tryz.prog.eqGuardType Tryz.prog.depth 76 = false := by kernel_rfl
  simp [eqGuard, h]
section
variable {n : NN} {Q : Exit → Act → World → Prop} {l : Env} {ops : Array Oper} {o : Oper} {rest : List Oper} {d : Nat}
theorem WL.eqlDZ {x y : Operand} {t2 : Nat} (hg : o.guard = none) (hd : o.dst = some d) (hn : Nat.blt d n.n = true) (ho : o.op = .binOp .eql 76 x y t2) (hx : evl l x = some (.agg dgZ.toArray)) (hy : evl l y = some (.agg dgZ.toArray))
    (h : WL n ops Q rest ((d, .bool true) :: l) w) : WL n ops Q (o :: rest) l w :=
  WL.step hg hd hn (fun c hc => by
    unfold execOp; rw [ho]; simp only [hc.eval hx, hc.eval hy, Sem.run_bind, dig_guard, Result.andThen_ok, digZ_eql w]
    rfl) h
end
theorem doNil {v : Value} : Calls Tryz.prog 10 #[.pointer none, v] w fun e w' => e = .returned (.tuple #[.int .i64 0, .int .i64 1]) ∧ w = w' := by
  refine enter (args := [.pointer none, v]) Tryz.func10 rfl Tryz.ntmps10 rfl ?_; refine K.kgo ?_; refine WL.nilP rfl rfl rfl rfl rfl rfl (by kernel_rfl) ?_; refine K.kgo ?_; exact WQ.ret2 rfl rfl rfl ⟨rfl, rfl⟩
theorem hearNil {cs : List Value} : Calls Tryz.prog 14 #[.pointer none, .agg cs.toArray] w fun e w' => e = .returned (.tuple #[nos, nos]) ∧ Below w.heap.size w w' := by
  refine enter (args := [.pointer none, .agg cs.toArray]) Tryz.func14 rfl Tryz.ntmps14 rfl ?_; refine K.kgn ?_; refine WL.box rfl rfl rfl rfl rfl fun g1 w1 f1 => ?_; have b1 := f1.below; clear f1; refine K.kgo ?_; refine WC.drawn 29 (fun wx => Below w.heap.size w wx) fun wa hd => ?_; have hS : Below w.heap.size w wa := b1.trans ((hd.below _)); clear hd; refine K.fr [0] hS ?_; refine K.wo 1 ?_; refine WL.nilP rfl rfl rfl rfl rfl rfl (by kernel_rfl) ?_; refine K.di hS ?_; refine K.fr [2, 3, 4, 5, 6, 7, 8, 9, 10, 11, 12, 13, 14, 15, 16, 17, 18, 19, 20, 21, 22, 23, 24, 25, 26, 27, 28] hS ?_; refine K.wo 29 ?_; refine WL.pure rfl rfl rfl rfl ?_; refine K.dl ?_; refine WD.done (by kernel_rfl) ?_; refine K.kgo ?_; exact WQ.ret2 rfl rfl rfl ⟨rfl, hS⟩
theorem tickNil : Calls Tryz.prog 15 #[.pointer none] w fun e w' => e = .returned (.tuple #[nos, nos]) ∧ w = w' := by
  refine enter (args := [.pointer none]) Tryz.func15 rfl Tryz.ntmps15 rfl ?_; refine K.kgo ?_; refine WL.nilP rfl rfl rfl rfl rfl rfl (by kernel_rfl) ?_; refine K.kgo ?_; exact WQ.ret2 rfl rfl rfl ⟨rfl, rfl⟩
theorem leftNil : Calls Tryz.prog 16 #[.pointer none] w fun e w' => e = .returned (.int .i64 0) ∧ w = w' := by
  refine enter (args := [.pointer none]) Tryz.func16 rfl Tryz.ntmps16 rfl ?_; refine K.kgo ?_; refine WL.nilP rfl rfl rfl rfl rfl rfl (by kernel_rfl) ?_; refine K.kgo ?_; exact WQ.ret1 rfl rfl ⟨rfl, rfl⟩
theorem trustNil : Calls Tryz.prog 19 #[.pointer none] w fun e w' => e = .returned (.agg dgZ.toArray) ∧ Below w.heap.size w w' := by
  refine enter (args := [.pointer none]) Tryz.func19 rfl Tryz.ntmps19 rfl ?_; refine K.kgo ?_; refine WL.alloc (z := .agg dgZ.toArray) rfl rfl rfl rfl (fun _ => by kernel_rfl) fun g w1 f1 => ?_; have v1 : VBlk dgT w1 g dgZ := f1.blk; refine K.kgo ?_; refine WL.nilP rfl rfl rfl rfl rfl rfl (by kernel_rfl) ?_; refine K.kgo ?_; refine WL.build dgZ rfl rfl rfl rfl rfl (by kernel_rfl) ?_; refine WL.storeRow rfl rfl rfl rfl rfl rfl v1 rfl rfl (fun u hu => by
    rcases List.mem_cons.1 hu with rfl | hu
    · rfl
    · obtain ⟨x, -, rfl⟩ := List.mem_map.1 hu
      rfl) ?_
  have v2 := v1.setRow dgZ; have e1 := f1.eq; have b2 : Below w.heap.size w (w1.setRow g dgZ.toArray) := below_setRow f1.below (by omega) _; refine K.kgo ?_; exact WQ.retC rfl rfl rfl rfl v2 ⟨rfl, b2⟩
set_option maxHeartbeats 4000000 in
theorem nothing_law {a b : Int} {sp : Option Addr} {len cap : Nat} {E : Nat → Prop} {f : Nat} {v : Value} {L : List Stm} (hv : IsSts E f w v L) :
    Calls Tryz.prog 5 #[.agg #[.int .i64 a, .int .i64 b, .slice sp len cap], v] w fun e w' => e = .returned (.bool true) ∧ Below w.heap.size w w' := by
  obtain ⟨sp2, cap2, rfl, -⟩ := id hv; refine enter (args := [.agg #[.int .i64 a, .int .i64 b, .slice sp len cap], .slice sp2 L.length cap2]) Tryz.func5 rfl Tryz.ntmps5 rfl ?_; refine K.kgn ?_; refine WL.box rfl rfl rfl rfl rfl fun g w1 f1 => ?_; have v1 : VBlk 57 w1 g [.int .i64 a, .int .i64 b, .slice sp len cap] := f1.blk; have b1 := f1.below; clear f1; have c1 : w1.cell? ⟨g, 2, none⟩ = some (.slice sp len cap) := v1.cell 2 (by simp)
  by_cases h1000 : (1000 : Int) < len
  · refine K.kgl ?_
    exact WQ.ret1 rfl rfl ⟨rfl, b1⟩
  · refine K.kgl ?_
    refine WL.lit1 (cs := [.slice sp2 L.length cap2]) rfl rfl rfl rfl rfl rfl rfl rfl ⟨by omega, by omega⟩ (by kernel_rfl) fun g2 w2 f2 => ?_; have b2 := b1.trans (f2.below.mono b1.size); have v2 := VBlk.below v1 f2.below (VBlk.lt v1); have hJ : IsJobs (fun _ => True) f w2 (.slice (some ⟨g2, 0, none⟩) 1 1) [L] := ⟨some ⟨g2, 0, none⟩, 1, rfl, Nat.le_refl _, by omega, (fun h => by cases h), fun _ => ⟨g2, 0, rfl, VBlk.lt f2.blk, trivial, fun j hj => ⟨[.slice sp2 L.length cap2], rfl, ⟨_, rfl, by
      obtain rfl : j = 0 := by simp at hj; omega
      exact IsSts.keep hv (Keep.of_below b2) (fun _ _ h => h) fun _ _ => trivial⟩, by
      obtain rfl : j = 0 := by simp at hj; omega
      exact VBlk.rangeAt f2.blk⟩⟩⟩
    clear f2 v1 c1; refine K.kgo ?_; refine WL.call rfl rfl rfl rfl rfl Tryz.func7 rfl (by kernel_rfl) (heavyJobs_weak hJ) ?_; rintro _ w3 ⟨⟨bb, rfl⟩, b3⟩; refine ⟨_, rfl, ?_⟩; have b03 := b2.trans (b3.mono b2.size); have v3 := VBlk.below v2 b3 (VBlk.lt v2); clear hJ b1 b2 b3 v2; cases bb with
    | true =>
      refine K.kgo ?_; exact WQ.ret1 rfl rfl ⟨rfl, b03⟩
    | false =>
      refine K.kgo ?_; refine WL.call rfl rfl rfl rfl rfl Tryz.func10 rfl (by kernel_rfl) doNil ?_; rintro _ _ ⟨rfl, rfl⟩; refine ⟨_, rfl, ?_⟩; refine K.kgo ?_; refine WL.loadMid rfl rfl rfl rfl rfl rfl (VBlk.rangeAt v3) rfl ?_; refine WL.call rfl rfl rfl rfl rfl Tryz.func14 rfl (by kernel_rfl) hearNil ?_; rintro _ w4 ⟨rfl, b4⟩; refine ⟨_, rfl, ?_⟩; have b04 := b03.trans (b4.mono b03.size); refine K.kgo ?_; refine WL.call rfl rfl rfl rfl rfl Tryz.func15 rfl (by kernel_rfl) tickNil ?_; rintro _ _ ⟨rfl, rfl⟩; refine ⟨_, rfl, ?_⟩; refine K.kgo ?_; refine WL.call rfl rfl rfl rfl rfl Tryz.func16 rfl (by kernel_rfl) leftNil ?_; rintro _ _ ⟨rfl, rfl⟩; refine ⟨_, rfl, ?_⟩; refine K.kgo ?_; refine WL.call rfl rfl rfl rfl rfl Tryz.func19 rfl (by kernel_rfl) trustNil ?_; rintro _ w5 ⟨rfl, b5⟩; refine ⟨_, rfl, ?_⟩; have b05 := b04.trans (b5.mono b04.size); refine K.kgo ?_; refine WL.build dgZ rfl rfl rfl rfl rfl (by kernel_rfl) ?_; refine K.kgo ?_; refine WL.eqlDZ rfl rfl rfl rfl rfl rfl ?_; refine K.kgo ?_; refine WL.call rfl rfl rfl rfl rfl Tryz.func8 rfl (by kernel_rfl) known_any ?_; rintro _ w6 ⟨rfl, b6⟩; refine ⟨_, rfl, ?_⟩; refine K.kgo ?_; exact WQ.ret1 rfl rfl ⟨rfl, b05.trans (b6.mono b05.size)⟩
end Cl
end Go.Proofs.YtpfkcfaifleliaaGreat

namespace Go.Proofs.YtpfkcfaifleliaaGreat.clientOfNothing
open Go.ChangeShapes Go.WideShapes Go.ChangeAt Go.RowKit
open Go.ChangeMaps (open_string shut_string)
open Go.Proofs.YtpfkcfaifleliaaGreat

set_option maxRecDepth 100000 in
theorem lifted (os : Os) (started : os.Started) (H : Type) (enc : TypeId × Value → H) :
    ReturnsInHanded {} Tryz.checked os 5 .any (Rows.clientOfNothingSpec.pre6 enc Tryz.prog Tryz.f5 Rows.clientOfNothingRow.domain false) (Rows.clientOfNothingSpec.post enc Tryz.prog Tryz.f5 false true false false) := by
  refine returnsInHanded_of_change_sized (C := Tryz.checked) Tryz.ownKnob started (by kernel_rfl) Tryz.func5
    (ChangeSpec.witness6 (enc := enc) (C := Tryz.checked) false ⟨#[], #[.agg #[.int .i64 0, .int .i64 0, .slice none 0 0], .slice none 0 0], []⟩ 8 (by kernel_rfl) (by kernel_rfl) (by kernel_rfl) (by kernel_rfl)) ?_
  intro W base args ds gs before hval0 hW hcnd hsz _; have hval : ∀ (j : Nat) t v, Tryz.f5.params[j]? = some t → args[j]? = some v → Value.okWide Tryz.prog W .any base t v := hval0; have hW' := hW; obtain ⟨p, q, hA0, hV, rfl, hfz, hnd⟩ := hW; have hA : DataW.TrodAll enc Tryz.prog W 0 (fun _ => true) true Tryz.f5.params.toList args.toList ds p := hA0; rw [Tryz.params5] at hA hval; obtain ⟨v0, vs0, d0, ds0, p0, q0, hargs, rfl, rfl, h0, r0⟩ := trodAll_cons hA; obtain ⟨v1, vs1, d1, ds1, p1, q1, rfl, rfl, rfl, h1, r1⟩ := trodAll_cons r0; obtain ⟨rfl, rfl, rfl⟩ := trodAll_nil r1; obtain rfl : args = #[v0, v1] := by cases args; simp_all
  obtain ⟨rfl, rfl⟩ := trodVars_none hV; have k0 := h0; have lt0 : ∀ x ∈ p0, x.block < W.heap.size := by obtain ⟨m, hm⟩ := k0; exact DataW.trod_lt m _ _ _ hm
  obtain ⟨ma0, mb0, ms0, ml0, mc0, rfl, -, -⟩ := Cl.open_msg (hval 0 57 v0 rfl rfl) h0; have k1 := h1; have lt1 : ∀ x ∈ p1, x.block < W.heap.size := by obtain ⟨m, hm⟩ := k1; exact DataW.trod_lt m _ _ _ hm
  obtain ⟨f1, l1, is1, ln1⟩ := Cl.open_job (hval 1 39 v1 rfl rfl) h1 (fun n hn => by have := List.all_eq_true.1 hsz n (DataW.weights_mem_each (j := 1) rfl rfl n hn); simpa using this); clear hA0 hval0; refine (Cl.nothing_law is1).mono fun e W' ⟨he, bel⟩ => ?_; subst he; exact ⟨_, rfl, _, _, _, [], _, [], hW', trodAll_mk1 (shut_bool Tryz.underlying4 _), (trodAll_cons_mk (Below.trod Tryz.laid (by kernel_rfl) (of_decide_eq_true (by kernel_rfl)) k0 bel lt0) (trodAll_cons_mk (Below.trod Tryz.laid (by kernel_rfl) (of_decide_eq_true (by kernel_rfl)) k1 bel lt1) trodAll_mk0)), rfl, bel.frame _, fun h => by cases h⟩

theorem over : Rows.clientOfNothingRow.holds Tryz.pinned (OpenSpec.ofChange Rows.clientOfNothingSpec) :=
  OpenClaim.holds_of_wide 5 Tryz.f5 rfl rfl rfl rfl rfl rfl rfl ⟨rfl, rfl, rfl, rfl, rfl⟩ rfl rfl rfl rfl rfl (by kernel_rfl) Tryz.func5 (by kernel_rfl)
    (of_decide_eq_true (by kernel_rfl)) (by unfold Func.isWrapper; first | (rw [if_pos (by decide +kernel)]; kernel_rfl) | (rw [if_neg (by decide +kernel)]; exact ⟨rfl, rfl⟩))
    (fun os started H enc _ => lifted os started H enc)

theorem proved : Rows.ClientOfNothingSaid := over
end Go.Proofs.YtpfkcfaifleliaaGreat.clientOfNothing
