/- Texts for LawTreNo, part 4 of 6. -/
import Derived.Test.YtilmfnlaenneeaaZLawTreNo3
/- Trees (chapter 13): Put. -/
namespace Go.Proofs.Ytilmfnlaenneeaa
open Go.RowKit
namespace K
open Tre
theorem bks_spl (d : Nat) (s : Tr d) (g : Nat) : (bks d (spl d s g).1).length + (bks d (spl d s g).2).length = (bks d s).length + 1 := by
  have := (spl_bks d s g).length_eq
  simp only [List.length_append, List.length_cons] at this
  exact this
theorem bks_plug_len {D d : Nat} (c : Ctx D d) (t : Tr d) : (bks D (plug c t)).length = (cb c).length + (bks d t).length := by
  rw [(bks_plug c t).length_eq, List.length_append]
/-- How far Put has come. -/
structure PX where
  D : Nat
  d : Nat
  c : Ctx D d
  t : Tr d
structure TX where
  D : Nat
  T : Tr D
structure KX (d : Nat) where
  l : List (Tr d)
  s : Tr d
  r : List (Tr d)
structure PW (w : World) (st : St) (tb : Nat) (k : Ky) (l : List KV) (w' : World) (st' : St) {D d : Nat} (c : Ctx D d) (t : Tr d) : Prop where
  ps : PS w st tb w' st'
  put : PutI st' k c t l
  hdr : VBlk treeT w' tb (trC (some (blk D (plug c t))) l.length (bks D (plug c t)).length)
theorem PW.few {w : World} {st : St} {tb : Nat} {k : Ky} {l : List KV} {w' : World} {st' : St} {D d : Nat} {c : Ctx D d} {t : Tr d} (h : PW w st tb k l w' st' c t) : (bks D (plug c t)).length ≤ l.length + 1 := by
  have := (Tre.few h.put.mn h.put.root).1
  rwa [h.put.el] at this
theorem built_zero : Try.prog.built nodeT [] = some (rowOf (ndF ⟨false, [], none⟩ none)).toArray := by kernel_rfl
theorem cntR {w : World} {b : Nat} {nd : Nd} {pv : Option Nat} (h : VBlk nodeT w b (rowOf (ndF nd pv))) {n : Nat} (hn : nd.es.length = n) : w.cell? ⟨b, 1, none⟩ = some (.int .i64 n) := by rw [cellR h (by omega), ndF_cnt, hn]
theorem keyR {w : World} {b : Nat} {nd : Nd} {pv : Option Nat} (h : VBlk nodeT w b (rowOf (ndF nd pv))) {i : Nat} (hi : i < 8) : w.cell? ⟨b, 2 + i, none⟩ = some (.string (nd.es.getD i noE).key) := by rw [cellR h (by omega), ndF_key _ _ hi]
theorem numR {w : World} {b : Nat} {nd : Nd} {pv : Option Nat} (h : VBlk nodeT w b (rowOf (ndF nd pv))) {i : Nat} (hi : i < 8) : w.cell? ⟨b, 10 + i, none⟩ = some (.int .i64 (nd.es.getD i noE).num) := by rw [cellR h (by omega), ndF_num _ _ hi]
theorem kidR {w : World} {b : Nat} {nd : Nd} {pv : Option Nat} (h : VBlk nodeT w b (rowOf (ndF nd pv))) {i q : Nat} (hi : i < 8) (hq : (nd.es.getD i noE).kid = some q) : w.cell? ⟨b, 18 + i, none⟩ = some (.pointer (some ⟨q, 0, none⟩)) := by rw [cellR h (by omega), ndF_kid _ _ hi, hq]; rfl
theorem hdrR {w : World} {tb q size n : Nat} (h : VBlk treeT w tb (trC (some q) size n)) : w.cell? ⟨tb, 0, none⟩ = some (.pointer (some ⟨q, 0, none⟩)) ∧ w.cell? ⟨tb, 1, none⟩ = some (.int .i64 size) ∧ w.cell? ⟨tb, 2, none⟩ = some (.int .i64 n) :=
  ⟨h.cell 0 (by simp [trC]), h.cell 1 (by simp [trC]), h.cell 2 (by simp [trC])⟩
set_option maxRecDepth 20000 in
set_option maxHeartbeats 8000000 in
theorem tput_any {w : World} {st : St} {tb : Nat} {l : List KV} (h : IsT w st tb l) (k : Ky) (n : Int) (hl : l.length < 1000000000) :
    Calls Try.prog 11 #[.pointer (some ⟨tb, 0, none⟩), .string k, .int .i64 n] w fun e w' => ∃ st', e = .returned (.tuple #[.int .i64 ((getL k l).getD 0), .bool (getL k l).isSome]) ∧ IsT w' st' tb (insL k n l) ∧ Keep (Out st tb w) w w' ∧ New st w st' := by
  refine enter (args := [.pointer (some ⟨tb, 0, none⟩), .string k, .int .i64 n]) Try.func11 rfl Try.ntmps11 rfl ?_
  obtain ⟨hm, htb, root, nn, ht, hok⟩ := h
  have hsl := hok.srt
  have h0 : w.cell? ⟨tb, 0, none⟩ = some (ptrV root) := ht.cell 0 (by simp [trC])
  repeat (first | ((with_reducible refine WL.topT ?_ ?_); omega) | ((with_reducible refine WL.topF ?_ ?_); omega) | ((with_reducible refine WL.top64 ?_ ?_); omega) | refine WC.seq ?_ | refine WC.block ?_ | refine WC.region ?_ | refine WL.nil ?_ | refine WC.skip ?_ | refine WC.exit ?_ | refine WC.ret ?_ | refine WQ.then rfl ?_ | refine WQ.thenExit ?_ | refine WQ.thenRet ?_ | refine WQ.blk ?_ | refine WQ.blkRet ?_ | refine WQ.blkHere rfl ?_ | refine WQ.blkOther rfl ?_ | refine WL.pure rfl rfl rfl rfl ?_ | refine WL.on rfl rfl ?_ | refine WL.off rfl rfl rfl ?_ | refine WC.condTrue rfl ?_ | refine WC.condFalse rfl ?_)
  refine WL.nilP rfl rfl rfl rfl rfl rfl (by kernel_rfl) ?_
  repeat (first | ((with_reducible refine WL.topT ?_ ?_); omega) | ((with_reducible refine WL.topF ?_ ?_); omega) | ((with_reducible refine WL.top64 ?_ ?_); omega) | refine WC.seq ?_ | refine WC.block ?_ | refine WC.region ?_ | refine WL.nil ?_ | refine WC.skip ?_ | refine WC.exit ?_ | refine WC.ret ?_ | refine WQ.then rfl ?_ | refine WQ.thenExit ?_ | refine WQ.thenRet ?_ | refine WQ.blk ?_ | refine WQ.blkRet ?_ | refine WQ.blkHere rfl ?_ | refine WQ.blkOther rfl ?_ | refine WL.pure rfl rfl rfl rfl ?_ | refine WL.on rfl rfl ?_ | refine WL.off rfl rfl rfl ?_ | refine WL.load rfl rfl rfl rfl rfl rfl (by assumption) ?_ | refine WC.condTrue rfl ?_ | refine WC.condFalse rfl ?_)
  refine WL.as 20 (.pointer (root.map fun b => ⟨b, 0, none⟩)) rfl (by cases root <;> rfl) ?_
  refine WL.nilP rfl rfl rfl rfl rfl rfl (by kernel_rfl) ?_
  refine WL.nil ?_
  refine WQ.then rfl ?_
  -- there is a root
  refine WC.mid (fun x : TX => [(0, .pointer (some ⟨tb, 0, none⟩)), (1, .string k), (2, .int .i64 n)]) (fun x w' => ∃ st', PS w st tb w' st' ∧ Tre.Good st' x.D x.T l ∧ VBlk treeT w' tb (trC (some (blk x.D x.T)) l.length (bks x.D x.T).length)) rfl ?_ ?_
  · have hps := PS.start hm htb
    rcases hok with ⟨rfl, rfl, rfl⟩ | ⟨D, T, rfl, hg, rfl, hc1⟩
    · repeat (first | ((with_reducible refine WL.topT ?_ ?_); omega) | ((with_reducible refine WL.topF ?_ ?_); omega) | ((with_reducible refine WL.top64 ?_ ?_); omega) | refine WC.seq ?_ | refine WC.block ?_ | refine WC.region ?_ | refine WL.nil ?_ | refine WC.skip ?_ | refine WC.exit ?_ | refine WC.ret ?_ | refine WQ.then rfl ?_ | refine WQ.thenExit ?_ | refine WQ.thenRet ?_ | refine WQ.blk ?_ | refine WQ.blkRet ?_ | refine WQ.blkHere rfl ?_ | refine WQ.blkOther rfl ?_ | refine WL.pure rfl rfl rfl rfl ?_ | refine WL.on rfl rfl ?_ | refine WL.off rfl rfl rfl ?_ | refine WC.condTrue rfl ?_ | refine WC.condFalse rfl ?_)
      refine WL.build (rowOf (ndF ⟨true, [], none⟩ none)) rfl rfl rfl rfl rfl (built_node true) ?_
      refine WL.box rfl rfl rfl rfl rfl fun g w1 hf0 => ?_
      have hf : Fresh w g w1 nodeT (rowOf (ndF ⟨true, [], none⟩ none)) := hf0
      clear hf0
      obtain ⟨hps1, -⟩ := hps.fresh ht.lt hf (by simp)
      have ht1 := ht.below hf.below ht.lt
      clear hf
      repeat (first | ((with_reducible refine WL.topT ?_ ?_); omega) | ((with_reducible refine WL.topF ?_ ?_); omega) | ((with_reducible refine WL.top64 ?_ ?_); omega) | refine WC.seq ?_ | refine WC.block ?_ | refine WC.region ?_ | refine WL.nil ?_ | refine WC.skip ?_ | refine WC.exit ?_ | refine WC.ret ?_ | refine WQ.then rfl ?_ | refine WQ.thenExit ?_ | refine WQ.thenRet ?_ | refine WQ.blk ?_ | refine WQ.blkRet ?_ | refine WQ.blkHere rfl ?_ | refine WQ.blkOther rfl ?_ | refine WL.pure rfl rfl rfl rfl ?_ | refine WL.on rfl rfl ?_ | refine WL.off rfl rfl rfl ?_ | refine WC.condTrue rfl ?_ | refine WC.condFalse rfl ?_)
      refine WL.store rfl rfl rfl rfl rfl rfl (by kernel_rfl) (ht1.cell 0 (by simp [trC])) (ht1.free 0) ?_
      have ht2 : VBlk treeT (w1.setCell ⟨tb, 0, none⟩ (.pointer (some ⟨g, 0, none⟩))) tb (trC (some g) 0 0) := ht1.set 0 _
      have hps2 := hps1.hdr 0 (.pointer (some ⟨g, 0, none⟩))
      generalize w1.setCell ⟨tb, 0, none⟩ (.pointer (some ⟨g, 0, none⟩)) = w2 at ht2 hps2 ⊢
      obtain ⟨-, -, h22⟩ := hdrR ht2
      repeat (first | ((with_reducible refine WL.topT ?_ ?_); omega) | ((with_reducible refine WL.topF ?_ ?_); omega) | ((with_reducible refine WL.top64 ?_ ?_); omega) | refine WC.seq ?_ | refine WC.block ?_ | refine WC.region ?_ | refine WL.nil ?_ | refine WC.skip ?_ | refine WC.exit ?_ | refine WC.ret ?_ | refine WQ.then rfl ?_ | refine WQ.thenExit ?_ | refine WQ.thenRet ?_ | refine WQ.blk ?_ | refine WQ.blkRet ?_ | refine WQ.blkHere rfl ?_ | refine WQ.blkOther rfl ?_ | refine WL.pure rfl rfl rfl rfl ?_ | refine WL.on rfl rfl ?_ | refine WL.off rfl rfl rfl ?_ | refine WL.load rfl rfl rfl rfl rfl rfl (by assumption) ?_ | refine WC.condTrue rfl ?_ | refine WC.condFalse rfl ?_)
      refine WL.store rfl rfl rfl rfl rfl rfl (by kernel_rfl) h22 (ht2.free 2) ?_
      have ht3 : VBlk treeT (w2.setCell ⟨tb, 2, none⟩ (.int .i64 ((0 : Nat) + 1))) tb (trC (some g) 0 1) := ht2.set 2 _
      have hps3 := hps2.hdr 2 (.int .i64 ((0 : Nat) + 1))
      generalize w2.setCell ⟨tb, 2, none⟩ (.int .i64 ((0 : Nat) + 1)) = w3 at ht3 hps3 ⊢
      repeat (first | ((with_reducible refine WL.topT ?_ ?_); omega) | ((with_reducible refine WL.topF ?_ ?_); omega) | ((with_reducible refine WL.top64 ?_ ?_); omega) | refine WC.seq ?_ | refine WC.block ?_ | refine WC.region ?_ | refine WL.nil ?_ | refine WC.skip ?_ | refine WC.exit ?_ | refine WC.ret ?_ | refine WQ.then rfl ?_ | refine WQ.thenExit ?_ | refine WQ.thenRet ?_ | refine WQ.blk ?_ | refine WQ.blkRet ?_ | refine WQ.blkHere rfl ?_ | refine WQ.blkOther rfl ?_ | refine WL.pure rfl rfl rfl rfl ?_ | refine WL.on rfl rfl ?_ | refine WL.off rfl rfl rfl ?_ | refine WC.condTrue rfl ?_ | refine WC.condFalse rfl ?_)
      exact WQ.meet ⟨0, mk0 g []⟩ ⟨rfl, rfl, rfl, trivial⟩ ⟨_, hps3, ⟨trivial, ⟨upd_eq _ _ _, trivial⟩, by simp [bks], rfl, List.Pairwise.nil, Nat.zero_le _, .inl rfl⟩, ht3⟩
    · repeat (first | ((with_reducible refine WL.topT ?_ ?_); omega) | ((with_reducible refine WL.topF ?_ ?_); omega) | ((with_reducible refine WL.top64 ?_ ?_); omega) | refine WC.seq ?_ | refine WC.block ?_ | refine WC.region ?_ | refine WL.nil ?_ | refine WC.skip ?_ | refine WC.exit ?_ | refine WC.ret ?_ | refine WQ.then rfl ?_ | refine WQ.thenExit ?_ | refine WQ.thenRet ?_ | refine WQ.blk ?_ | refine WQ.blkRet ?_ | refine WQ.blkHere rfl ?_ | refine WQ.blkOther rfl ?_ | refine WL.pure rfl rfl rfl rfl ?_ | refine WL.on rfl rfl ?_ | refine WL.off rfl rfl rfl ?_ | refine WC.condTrue rfl ?_ | refine WC.condFalse rfl ?_)
      exact WQ.meet ⟨D, T⟩ ⟨rfl, rfl, rfl, trivial⟩ ⟨st, hps, hg, ht⟩
  clear h0 ht hok hm
  rintro ⟨D, T⟩ w1 ⟨st1, hps, hg, hh⟩
  simp only at hg hh
  obtain ⟨h10, h11, h12⟩ := hdrR hh
  obtain ⟨nxr, hr1, hr2, hr3⟩ := hg.rootAt
  obtain ⟨hl8, pvr, vr⟩ := hps.mem _ _ hr1
  obtain ⟨C, hC⟩ : ∃ C, cnt D T = C := ⟨_, rfl⟩
  have hcl : (ents D T).length = C := by rw [ents_len, hC]
  have hcr := cntR vr hcl
  have hC8 : C ≤ 8 := by rw [← hC]; exact hg.mn.le
  have hfew := (Tre.few hg.mn hg.root).1
  rw [hg.el] at hfew
  have hbt : blk D T ≠ tb := fun e => by rw [e, hps.no] at hr1; cases hr1
  repeat (first | ((with_reducible refine WL.topT ?_ ?_); omega) | ((with_reducible refine WL.topF ?_ ?_); omega) | ((with_reducible refine WL.top64 ?_ ?_); omega) | refine WC.seq ?_ | refine WC.block ?_ | refine WC.region ?_ | refine WL.nil ?_ | refine WC.skip ?_ | refine WC.exit ?_ | refine WC.ret ?_ | refine WQ.then rfl ?_ | refine WQ.thenExit ?_ | refine WQ.thenRet ?_ | refine WQ.blk ?_ | refine WQ.blkRet ?_ | refine WQ.blkHere rfl ?_ | refine WQ.blkOther rfl ?_ | refine WL.pure rfl rfl rfl rfl ?_ | refine WL.on rfl rfl ?_ | refine WL.off rfl rfl rfl ?_ | refine WL.load rfl rfl rfl rfl rfl rfl (by assumption) ?_ | refine WC.condTrue rfl ?_ | refine WC.condFalse rfl ?_)
  -- the root has room
  refine WC.mid (fun x : TX => [(0, .pointer (some ⟨tb, 0, none⟩)), (1, .string k), (2, .int .i64 n)]) (fun x w' => ∃ st', PW w st tb k l w' st' (.top : Ctx x.D x.D) x.T ∧ cnt x.D x.T < 8) rfl ?_ ?_
  · by_cases h8 : C = 8
    · refine WC.condT rfl (by omega) ?_
      repeat (first | ((with_reducible refine WL.topT ?_ ?_); omega) | ((with_reducible refine WL.topF ?_ ?_); omega) | ((with_reducible refine WL.top64 ?_ ?_); omega) | refine WC.seq ?_ | refine WC.block ?_ | refine WC.region ?_ | refine WL.nil ?_ | refine WC.skip ?_ | refine WC.exit ?_ | refine WC.ret ?_ | refine WQ.then rfl ?_ | refine WQ.thenExit ?_ | refine WQ.thenRet ?_ | refine WQ.blk ?_ | refine WQ.blkRet ?_ | refine WQ.blkHere rfl ?_ | refine WQ.blkOther rfl ?_ | refine WL.pure rfl rfl rfl rfl ?_ | refine WL.on rfl rfl ?_ | refine WL.off rfl rfl rfl ?_ | refine WC.condTrue rfl ?_ | refine WC.condFalse rfl ?_)
      refine WL.build (rowOf (ndF ⟨false, [], none⟩ none)) rfl rfl rfl rfl rfl built_zero ?_
      refine WL.box rfl rfl rfl rfl rfl fun gx w2 hf0 => ?_
      have hf : Fresh w1 gx w2 nodeT (rowOf (ndF ⟨false, [], none⟩ none)) := hf0
      clear hf0
      obtain ⟨hps2, hgxn⟩ := hps.fresh hh.lt hf (by simp)
      have hh2 := hh.below hf.below hh.lt
      have vr2 := vr.below hf.below vr.lt
      have vx2 := hf.blk
      have hxb : blk D T ≠ gx := by have := vr.lt; have := hf.eq; omega
      have htx : tb ≠ gx := by have := hh.lt; have := hf.eq; omega
      clear hf h10 h11 h12 hcr vr
      have hk0 : ((ents D T).getD 0 noE).key = fk D T := ents_key0 hg.mn (by omega) _
      have hk0' := keyR vr2 (i := 0) (by omega)
      simp only [hk0] at hk0'
      have h20 := (hdrR hh2).1
      repeat (first | ((with_reducible refine WL.topT ?_ ?_); omega) | ((with_reducible refine WL.topF ?_ ?_); omega) | ((with_reducible refine WL.top64 ?_ ?_); omega) | refine WC.seq ?_ | refine WC.block ?_ | refine WC.region ?_ | refine WL.nil ?_ | refine WC.skip ?_ | refine WC.exit ?_ | refine WC.ret ?_ | refine WQ.then rfl ?_ | refine WQ.thenExit ?_ | refine WQ.thenRet ?_ | refine WQ.blk ?_ | refine WQ.blkRet ?_ | refine WQ.blkHere rfl ?_ | refine WQ.blkOther rfl ?_ | refine WL.pure rfl rfl rfl rfl ?_ | refine WL.on rfl rfl ?_ | refine WL.off rfl rfl rfl ?_ | refine WC.condTrue rfl ?_ | refine WC.condFalse rfl ?_)
      refine WC.drawn 13 (fun wx => wx.heap = w2.heap) fun w3 hd => ?_
      have hS : w3.heap = w2.heap := hd.heap
      have hps3 := hps2.step (hps2.mem.below (hd.below _)) hps2.no (Keep.ofDrew hd _) fun x hx => .inl hx
      have hh3 := hh2.below (hd.below _) hh2.lt
      have vx3 := vx2.below (hd.below _) vx2.lt
      clear hd
      (((first | refine WD.free 0 rfl (by kernel_rfl) rfl rfl (fun _ _ _ _ _ h => h) rfl rfl (.inr hS) ?_ | refine WD.skip 0 rfl (by kernel_rfl) rfl rfl (fun _ _ _ _ _ h => h) rfl (.inr hS) ?_); try (first | ((with_reducible refine WD.topT ?_ ?_); omega) | ((with_reducible refine WD.topF ?_ ?_); omega) | ((with_reducible refine WD.top64 ?_ ?_); omega))); ((first | refine WD.free 1 rfl (by kernel_rfl) rfl rfl (fun _ _ _ _ _ h => h) rfl rfl (.inr hS) ?_ | refine WD.skip 1 rfl (by kernel_rfl) rfl rfl (fun _ _ _ _ _ h => h) rfl (.inr hS) ?_); try (first | ((with_reducible refine WD.topT ?_ ?_); omega) | ((with_reducible refine WD.topF ?_ ?_); omega) | ((with_reducible refine WD.top64 ?_ ?_); omega))); ((first | refine WD.free 2 rfl (by kernel_rfl) rfl rfl (fun _ _ _ _ _ h => h) rfl rfl (.inr hS) ?_ | refine WD.skip 2 rfl (by kernel_rfl) rfl rfl (fun _ _ _ _ _ h => h) rfl (.inr hS) ?_); try (first | ((with_reducible refine WD.topT ?_ ?_); omega) | ((with_reducible refine WD.topF ?_ ?_); omega) | ((with_reducible refine WD.top64 ?_ ?_); omega))); ((first | refine WD.free 3 rfl (by kernel_rfl) rfl rfl (fun _ _ _ _ _ h => h) rfl rfl (.inr hS) ?_ | refine WD.skip 3 rfl (by kernel_rfl) rfl rfl (fun _ _ _ _ _ h => h) rfl (.inr hS) ?_); try (first | ((with_reducible refine WD.topT ?_ ?_); omega) | ((with_reducible refine WD.topF ?_ ?_); omega) | ((with_reducible refine WD.top64 ?_ ?_); omega))))
      refine WD.load 4 [5, 6, 7, 8, 13] rfl (by kernel_rfl) rfl rfl (fun _ _ _ _ _ h => h) rfl rfl rfl rfl (fun wx hx => (heap_cell hx _).trans h20) hS ?_
      (((first | refine WD.free 5 rfl (by kernel_rfl) rfl rfl (fun _ _ _ _ _ h => h) rfl rfl (.inr hS) ?_ | refine WD.skip 5 rfl (by kernel_rfl) rfl rfl (fun _ _ _ _ _ h => h) rfl (.inr hS) ?_); try (first | ((with_reducible refine WD.topT ?_ ?_); omega) | ((with_reducible refine WD.topF ?_ ?_); omega) | ((with_reducible refine WD.top64 ?_ ?_); omega))); ((first | refine WD.free 6 rfl (by kernel_rfl) rfl rfl (fun _ _ _ _ _ h => h) rfl rfl (.inr hS) ?_ | refine WD.skip 6 rfl (by kernel_rfl) rfl rfl (fun _ _ _ _ _ h => h) rfl (.inr hS) ?_); try (first | ((with_reducible refine WD.topT ?_ ?_); omega) | ((with_reducible refine WD.topF ?_ ?_); omega) | ((with_reducible refine WD.top64 ?_ ?_); omega))))
      refine WD.idxA 7 0 2 rfl (by kernel_rfl) rfl rfl (fun _ _ _ _ _ h => h) rfl rfl rfl rfl rfl rfl (by omega) (by omega) (.inr hS) ?_
      refine WD.load 8 [13] rfl (by kernel_rfl) rfl rfl (fun _ _ _ _ _ h => h) rfl rfl rfl rfl (fun wx hx => (heap_cell hx _).trans hk0') hS ?_
      (((first | refine WD.free 9 rfl (by kernel_rfl) rfl rfl (fun _ _ _ _ _ h => h) rfl rfl (.inr hS) ?_ | refine WD.skip 9 rfl (by kernel_rfl) rfl rfl (fun _ _ _ _ _ h => h) rfl (.inr hS) ?_); try (first | ((with_reducible refine WD.topT ?_ ?_); omega) | ((with_reducible refine WD.topF ?_ ?_); omega) | ((with_reducible refine WD.top64 ?_ ?_); omega))); ((first | refine WD.free 10 rfl (by kernel_rfl) rfl rfl (fun _ _ _ _ _ h => h) rfl rfl (.inr hS) ?_ | refine WD.skip 10 rfl (by kernel_rfl) rfl rfl (fun _ _ _ _ _ h => h) rfl (.inr hS) ?_); try (first | ((with_reducible refine WD.topT ?_ ?_); omega) | ((with_reducible refine WD.topF ?_ ?_); omega) | ((with_reducible refine WD.top64 ?_ ?_); omega))); ((first | refine WD.free 11 rfl (by kernel_rfl) rfl rfl (fun _ _ _ _ _ h => h) rfl rfl (.inr hS) ?_ | refine WD.skip 11 rfl (by kernel_rfl) rfl rfl (fun _ _ _ _ _ h => h) rfl (.inr hS) ?_); try (first | ((with_reducible refine WD.topT ?_ ?_); omega) | ((with_reducible refine WD.topF ?_ ?_); omega) | ((with_reducible refine WD.top64 ?_ ?_); omega))))
      refine WD.load 12 [13] rfl (by kernel_rfl) rfl rfl (fun _ _ _ _ _ h => h) rfl rfl rfl rfl (fun wx hx => (heap_cell hx _).trans h20) hS ?_
      refine WD.one 13 (by kernel_rfl) rfl ?_
      refine WL.call rfl rfl rfl rfl rfl Try.func24 rfl (by kernel_rfl) (nput_any (i := 0) (n := 0) (kid := some (blk D T)) vx3 (Nat.zero_le _) (by simp)) ?_
      rintro _ w4 ⟨rfl, hk4, vx4⟩
      refine ⟨_, rfl, ?_⟩
      have hps4 := hps3.node (b := gx) (by rw [upd_eq]; simp) hk4 (by simp [ins]) vx4
      have hh4 := hh3.keep hk4 htx
      rw [upd_upd] at hps4
      clear hk4 hps2 hps3 vx2 vx3 hh2 hh3 vr2 hS h20 hk0'
      refine WL.nil (WQ.dk (.inl rfl) ?_)
      refine WD.done (by kernel_rfl) ?_
      -- the root is cut in two
      obtain ⟨st4, hst4⟩ : ∃ st4, upd st1 gx ⟨false, ins [] 0 ⟨fk D T, 0, some (blk D T)⟩, none⟩ = st4 := ⟨_, rfl⟩
      have hps4' : PS w st tb w4 st4 := by rw [← hst4]; exact hps4
      have hbx : gx ∉ bks D T := fun hx => hg.dom gx hx hgxn
      have hg4 : Tre.Good st4 D T l := Good_congr hg fun x hx => by rw [← hst4]; exact upd_ne (fun e : x = gx => hbx (by rw [← e]; exact hx))
      have hr4 : st4 (blk D T) = some ⟨D == 0, ents D T, nxr⟩ := by rw [← hst4, upd_ne hxb]; exact hr1
      have h40 := (hdrR hh4).1
      repeat (first | ((with_reducible refine WL.topT ?_ ?_); omega) | ((with_reducible refine WL.topF ?_ ?_); omega) | ((with_reducible refine WL.top64 ?_ ?_); omega) | refine WC.seq ?_ | refine WC.block ?_ | refine WC.region ?_ | refine WL.nil ?_ | refine WC.skip ?_ | refine WC.exit ?_ | refine WC.ret ?_ | refine WQ.then rfl ?_ | refine WQ.thenExit ?_ | refine WQ.thenRet ?_ | refine WQ.blk ?_ | refine WQ.blkRet ?_ | refine WQ.blkHere rfl ?_ | refine WQ.blkOther rfl ?_ | refine WL.pure rfl rfl rfl rfl ?_ | refine WL.on rfl rfl ?_ | refine WL.off rfl rfl rfl ?_ | refine WL.load rfl rfl rfl rfl rfl rfl (by assumption) ?_ | refine WC.condTrue rfl ?_ | refine WC.condFalse rfl ?_)
      refine WL.call rfl rfl rfl rfl rfl Try.func25 rfl (by kernel_rfl) (split_any hps4'.mem hr4 (by show (ents D T).length = 8; omega) (fun q hq => by
        have := hr3 q hq
        rw [← hst4]
        unfold upd
        split
        · simp
        · exact this) (fun hlf => hr2 (fun e => by subst e; cases hlf)) hh4 hps4'.no (by omega)) ?_
      rintro _ w5 ⟨g, rfl, hgw, hm5, hh5, hk5⟩
      refine ⟨_, rfl, ?_⟩
      simp only at hm5
      have hgn : st4 g = none := by
        cases e : st4 g with
        | none => rfl
        | some nd2 => have := hps4'.mem.lt (b := g) (by rw [e]; simp); omega
      have hgb : g ≠ blk D T := fun e => by rw [e, hr4] at hgn; cases hgn
      have hgx : g ≠ gx := fun e => by rw [e, ← hst4, upd_eq] at hgn; cases hgn
      have hgt : g ≠ tb := by have := hh4.lt; omega
      have hspl := spl_of hr4 hgb
      obtain ⟨st5, hst5⟩ : ∃ st5, upd (upd st4 (blk D T) ⟨D == 0, (ents D T).take 4, if (D == 0) = true then some g else none⟩) g ⟨D == 0, (ents D T).drop 4, nxr⟩ = st5 := ⟨_, rfl⟩
      rw [hst5] at hm5 hspl
      have hps5 : PS w st tb w5 st5 := hps4'.step hm5 (by rw [← hst5, upd_ne hgt.symm, upd_ne hbt.symm]; exact hps4'.no) hk5 fun x hx => by
        rw [← hst5] at hx
        by_cases e : x = g
        · right; omega
        · rw [upd_ne e] at hx
          by_cases e2 : x = blk D T
          · left; rw [e2, hr4]; simp
          · rw [upd_ne e2] at hx; exact .inl hx
      have hx5 : st5 gx = some ⟨false, ins [] 0 ⟨fk D T, 0, some (blk D T)⟩, none⟩ := by rw [← hst5, upd_ne hgx.symm, upd_ne hxb.symm, ← hst4, upd_eq]
      have hg5 : st5 g = some ⟨D == 0, (ents D T).drop 4, nxr⟩ := by rw [← hst5, upd_eq]
      obtain ⟨-, pv5, vx5⟩ := hps5.mem _ _ hx5
      obtain ⟨-, pg5, vg5⟩ := hps5.mem _ _ hg5
      have hk5' := keyR vg5 (i := 0) (by omega)
      simp only [key2 (d := D) (g := g) (s := T) (by omega) hg.mn] at hk5'
      clear hk5 hm5 hps4 hps4' hh4 vx4 h40
      repeat (first | ((with_reducible refine WL.topT ?_ ?_); omega) | ((with_reducible refine WL.topF ?_ ?_); omega) | ((with_reducible refine WL.top64 ?_ ?_); omega) | refine WC.seq ?_ | refine WC.block ?_ | refine WC.region ?_ | refine WL.nil ?_ | refine WC.skip ?_ | refine WC.exit ?_ | refine WC.ret ?_ | refine WQ.then rfl ?_ | refine WQ.thenExit ?_ | refine WQ.thenRet ?_ | refine WQ.blk ?_ | refine WQ.blkRet ?_ | refine WQ.blkHere rfl ?_ | refine WQ.blkOther rfl ?_ | refine WL.pure rfl rfl rfl rfl ?_ | refine WL.on rfl rfl ?_ | refine WL.off rfl rfl rfl ?_ | refine WC.condTrue rfl ?_ | refine WC.condFalse rfl ?_)
      refine WL.idxA 0 2 rfl rfl rfl rfl rfl rfl rfl rfl (by omega) (by omega) ?_
      refine WL.load rfl rfl rfl rfl rfl rfl hk5' ?_
      repeat (first | ((with_reducible refine WL.topT ?_ ?_); omega) | ((with_reducible refine WL.topF ?_ ?_); omega) | ((with_reducible refine WL.top64 ?_ ?_); omega) | refine WC.seq ?_ | refine WC.block ?_ | refine WC.region ?_ | refine WL.nil ?_ | refine WC.skip ?_ | refine WC.exit ?_ | refine WC.ret ?_ | refine WQ.then rfl ?_ | refine WQ.thenExit ?_ | refine WQ.thenRet ?_ | refine WQ.blk ?_ | refine WQ.blkRet ?_ | refine WQ.blkHere rfl ?_ | refine WQ.blkOther rfl ?_ | refine WL.pure rfl rfl rfl rfl ?_ | refine WL.on rfl rfl ?_ | refine WL.off rfl rfl rfl ?_ | refine WC.condTrue rfl ?_ | refine WC.condFalse rfl ?_)
      refine WL.call rfl rfl rfl rfl rfl Try.func24 rfl (by kernel_rfl) (nput_any (i := 1) (n := 0) (kid := some g) vx5 (by simp [ins]) (by simp [ins])) ?_
      rintro _ w6 ⟨rfl, hk6, vx6⟩
      refine ⟨_, rfl, ?_⟩
      have hps6 := hps5.node (b := gx) (by rw [hx5]; simp) hk6 (by simp [ins]) vx6
      have hh6 := hh5.keep hk6 htx
      clear hk6 hps5 hh5 vx5 vg5
      repeat (first | ((with_reducible refine WL.topT ?_ ?_); omega) | ((with_reducible refine WL.topF ?_ ?_); omega) | ((with_reducible refine WL.top64 ?_ ?_); omega) | refine WC.seq ?_ | refine WC.block ?_ | refine WC.region ?_ | refine WL.nil ?_ | refine WC.skip ?_ | refine WC.exit ?_ | refine WC.ret ?_ | refine WQ.then rfl ?_ | refine WQ.thenExit ?_ | refine WQ.thenRet ?_ | refine WQ.blk ?_ | refine WQ.blkRet ?_ | refine WQ.blkHere rfl ?_ | refine WQ.blkOther rfl ?_ | refine WL.pure rfl rfl rfl rfl ?_ | refine WL.on rfl rfl ?_ | refine WL.off rfl rfl rfl ?_ | refine WC.condTrue rfl ?_ | refine WC.condFalse rfl ?_)
      refine WL.store rfl rfl rfl rfl rfl rfl (by kernel_rfl) (hh6.cell 0 (by simp [trC])) (hh6.free 0) ?_
      have hh7 : VBlk treeT (w6.setCell ⟨tb, 0, none⟩ (.pointer (some ⟨gx, 0, none⟩))) tb (trC (some gx) l.length ((bks D T).length + 1)) := hh6.set 0 _
      have hps7 := hps6.hdr 0 (.pointer (some ⟨gx, 0, none⟩))
      generalize w6.setCell ⟨tb, 0, none⟩ (.pointer (some ⟨gx, 0, none⟩)) = w7 at hh7 hps7 ⊢
      obtain ⟨-, -, h72⟩ := hdrR hh7
      repeat (first | ((with_reducible refine WL.topT ?_ ?_); omega) | ((with_reducible refine WL.topF ?_ ?_); omega) | ((with_reducible refine WL.top64 ?_ ?_); omega) | refine WC.seq ?_ | refine WC.block ?_ | refine WC.region ?_ | refine WL.nil ?_ | refine WC.skip ?_ | refine WC.exit ?_ | refine WC.ret ?_ | refine WQ.then rfl ?_ | refine WQ.thenExit ?_ | refine WQ.thenRet ?_ | refine WQ.blk ?_ | refine WQ.blkRet ?_ | refine WQ.blkHere rfl ?_ | refine WQ.blkOther rfl ?_ | refine WL.pure rfl rfl rfl rfl ?_ | refine WL.on rfl rfl ?_ | refine WL.off rfl rfl rfl ?_ | refine WL.load rfl rfl rfl rfl rfl rfl (by assumption) ?_ | refine WC.condTrue rfl ?_ | refine WC.condFalse rfl ?_)
      refine WL.store rfl rfl rfl rfl rfl rfl (by kernel_rfl) h72 (hh7.free 2) ?_
      have hh8 : VBlk treeT (w7.setCell ⟨tb, 2, none⟩ (.int .i64 (((bks D T).length + 1 : Nat) + 1))) tb (trC (some gx) l.length ((bks D T).length + 1 + 1)) := hh7.set 2 _
      have hps8 := hps7.hdr 2 (.int .i64 (((bks D T).length + 1 : Nat) + 1))
      generalize w7.setCell ⟨tb, 2, none⟩ (.int .i64 (((bks D T).length + 1 : Nat) + 1)) = w8 at hh8 hps8 ⊢
      repeat (first | ((with_reducible refine WL.topT ?_ ?_); omega) | ((with_reducible refine WL.topF ?_ ?_); omega) | ((with_reducible refine WL.top64 ?_ ?_); omega) | refine WC.seq ?_ | refine WC.block ?_ | refine WC.region ?_ | refine WL.nil ?_ | refine WC.skip ?_ | refine WC.exit ?_ | refine WC.ret ?_ | refine WQ.then rfl ?_ | refine WQ.thenExit ?_ | refine WQ.thenRet ?_ | refine WQ.blk ?_ | refine WQ.blkRet ?_ | refine WQ.blkHere rfl ?_ | refine WQ.blkOther rfl ?_ | refine WL.pure rfl rfl rfl rfl ?_ | refine WL.on rfl rfl ?_ | refine WL.off rfl rfl rfl ?_ | refine WC.condTrue rfl ?_ | refine WC.condFalse rfl ?_)
      have hgrow : PutI (upd st5 gx { (⟨false, ins [] 0 ⟨fk D T, 0, some (blk D T)⟩, none⟩ : Nd) with es := ins (ins [] 0 ⟨fk D T, 0, some (blk D T)⟩) 1 ⟨fk D (spl D T g).2, 0, some g⟩ }) k .top (mkS gx [(spl D T g).1, (spl D T g).2]) l := by
        refine hg4.grow (g := g) (by omega) hgn hbx hgx.symm hspl ?_ fun x hx => upd_ne hx
        rw [upd_eq]
        have e1 := kidE_spl (g := g) (by omega : cnt D T = 8) hg.mn
        have e2 : kidE D (spl D T g).2 = ⟨fk D (spl D T g).2, 0, some g⟩ := by unfold kidE; rw [(spl_blk D T g).2]
        rw [e1, e2]
        rfl
      have hbk : (bks (D + 1) (plug .top (mkS gx [(spl D T g).1, (spl D T g).2]))).length = (bks D T).length + 1 + 1 := by
        rw [plug_top, bks_mkS]
        have := bks_spl D T g
        simp only [List.flatMap_cons, List.flatMap_nil, List.append_nil, List.length_cons, List.length_append]
        omega
      refine WQ.meet ⟨D + 1, mkS gx [(spl D T g).1, (spl D T g).2]⟩ ⟨rfl, rfl, rfl, trivial⟩ ⟨_, ⟨hps8, hgrow, ?_⟩, by show 2 < 8; omega⟩
      simp only
      rw [hbk, plug_top]
      exact hh8
    · refine WC.condF rfl (by omega) ?_
      repeat (first | ((with_reducible refine WL.topT ?_ ?_); omega) | ((with_reducible refine WL.topF ?_ ?_); omega) | ((with_reducible refine WL.top64 ?_ ?_); omega) | refine WC.seq ?_ | refine WC.block ?_ | refine WC.region ?_ | refine WL.nil ?_ | refine WC.skip ?_ | refine WC.exit ?_ | refine WC.ret ?_ | refine WQ.then rfl ?_ | refine WQ.thenExit ?_ | refine WQ.thenRet ?_ | refine WQ.blk ?_ | refine WQ.blkRet ?_ | refine WQ.blkHere rfl ?_ | refine WQ.blkOther rfl ?_ | refine WL.pure rfl rfl rfl rfl ?_ | refine WL.on rfl rfl ?_ | refine WL.off rfl rfl rfl ?_ | refine WC.condTrue rfl ?_ | refine WC.condFalse rfl ?_)
      refine WQ.meet ⟨D, T⟩ ⟨rfl, rfl, rfl, trivial⟩ ⟨st1, ⟨hps, PutI.start hg, ?_⟩, by show cnt D T < 8; omega⟩
      simp only [plug_top]
      exact hh
  clear hcr h10 h11 h12 vr hr1 hr2 hr3 hbt hcl hfew hC8 hC hps hg hh hl8
  rintro ⟨D, T⟩ w2 ⟨st2, hpw, hc8⟩
  simp only at hpw hc8
  have h20 := (hdrR hpw.hdr).1
  rw [plug_top] at h20
  repeat (first | ((with_reducible refine WL.topT ?_ ?_); omega) | ((with_reducible refine WL.topF ?_ ?_); omega) | ((with_reducible refine WL.top64 ?_ ?_); omega) | refine WC.seq ?_ | refine WC.block ?_ | refine WC.region ?_ | refine WL.nil ?_ | refine WC.skip ?_ | refine WC.exit ?_ | refine WC.ret ?_ | refine WQ.then rfl ?_ | refine WQ.thenExit ?_ | refine WQ.thenRet ?_ | refine WQ.blk ?_ | refine WQ.blkRet ?_ | refine WQ.blkHere rfl ?_ | refine WQ.blkOther rfl ?_ | refine WL.pure rfl rfl rfl rfl ?_ | refine WL.on rfl rfl ?_ | refine WL.off rfl rfl rfl ?_ | refine WL.load rfl rfl rfl rfl rfl rfl (by assumption) ?_ | refine WC.condTrue rfl ?_ | refine WC.condFalse rfl ?_)
  refine WC.loop (fun x : PX => [(0, .pointer (some ⟨tb, 0, none⟩)), (1, .string k), (2, .int .i64 n), (10, .pointer (some ⟨blk x.d x.t, 0, none⟩))]) (fun x w' => ∃ st', PW w st tb k l w' st' x.c x.t ∧ cnt x.d x.t < 8) (fun x => x.d) ⟨D, D, .top, T⟩ ⟨rfl, rfl, rfl, rfl, trivial⟩ ⟨st2, hpw, hc8⟩ ?_
  clear h20 hpw hc8
  rintro ⟨D, d, c, t⟩ wr ⟨st', hpw, hc8⟩
  simp only at hpw hc8
  cases d with
  | zero =>
    obtain ⟨b, es⟩ := t
    have hpw : PW w st tb k l wr st' c (mk0 b es) := hpw
    have hc8 : es.length < 8 := hc8
    change WC _ _ _ [(0, .pointer (some ⟨tb, 0, none⟩)), (1, .string k), (2, .int .i64 n), (10, .pointer (some ⟨b, 0, none⟩))] wr
    obtain ⟨nx0, hln⟩ := hpw.put.lnks
    have hb : st' b = some ⟨true, leafE es, Tre.hd [] nx0⟩ := hln.1
    obtain ⟨-, pb, vb⟩ := hpw.ps.mem _ _ hb
    have hbt : tb ≠ b := fun e => by rw [← e, hpw.ps.no] at hb; cases hb
    have l0 : wr.cell? ⟨b, 0, none⟩ = some (.bool true) := cellR vb (by omega)
    obtain ⟨hget, hes⟩ := hpw.put.get
    have hlen := insL_length (n := n) hsl (k := k)
    have hpl := plc_le k (es.map Prod.fst)
    rw [List.length_map] at hpl
    have hat := getL_at (k := k) hes
    have hia := ins_at (n := n) (k := k) hes
    repeat (first | ((with_reducible refine WL.topT ?_ ?_); omega) | ((with_reducible refine WL.topF ?_ ?_); omega) | ((with_reducible refine WL.top64 ?_ ?_); omega) | refine WC.seq ?_ | refine WC.block ?_ | refine WC.region ?_ | refine WL.nil ?_ | refine WC.skip ?_ | refine WC.exit ?_ | refine WC.ret ?_ | refine WQ.then rfl ?_ | refine WQ.thenExit ?_ | refine WQ.thenRet ?_ | refine WQ.blk ?_ | refine WQ.blkRet ?_ | refine WQ.blkHere rfl ?_ | refine WQ.blkOther rfl ?_ | refine WL.pure rfl rfl rfl rfl ?_ | refine WL.on rfl rfl ?_ | refine WL.off rfl rfl rfl ?_ | refine WL.load rfl rfl rfl rfl rfl rfl (by assumption) ?_ | refine WC.condTrue rfl ?_ | refine WC.condFalse rfl ?_)
    refine WL.call rfl rfl rfl rfl rfl Try.func27 rfl (by kernel_rfl) (place_any (key := k) vb (by show (leafE es).length ≤ 8; rw [leaf_len]; omega)) ?_
    rintro _ w3 ⟨rfl, rfl⟩
    refine ⟨_, rfl, ?_⟩
    simp only [keys_leaf]
    generalize plc k (es.map Prod.fst) = p at hpl hat hia ⊢
    have hcnt := cntR vb (leaf_len es)
    -- what is left to say
    have fin : ∀ {wz : World} {stz : St} {sz : Nat}, PS w st tb wz stz → (∀ nx, st' b = some ⟨true, leafE es, nx⟩ → stz b = some ⟨true, leafE (insL k n es), nx⟩) → (∀ x, x ≠ b → stz x = st' x) → VBlk treeT wz tb (trC (some (blk D (plug c (mk0 b es)))) sz (bks D (plug c (mk0 b es))).length) → sz = (insL k n l).length →
        IsT wz stz tb (insL k n l) ∧ Keep (Out st tb w) w wz ∧ New st w stz := fun {wz stz sz} hp h1 h2 h3 h4 => by
      obtain ⟨hgd, hbl, hcn⟩ := hpw.put.fin (st' := stz) (n := n) hc8 h1 h2
      refine ⟨⟨hp.mem, hp.no, _, _, ?_, .inr ⟨D, _, rfl, hgd, hbl.symm, hcn⟩⟩, hp.keep, hp.new⟩
      rw [blk_plug c (t := mk0 b es) (t' := mk0 b (insL k n es)) rfl, ← h4]
      exact h3
    by_cases hpN : p < es.length
    · repeat (first | ((with_reducible refine WL.topT ?_ ?_); omega) | ((with_reducible refine WL.topF ?_ ?_); omega) | ((with_reducible refine WL.top64 ?_ ?_); omega) | refine WC.seq ?_ | refine WC.block ?_ | refine WC.region ?_ | refine WL.nil ?_ | refine WC.skip ?_ | refine WC.exit ?_ | refine WC.ret ?_ | refine WQ.then rfl ?_ | refine WQ.thenExit ?_ | refine WQ.thenRet ?_ | refine WQ.blk ?_ | refine WQ.blkRet ?_ | refine WQ.blkHere rfl ?_ | refine WQ.blkOther rfl ?_ | refine WL.pure rfl rfl rfl rfl ?_ | refine WL.on rfl rfl ?_ | refine WL.off rfl rfl rfl ?_ | refine WL.load rfl rfl rfl rfl rfl rfl (by assumption) ?_ | refine WC.condTrue rfl ?_ | refine WC.condFalse rfl ?_)
      refine WL.idxA p (2 + p) rfl rfl rfl rfl rfl rfl rfl rfl (by omega) (by omega) ?_
      refine WL.on rfl rfl ?_
      have hkp := keyR vb (i := p) (by omega)
      rw [leaf_getD es hpN] at hkp
      refine WL.load rfl rfl rfl rfl rfl rfl hkp ?_
      by_cases hk : es[p].1 = k
      · -- it is there
        have hsome : (es.map Prod.fst)[p]? = some k := by simp [hpN, hk]
        rw [if_pos hsome, List.getElem?_eq_getElem hpN] at hat
        rw [if_pos hsome] at hia
        have hnp := numR vb (i := p) (by omega)
        rw [leaf_getD es hpN] at hnp
        simp only at hnp
        repeat (first | ((with_reducible refine WL.topT ?_ ?_); omega) | ((with_reducible refine WL.topF ?_ ?_); omega) | ((with_reducible refine WL.top64 ?_ ?_); omega) | refine WC.seq ?_ | refine WC.block ?_ | refine WC.region ?_ | refine WL.nil ?_ | refine WC.skip ?_ | refine WC.exit ?_ | refine WC.ret ?_ | refine WQ.then rfl ?_ | refine WQ.thenExit ?_ | refine WQ.thenRet ?_ | refine WQ.blk ?_ | refine WQ.blkRet ?_ | refine WQ.blkHere rfl ?_ | refine WQ.blkOther rfl ?_ | refine WL.pure rfl rfl rfl rfl ?_ | refine WL.on rfl rfl ?_ | refine WL.off rfl rfl rfl ?_ | refine WC.condTrue rfl ?_ | refine WC.condFalse rfl ?_)
        refine WC.as 163 (.bool true) rfl (by rw [hk]; exact congrArg Value.bool (beq_self_eq_true _)) ?_
        repeat (first | ((with_reducible refine WL.topT ?_ ?_); omega) | ((with_reducible refine WL.topF ?_ ?_); omega) | ((with_reducible refine WL.top64 ?_ ?_); omega) | refine WC.seq ?_ | refine WC.block ?_ | refine WC.region ?_ | refine WL.nil ?_ | refine WC.skip ?_ | refine WC.exit ?_ | refine WC.ret ?_ | refine WQ.then rfl ?_ | refine WQ.thenExit ?_ | refine WQ.thenRet ?_ | refine WQ.blk ?_ | refine WQ.blkRet ?_ | refine WQ.blkHere rfl ?_ | refine WQ.blkOther rfl ?_ | refine WL.pure rfl rfl rfl rfl ?_ | refine WL.on rfl rfl ?_ | refine WL.off rfl rfl rfl ?_ | refine WC.condTrue rfl ?_ | refine WC.condFalse rfl ?_)
        refine WL.idxA p (10 + p) rfl rfl rfl rfl rfl rfl rfl rfl (by omega) (by omega) ?_
        refine WL.load rfl rfl rfl rfl rfl rfl hnp ?_
        repeat (first | ((with_reducible refine WL.topT ?_ ?_); omega) | ((with_reducible refine WL.topF ?_ ?_); omega) | ((with_reducible refine WL.top64 ?_ ?_); omega) | refine WC.seq ?_ | refine WC.block ?_ | refine WC.region ?_ | refine WL.nil ?_ | refine WC.skip ?_ | refine WC.exit ?_ | refine WC.ret ?_ | refine WQ.then rfl ?_ | refine WQ.thenExit ?_ | refine WQ.thenRet ?_ | refine WQ.blk ?_ | refine WQ.blkRet ?_ | refine WQ.blkHere rfl ?_ | refine WQ.blkOther rfl ?_ | refine WL.pure rfl rfl rfl rfl ?_ | refine WL.on rfl rfl ?_ | refine WL.off rfl rfl rfl ?_ | refine WC.condTrue rfl ?_ | refine WC.condFalse rfl ?_)
        refine WL.idxA p (10 + p) rfl rfl rfl rfl rfl rfl rfl rfl (by omega) (by omega) ?_
        refine WL.store rfl rfl rfl rfl rfl rfl (by kernel_rfl) hnp (vb.free _) ?_
        have hv := setR vb (10 + p) (.int .i64 n)
        rw [row_num _ _ (by show p < (leafE es).length; rw [leaf_len]; exact hpN) (by show (leafE es).length ≤ 8; rw [leaf_len]; omega), leaf_getD es hpN] at hv
        have hke : Keep (fun x => x ≠ b) w3 (w3.setCell ⟨b, 10 + p, none⟩ (.int .i64 n)) := (Keep.refl _ _).setCell (fun hk => hk rfl) _
        have hse : (leafE es).set p ⟨es[p].1, n, none⟩ = leafE (insL k n es) := by
          rw [hia]
          unfold leafE
          rw [List.map_append, List.map_cons, List.map_take, List.map_drop, List.set_eq_take_append_cons_drop, if_pos (by simpa using hpN), hk]
        simp only [hse] at hv
        have hps := hpw.ps.node (b := b) (by rw [hb]; simp) hke (by show (leafE (insL k n es)).length ≤ 8; rw [leaf_len]; have := (insL_len (k := k) (n := n) es).1; omega) hv
        have hh := hpw.hdr.keep hke hbt
        generalize w3.setCell ⟨b, 10 + p, none⟩ (.int .i64 n) = w4 at hps hh ⊢
        repeat (first | ((with_reducible refine WL.topT ?_ ?_); omega) | ((with_reducible refine WL.topF ?_ ?_); omega) | ((with_reducible refine WL.top64 ?_ ?_); omega) | refine WC.seq ?_ | refine WC.block ?_ | refine WC.region ?_ | refine WL.nil ?_ | refine WC.skip ?_ | refine WC.exit ?_ | refine WC.ret ?_ | refine WQ.then rfl ?_ | refine WQ.thenExit ?_ | refine WQ.thenRet ?_ | refine WQ.blk ?_ | refine WQ.blkRet ?_ | refine WQ.blkHere rfl ?_ | refine WQ.blkOther rfl ?_ | refine WL.pure rfl rfl rfl rfl ?_ | refine WL.on rfl rfl ?_ | refine WL.off rfl rfl rfl ?_ | refine WC.condTrue rfl ?_ | refine WC.condFalse rfl ?_)
        have hf := fin hps (fun nx hx => by rw [hb] at hx; injection hx with hx; injection hx with _ _ e; subst e; exact upd_eq _ _ _) (fun x hx => upd_ne hx) hh (by rw [hlen, hget, hat]; rfl)
        refine WQ.ret2 rfl rfl rfl ⟨_, ?_, hf⟩
        rw [hget, hat]; rfl
      · -- it is not
        have hsome : ¬ (es.map Prod.fst)[p]? = some k := by simp [hpN, hk]
        rw [if_neg hsome] at hat hia
        repeat (first | ((with_reducible refine WL.topT ?_ ?_); omega) | ((with_reducible refine WL.topF ?_ ?_); omega) | ((with_reducible refine WL.top64 ?_ ?_); omega) | refine WC.seq ?_ | refine WC.block ?_ | refine WC.region ?_ | refine WL.nil ?_ | refine WC.skip ?_ | refine WC.exit ?_ | refine WC.ret ?_ | refine WQ.then rfl ?_ | refine WQ.thenExit ?_ | refine WQ.thenRet ?_ | refine WQ.blk ?_ | refine WQ.blkRet ?_ | refine WQ.blkHere rfl ?_ | refine WQ.blkOther rfl ?_ | refine WL.pure rfl rfl rfl rfl ?_ | refine WL.on rfl rfl ?_ | refine WL.off rfl rfl rfl ?_ | refine WC.condTrue rfl ?_ | refine WC.condFalse rfl ?_)
        refine WC.as 163 (.bool false) rfl (congrArg Value.bool (beq_eq_false_iff_ne.2 fun e => hk (ky_eq e))) ?_
        repeat (first | ((with_reducible refine WL.topT ?_ ?_); omega) | ((with_reducible refine WL.topF ?_ ?_); omega) | ((with_reducible refine WL.top64 ?_ ?_); omega) | refine WC.seq ?_ | refine WC.block ?_ | refine WC.region ?_ | refine WL.nil ?_ | refine WC.skip ?_ | refine WC.exit ?_ | refine WC.ret ?_ | refine WQ.then rfl ?_ | refine WQ.thenExit ?_ | refine WQ.thenRet ?_ | refine WQ.blk ?_ | refine WQ.blkRet ?_ | refine WQ.blkHere rfl ?_ | refine WQ.blkOther rfl ?_ | refine WL.pure rfl rfl rfl rfl ?_ | refine WL.on rfl rfl ?_ | refine WL.off rfl rfl rfl ?_ | refine WC.condTrue rfl ?_ | refine WC.condFalse rfl ?_)
        refine WL.call rfl rfl rfl rfl rfl Try.func24 rfl (by kernel_rfl) (nput_any (i := p) (n := n) (key := k) (kid := none) vb (by show p ≤ (leafE es).length; rw [leaf_len]; omega) (by show (leafE es).length < 8; rw [leaf_len]; exact hc8)) ?_
        rintro _ w4 ⟨rfl, hke, hv⟩
        refine ⟨_, rfl, ?_⟩
        have hse : ins (leafE es) p ⟨k, n, none⟩ = leafE (insL k n es) := by
          rw [hia]
          unfold leafE ins
          rw [List.map_append, List.map_cons, List.map_take, List.map_drop]
        simp only [hse] at hv
        have hps := hpw.ps.node (b := b) (by rw [hb]; simp) hke (by show (leafE (insL k n es)).length ≤ 8; rw [leaf_len]; have := (insL_len (k := k) (n := n) es).1; omega) hv
        have hh := hpw.hdr.keep hke hbt
        obtain ⟨-, hh1, -⟩ := hdrR hh
        repeat (first | ((with_reducible refine WL.topT ?_ ?_); omega) | ((with_reducible refine WL.topF ?_ ?_); omega) | ((with_reducible refine WL.top64 ?_ ?_); omega) | refine WC.seq ?_ | refine WC.block ?_ | refine WC.region ?_ | refine WL.nil ?_ | refine WC.skip ?_ | refine WC.exit ?_ | refine WC.ret ?_ | refine WQ.then rfl ?_ | refine WQ.thenExit ?_ | refine WQ.thenRet ?_ | refine WQ.blk ?_ | refine WQ.blkRet ?_ | refine WQ.blkHere rfl ?_ | refine WQ.blkOther rfl ?_ | refine WL.pure rfl rfl rfl rfl ?_ | refine WL.on rfl rfl ?_ | refine WL.off rfl rfl rfl ?_ | refine WL.load rfl rfl rfl rfl rfl rfl (by assumption) ?_ | refine WC.condTrue rfl ?_ | refine WC.condFalse rfl ?_)
        refine WL.store rfl rfl rfl rfl rfl rfl (by kernel_rfl) hh1 (hh.free 1) ?_
        have hh5 : VBlk treeT (w4.setCell ⟨tb, 1, none⟩ (.int .i64 ((l.length : Int) + 1))) tb (trC _ (l.length + 1) _) := hh.set 1 _
        have hps5 := hps.hdr 1 (.int .i64 ((l.length : Int) + 1))
        generalize w4.setCell ⟨tb, 1, none⟩ (.int .i64 ((l.length : Int) + 1)) = w5 at hps5 hh5 ⊢
        repeat (first | ((with_reducible refine WL.topT ?_ ?_); omega) | ((with_reducible refine WL.topF ?_ ?_); omega) | ((with_reducible refine WL.top64 ?_ ?_); omega) | refine WC.seq ?_ | refine WC.block ?_ | refine WC.region ?_ | refine WL.nil ?_ | refine WC.skip ?_ | refine WC.exit ?_ | refine WC.ret ?_ | refine WQ.then rfl ?_ | refine WQ.thenExit ?_ | refine WQ.thenRet ?_ | refine WQ.blk ?_ | refine WQ.blkRet ?_ | refine WQ.blkHere rfl ?_ | refine WQ.blkOther rfl ?_ | refine WL.pure rfl rfl rfl rfl ?_ | refine WL.on rfl rfl ?_ | refine WL.off rfl rfl rfl ?_ | refine WC.condTrue rfl ?_ | refine WC.condFalse rfl ?_)
        have hf := fin hps5 (fun nx hx => by rw [hb] at hx; injection hx with hx; injection hx with _ _ e; subst e; exact upd_eq _ _ _) (fun x hx => upd_ne hx) hh5 (by rw [hlen, hget, hat]; rfl)
        refine WQ.ret2 rfl rfl rfl ⟨_, ?_, hf⟩
        rw [hget, hat]; rfl
    · have hsome : ¬ (es.map Prod.fst)[p]? = some k := by rw [List.getElem?_eq_none (by simp; omega)]; simp
      rw [if_neg hsome] at hat hia
      repeat (first | ((with_reducible refine WL.topT ?_ ?_); omega) | ((with_reducible refine WL.topF ?_ ?_); omega) | ((with_reducible refine WL.top64 ?_ ?_); omega) | refine WC.seq ?_ | refine WC.block ?_ | refine WC.region ?_ | refine WL.nil ?_ | refine WC.skip ?_ | refine WC.exit ?_ | refine WC.ret ?_ | refine WQ.then rfl ?_ | refine WQ.thenExit ?_ | refine WQ.thenRet ?_ | refine WQ.blk ?_ | refine WQ.blkRet ?_ | refine WQ.blkHere rfl ?_ | refine WQ.blkOther rfl ?_ | refine WL.pure rfl rfl rfl rfl ?_ | refine WL.on rfl rfl ?_ | refine WL.off rfl rfl rfl ?_ | refine WL.load rfl rfl rfl rfl rfl rfl (by assumption) ?_ | refine WC.condTrue rfl ?_ | refine WC.condFalse rfl ?_)
      refine WL.call rfl rfl rfl rfl rfl Try.func24 rfl (by kernel_rfl) (nput_any (i := p) (n := n) (key := k) (kid := none) vb (by show p ≤ (leafE es).length; rw [leaf_len]; omega) (by show (leafE es).length < 8; rw [leaf_len]; exact hc8)) ?_
      rintro _ w4 ⟨rfl, hke, hv⟩
      refine ⟨_, rfl, ?_⟩
      have hse : ins (leafE es) p ⟨k, n, none⟩ = leafE (insL k n es) := by
        rw [hia]
        unfold leafE ins
        rw [List.map_append, List.map_cons, List.map_take, List.map_drop]
      simp only [hse] at hv
      have hps := hpw.ps.node (b := b) (by rw [hb]; simp) hke (by show (leafE (insL k n es)).length ≤ 8; rw [leaf_len]; have := (insL_len (k := k) (n := n) es).1; omega) hv
      have hh := hpw.hdr.keep hke hbt
      obtain ⟨-, hh1, -⟩ := hdrR hh
      repeat (first | ((with_reducible refine WL.topT ?_ ?_); omega) | ((with_reducible refine WL.topF ?_ ?_); omega) | ((with_reducible refine WL.top64 ?_ ?_); omega) | refine WC.seq ?_ | refine WC.block ?_ | refine WC.region ?_ | refine WL.nil ?_ | refine WC.skip ?_ | refine WC.exit ?_ | refine WC.ret ?_ | refine WQ.then rfl ?_ | refine WQ.thenExit ?_ | refine WQ.thenRet ?_ | refine WQ.blk ?_ | refine WQ.blkRet ?_ | refine WQ.blkHere rfl ?_ | refine WQ.blkOther rfl ?_ | refine WL.pure rfl rfl rfl rfl ?_ | refine WL.on rfl rfl ?_ | refine WL.off rfl rfl rfl ?_ | refine WL.load rfl rfl rfl rfl rfl rfl (by assumption) ?_ | refine WC.condTrue rfl ?_ | refine WC.condFalse rfl ?_)
      refine WL.store rfl rfl rfl rfl rfl rfl (by kernel_rfl) hh1 (hh.free 1) ?_
      have hh5 : VBlk treeT (w4.setCell ⟨tb, 1, none⟩ (.int .i64 ((l.length : Int) + 1))) tb (trC _ (l.length + 1) _) := hh.set 1 _
      have hps5 := hps.hdr 1 (.int .i64 ((l.length : Int) + 1))
      generalize w4.setCell ⟨tb, 1, none⟩ (.int .i64 ((l.length : Int) + 1)) = w5 at hps5 hh5 ⊢
      repeat (first | ((with_reducible refine WL.topT ?_ ?_); omega) | ((with_reducible refine WL.topF ?_ ?_); omega) | ((with_reducible refine WL.top64 ?_ ?_); omega) | refine WC.seq ?_ | refine WC.block ?_ | refine WC.region ?_ | refine WL.nil ?_ | refine WC.skip ?_ | refine WC.exit ?_ | refine WC.ret ?_ | refine WQ.then rfl ?_ | refine WQ.thenExit ?_ | refine WQ.thenRet ?_ | refine WQ.blk ?_ | refine WQ.blkRet ?_ | refine WQ.blkHere rfl ?_ | refine WQ.blkOther rfl ?_ | refine WL.pure rfl rfl rfl rfl ?_ | refine WL.on rfl rfl ?_ | refine WL.off rfl rfl rfl ?_ | refine WC.condTrue rfl ?_ | refine WC.condFalse rfl ?_)
      have hf := fin hps5 (fun nx hx => by rw [hb] at hx; injection hx with hx; injection hx with _ _ e; subst e; exact upd_eq _ _ _) (fun x hx => upd_ne hx) hh5 (by rw [hlen, hget, hat]; rfl)
      refine WQ.ret2 rfl rfl rfl ⟨_, ?_, hf⟩
      rw [hget, hat]; rfl
  | succ d =>
    obtain ⟨b, ks⟩ := t
    have hpw : PW w st tb k l wr st' c (mkS b ks) := hpw
    have hroom : ks.length < 8 := hc8
    change WC _ _ _ [(0, .pointer (some ⟨tb, 0, none⟩)), (1, .string k), (2, .int .i64 n), (10, .pointer (some ⟨b, 0, none⟩))] wr
    obtain ⟨hks, -, hksrt⟩ := hpw.put.kids
    have h2 : 2 ≤ ks.length := hpw.put.two
    have hb : st' b = some ⟨false, ks.map (kidE d), none⟩ := (RepI_mkS.1 hpw.put.repi).1
    obtain ⟨-, pb, vb⟩ := hpw.ps.mem _ _ hb
    have l0 : wr.cell? ⟨b, 0, none⟩ = some (.bool false) := cellR vb (by omega)
    have hml : ∀ q : List (Tr d), (q.map (kidE d)).length = q.length := fun q => List.length_map ..
    repeat (first | ((with_reducible refine WL.topT ?_ ?_); omega) | ((with_reducible refine WL.topF ?_ ?_); omega) | ((with_reducible refine WL.top64 ?_ ?_); omega) | refine WC.seq ?_ | refine WC.block ?_ | refine WC.region ?_ | refine WL.nil ?_ | refine WC.skip ?_ | refine WC.exit ?_ | refine WC.ret ?_ | refine WQ.then rfl ?_ | refine WQ.thenExit ?_ | refine WQ.thenRet ?_ | refine WQ.blk ?_ | refine WQ.blkRet ?_ | refine WQ.blkHere rfl ?_ | refine WQ.blkOther rfl ?_ | refine WL.pure rfl rfl rfl rfl ?_ | refine WL.on rfl rfl ?_ | refine WL.off rfl rfl rfl ?_ | refine WL.load rfl rfl rfl rfl rfl rfl (by assumption) ?_ | refine WC.condTrue rfl ?_ | refine WC.condFalse rfl ?_)
    refine WL.call rfl rfl rfl rfl rfl Try.func26 rfl (by kernel_rfl) (kid_any (key := k) vb (by show (ks.map (kidE d)).length ≤ 8; rw [hml]; omega) (by show 1 ≤ (ks.map (kidE d)).length; rw [hml]; omega)) ?_
    rintro _ w3 ⟨rfl, rfl⟩
    refine ⟨_, rfl, ?_⟩
    obtain ⟨kl0, s, kr, hke, hki, hlo, hhi, hkf⟩ := kid_cut (k := k) (fun x hx => els_ne (hks x hx).2 (by have := (hks x hx).1; omega)) hksrt (fun e => by rw [e] at h2; simp at h2)
    simp only [keys_kid, hml]
    rw [← hki]
    subst hke
    clear hki
    have hlen8 : kl0.length + kr.length + 1 < 8 := by simp only [List.length_append, List.length_cons] at hroom; omega
    have hsm := hks s (by simp)
    obtain ⟨nxs, hs1, hs2, hs3⟩ := hpw.put.kidAt
    obtain ⟨hs8, ps, vs⟩ := hpw.ps.mem _ _ hs1
    obtain ⟨C, hC⟩ : ∃ C, cnt d s = C := ⟨_, rfl⟩
    have hcl : (ents d s).length = C := by rw [ents_len, hC]
    have hcs := cntR vs hcl
    have hkd : w3.cell? ⟨b, 18 + kl0.length, none⟩ = some (.pointer (some ⟨blk d s, 0, none⟩)) := by
      have : VBlk nodeT w3 b (rowOf (ndF ⟨false, (kl0 ++ s :: kr).map (kidE d), none⟩ pb)) := vb
      exact kidR this (by omega) (by show (((kl0 ++ s :: kr).map (kidE d)).getD kl0.length noE).kid = _; rw [kid_at]; rfl)
    have hC8 : C ≤ 8 := by rw [← hC]; exact hsm.2.le
    have hfew := hpw.few
    have hbs : b ≠ blk d s := fun e => by
      have := (List.nodup_cons.1 (parts3 ((List.nodup_append.1 ((bks_plug c _).nodup_iff.1 hpw.put.nodup)).2.1))).1
      exact this (List.mem_append_left _ (e ▸ blk_mem d s))
    have hbt : tb ≠ b := fun e => by rw [← e, hpw.ps.no] at hb; cases hb
    repeat (first | ((with_reducible refine WL.topT ?_ ?_); omega) | ((with_reducible refine WL.topF ?_ ?_); omega) | ((with_reducible refine WL.top64 ?_ ?_); omega) | refine WC.seq ?_ | refine WC.block ?_ | refine WC.region ?_ | refine WL.nil ?_ | refine WC.skip ?_ | refine WC.exit ?_ | refine WC.ret ?_ | refine WQ.then rfl ?_ | refine WQ.thenExit ?_ | refine WQ.thenRet ?_ | refine WQ.blk ?_ | refine WQ.blkRet ?_ | refine WQ.blkHere rfl ?_ | refine WQ.blkOther rfl ?_ | refine WL.pure rfl rfl rfl rfl ?_ | refine WL.on rfl rfl ?_ | refine WL.off rfl rfl rfl ?_ | refine WC.condTrue rfl ?_ | refine WC.condFalse rfl ?_)
    refine WL.idxA kl0.length (18 + kl0.length) rfl rfl rfl rfl rfl rfl rfl rfl (by omega) (by omega) ?_
    refine WL.load rfl rfl rfl rfl rfl rfl hkd ?_
    repeat (first | ((with_reducible refine WL.topT ?_ ?_); omega) | ((with_reducible refine WL.topF ?_ ?_); omega) | ((with_reducible refine WL.top64 ?_ ?_); omega) | refine WC.seq ?_ | refine WC.block ?_ | refine WC.region ?_ | refine WL.nil ?_ | refine WC.skip ?_ | refine WC.exit ?_ | refine WC.ret ?_ | refine WQ.then rfl ?_ | refine WQ.thenExit ?_ | refine WQ.thenRet ?_ | refine WQ.blk ?_ | refine WQ.blkRet ?_ | refine WQ.blkHere rfl ?_ | refine WQ.blkOther rfl ?_ | refine WL.pure rfl rfl rfl rfl ?_ | refine WL.on rfl rfl ?_ | refine WL.off rfl rfl rfl ?_ | refine WL.load rfl rfl rfl rfl rfl rfl (by assumption) ?_ | refine WC.condTrue rfl ?_ | refine WC.condFalse rfl ?_)
    refine WC.mid (fun x : KX d => [(0, .pointer (some ⟨tb, 0, none⟩)), (1, .string k), (2, .int .i64 n), (10, .pointer (some ⟨b, 0, none⟩)), (11, .int .i64 x.l.length)])
      (fun x w' => ∃ st2, PW w st tb k l w' st2 c (mkS b (x.l ++ x.s :: x.r)) ∧ Lo (x.l.flatMap (els d)) k ∧ Hi (x.r.flatMap (els d)) k ∧ cnt d x.s < 8) rfl ?_ ?_
    · by_cases h8 : C = 8
      · refine WC.condT rfl (by omega) ?_
        repeat (first | ((with_reducible refine WL.topT ?_ ?_); omega) | ((with_reducible refine WL.topF ?_ ?_); omega) | ((with_reducible refine WL.top64 ?_ ?_); omega) | refine WC.seq ?_ | refine WC.block ?_ | refine WC.region ?_ | refine WL.nil ?_ | refine WC.skip ?_ | refine WC.exit ?_ | refine WC.ret ?_ | refine WQ.then rfl ?_ | refine WQ.thenExit ?_ | refine WQ.thenRet ?_ | refine WQ.blk ?_ | refine WQ.blkRet ?_ | refine WQ.blkHere rfl ?_ | refine WQ.blkOther rfl ?_ | refine WL.pure rfl rfl rfl rfl ?_ | refine WL.on rfl rfl ?_ | refine WL.off rfl rfl rfl ?_ | refine WC.condTrue rfl ?_ | refine WC.condFalse rfl ?_)
        refine WL.idxA kl0.length (18 + kl0.length) rfl rfl rfl rfl rfl rfl rfl rfl (by omega) (by omega) ?_
        refine WL.load rfl rfl rfl rfl rfl rfl hkd ?_
        refine WL.call rfl rfl rfl rfl rfl Try.func25 rfl (by kernel_rfl) (split_any hpw.ps.mem hs1 (by show (ents d s).length = 8; omega) hs3 (fun hlf => hs2 (fun e => by subst e; cases hlf)) hpw.hdr hpw.ps.no (by omega)) ?_
        rintro _ w5 ⟨g, rfl, hgw, hm5, hh5, hk5⟩
        refine ⟨_, rfl, ?_⟩
        simp only at hm5
        have hgn : st' g = none := by
          cases e : st' g with
          | none => rfl
          | some nd2 => have := hpw.ps.mem.lt (b := g) (by rw [e]; simp); omega
        have hgb : g ≠ blk d s := fun e => by rw [e, hs1] at hgn; cases hgn
        have hgB : g ≠ b := fun e => by rw [e, hb] at hgn; cases hgn
        have hgt : tb ≠ g := by have := hpw.hdr.lt; omega
        have hst : tb ≠ blk d s := fun e => by rw [← e, hpw.ps.no] at hs1; cases hs1
        have hspl := spl_of hs1 hgb
        obtain ⟨st5, hst5⟩ : ∃ st5, upd (upd st' (blk d s) ⟨d == 0, (ents d s).take 4, if (d == 0) = true then some g else none⟩) g ⟨d == 0, (ents d s).drop 4, nxs⟩ = st5 := ⟨_, rfl⟩
        rw [hst5] at hm5 hspl
        have hps5 : PS w st tb w5 st5 := hpw.ps.step hm5 (by rw [← hst5, upd_ne hgt, upd_ne hst]; exact hpw.ps.no) hk5 fun x hx => by
          rw [← hst5] at hx
          by_cases e : x = g
          · right; omega
          · rw [upd_ne e] at hx
            by_cases e2 : x = blk d s
            · left; rw [e2, hs1]; simp
            · rw [upd_ne e2] at hx; exact .inl hx
        have hb5 : st5 b = some ⟨false, (kl0 ++ s :: kr).map (kidE d), none⟩ := by rw [← hst5, upd_ne hgB.symm, upd_ne hbs]; exact hb
        have hg5 : st5 g = some ⟨d == 0, (ents d s).drop 4, nxs⟩ := by rw [← hst5, upd_eq]
        obtain ⟨-, pb5, vb5⟩ := hps5.mem _ _ hb5
        obtain ⟨-, pg5, vg5⟩ := hps5.mem _ _ hg5
        have hk5' := keyR vg5 (i := 0) (by omega)
        simp only [key2 (d := d) (g := g) (s := s) (by omega) hsm.2] at hk5'
        repeat (first | ((with_reducible refine WL.topT ?_ ?_); omega) | ((with_reducible refine WL.topF ?_ ?_); omega) | ((with_reducible refine WL.top64 ?_ ?_); omega) | refine WC.seq ?_ | refine WC.block ?_ | refine WC.region ?_ | refine WL.nil ?_ | refine WC.skip ?_ | refine WC.exit ?_ | refine WC.ret ?_ | refine WQ.then rfl ?_ | refine WQ.thenExit ?_ | refine WQ.thenRet ?_ | refine WQ.blk ?_ | refine WQ.blkRet ?_ | refine WQ.blkHere rfl ?_ | refine WQ.blkOther rfl ?_ | refine WL.pure rfl rfl rfl rfl ?_ | refine WL.on rfl rfl ?_ | refine WL.off rfl rfl rfl ?_ | refine WC.condTrue rfl ?_ | refine WC.condFalse rfl ?_)
        refine WL.idxA 0 2 rfl rfl rfl rfl rfl rfl rfl rfl (by omega) (by omega) ?_
        refine WL.load rfl rfl rfl rfl rfl rfl hk5' ?_
        repeat (first | ((with_reducible refine WL.topT ?_ ?_); omega) | ((with_reducible refine WL.topF ?_ ?_); omega) | ((with_reducible refine WL.top64 ?_ ?_); omega) | refine WC.seq ?_ | refine WC.block ?_ | refine WC.region ?_ | refine WL.nil ?_ | refine WC.skip ?_ | refine WC.exit ?_ | refine WC.ret ?_ | refine WQ.then rfl ?_ | refine WQ.thenExit ?_ | refine WQ.thenRet ?_ | refine WQ.blk ?_ | refine WQ.blkRet ?_ | refine WQ.blkHere rfl ?_ | refine WQ.blkOther rfl ?_ | refine WL.pure rfl rfl rfl rfl ?_ | refine WL.on rfl rfl ?_ | refine WL.off rfl rfl rfl ?_ | refine WC.condTrue rfl ?_ | refine WC.condFalse rfl ?_)
        refine WL.as 115 (.int .i64 ((kl0.length + 1 : Nat) : Int)) rfl rfl ?_
        refine WL.call rfl rfl rfl rfl rfl Try.func24 rfl (by kernel_rfl) (nput_any (i := kl0.length + 1) (n := 0) (kid := some g) vb5 (by show kl0.length + 1 ≤ ((kl0 ++ s :: kr).map (kidE d)).length; rw [hml]; simp) (by show ((kl0 ++ s :: kr).map (kidE d)).length < 8; rw [hml]; exact hroom)) ?_
        rintro _ w6 ⟨rfl, hk6, vb6⟩
        refine ⟨_, rfl, ?_⟩
        simp only [ins_kids (d := d) (g := g) (s := s) (l := kl0) (r := kr) (by omega) hsm.2] at vb6
        have hlen9 : (kl0 ++ (spl d s g).1 :: (spl d s g).2 :: kr).length ≤ 8 := by simp only [List.length_append, List.length_cons]; omega
        have hps6 := hps5.node (b := b) (by rw [hb5]; simp) hk6 (by show ((kl0 ++ (spl d s g).1 :: (spl d s g).2 :: kr).map (kidE d)).length ≤ 8; rw [hml]; exact hlen9) vb6
        have hh6 := hh5.keep hk6 hbt
        have hput6 := hpw.put.split hroom (by omega) hgn hspl
        have hbk : (bks D (plug c (mkS b (kl0 ++ (spl d s g).1 :: (spl d s g).2 :: kr)))).length = (bks D (plug c (mkS b (kl0 ++ s :: kr)))).length + 1 := by
          rw [bks_plug_len, bks_plug_len, bks_mkS, bks_mkS]
          have := bks_spl d s g
          simp only [List.flatMap_append, List.flatMap_cons, List.length_append, List.length_cons]
          omega
        have hpw6 : PW w st tb k l w6 _ c (mkS b (kl0 ++ (spl d s g).1 :: (spl d s g).2 :: kr)) := ⟨hps6, hput6, by rw [hbk, blk_plug c (t := mkS b (kl0 ++ s :: kr)) (t' := mkS b (kl0 ++ (spl d s g).1 :: (spl d s g).2 :: kr)) rfl]; exact hh6⟩
        clear hps6 hput6 hh6 hk6 hps5 hh5 vb5 vg5 hk5' hm5 hk5
        obtain ⟨hks6, -, hksrt6⟩ := hpw6.put.kids
        repeat (first | ((with_reducible refine WL.topT ?_ ?_); omega) | ((with_reducible refine WL.topF ?_ ?_); omega) | ((with_reducible refine WL.top64 ?_ ?_); omega) | refine WC.seq ?_ | refine WC.block ?_ | refine WC.region ?_ | refine WL.nil ?_ | refine WC.skip ?_ | refine WC.exit ?_ | refine WC.ret ?_ | refine WQ.then rfl ?_ | refine WQ.thenExit ?_ | refine WQ.thenRet ?_ | refine WQ.blk ?_ | refine WQ.blkRet ?_ | refine WQ.blkHere rfl ?_ | refine WQ.blkOther rfl ?_ | refine WL.pure rfl rfl rfl rfl ?_ | refine WL.on rfl rfl ?_ | refine WL.off rfl rfl rfl ?_ | refine WC.condTrue rfl ?_ | refine WC.condFalse rfl ?_)
        refine WL.call rfl rfl rfl rfl rfl Try.func26 rfl (by kernel_rfl) (kid_any (key := k) vb6 (by show ((kl0 ++ (spl d s g).1 :: (spl d s g).2 :: kr).map (kidE d)).length ≤ 8; rw [hml]; exact hlen9) (by show 1 ≤ ((kl0 ++ (spl d s g).1 :: (spl d s g).2 :: kr).map (kidE d)).length; rw [hml]; simp only [List.length_append, List.length_cons]; omega)) ?_
        rintro _ w7 ⟨rfl, rfl⟩
        refine ⟨_, rfl, ?_⟩
        have hne6 : ∀ x ∈ kl0 ++ (spl d s g).1 :: (spl d s g).2 :: kr, els d x ≠ [] := fun x hx => els_ne (hks6 x hx).2 (by have := (hks6 x hx).1; omega)
        obtain ⟨kl1, s', kr1, hke1, hki1, hlo1, hhi1, hkf1⟩ := kid_cut (k := k) hne6 hksrt6 (by simp)
        simp only [keys_kid, hml]
        rw [← hki1]
        have hfk : fk d (spl d s g).1 = fk d s := congrArg En.key (kidE_spl (g := g) (by omega : cnt d s = 8) hsm.2)
        have hs' := kid_again hke1 (hne6 _ (by simp)) (fun x hx => hne6 x (by simp [hx])) (fun e => by rw [hfk]; exact hkf e) hhi hhi1 hkf1
        obtain ⟨hc1, hc2⟩ := spl_cnt d s g (by omega)
        repeat (first | ((with_reducible refine WL.topT ?_ ?_); omega) | ((with_reducible refine WL.topF ?_ ?_); omega) | ((with_reducible refine WL.top64 ?_ ?_); omega) | refine WC.seq ?_ | refine WC.block ?_ | refine WC.region ?_ | refine WL.nil ?_ | refine WC.skip ?_ | refine WC.exit ?_ | refine WC.ret ?_ | refine WQ.then rfl ?_ | refine WQ.thenExit ?_ | refine WQ.thenRet ?_ | refine WQ.blk ?_ | refine WQ.blkRet ?_ | refine WQ.blkHere rfl ?_ | refine WQ.blkOther rfl ?_ | refine WL.pure rfl rfl rfl rfl ?_ | refine WL.on rfl rfl ?_ | refine WL.off rfl rfl rfl ?_ | refine WC.condTrue rfl ?_ | refine WC.condFalse rfl ?_)
        refine WQ.meet ⟨kl1, s', kr1⟩ ⟨rfl, rfl, rfl, rfl, rfl, trivial⟩ ⟨_, by rw [← hke1]; exact hpw6, hlo1, hhi1, ?_⟩
        rcases hs' with e | e <;> (show cnt d s' < 8; rw [e]; omega)
      · refine WC.condF rfl (by omega) ?_
        repeat (first | ((with_reducible refine WL.topT ?_ ?_); omega) | ((with_reducible refine WL.topF ?_ ?_); omega) | ((with_reducible refine WL.top64 ?_ ?_); omega) | refine WC.seq ?_ | refine WC.block ?_ | refine WC.region ?_ | refine WL.nil ?_ | refine WC.skip ?_ | refine WC.exit ?_ | refine WC.ret ?_ | refine WQ.then rfl ?_ | refine WQ.thenExit ?_ | refine WQ.thenRet ?_ | refine WQ.blk ?_ | refine WQ.blkRet ?_ | refine WQ.blkHere rfl ?_ | refine WQ.blkOther rfl ?_ | refine WL.pure rfl rfl rfl rfl ?_ | refine WL.on rfl rfl ?_ | refine WL.off rfl rfl rfl ?_ | refine WC.condTrue rfl ?_ | refine WC.condFalse rfl ?_)
        exact WQ.meet ⟨kl0, s, kr⟩ ⟨rfl, rfl, rfl, rfl, rfl, trivial⟩ ⟨st', hpw, hlo, hhi, by show cnt d s < 8; omega⟩
    clear vb l0 hks hksrt h2 hb hlo hhi hkf hlen8 hsm hs1 hs2 hs3 hs8 vs hcl hcs hkd hC8 hC hfew hbs hpw hroom hc8
    rintro ⟨kl0, s, kr⟩ w6 ⟨st6, hpw, hlo, hhi, hc⟩
    simp only at hpw hlo hhi hc
    obtain ⟨hks, hk8, -⟩ := hpw.put.kids
    have hlen8 : kl0.length < 8 := by simp only [List.length_append, List.length_cons] at hk8; omega
    have hb : st6 b = some ⟨false, (kl0 ++ s :: kr).map (kidE d), none⟩ := (RepI_mkS.1 hpw.put.repi).1
    obtain ⟨-, pb, vb⟩ := hpw.ps.mem _ _ hb
    have hky := keyR vb (i := kl0.length) (by omega)
    simp only [kid_at] at hky
    have hky' : w6.cell? ⟨b, 2 + kl0.length, none⟩ = some (.string (fk d s)) := hky
    repeat (first | refine WC.seq ?_ | refine WC.block ?_ | refine WC.region ?_ | refine WL.nil ?_ | refine WC.skip ?_ | refine WC.exit ?_ | refine WC.ret ?_ | refine WQ.then rfl ?_ | refine WQ.thenExit ?_ | refine WQ.thenRet ?_ | refine WQ.blk ?_ | refine WQ.blkRet ?_ | refine WQ.blkHere rfl ?_ | refine WQ.blkOther rfl ?_)
    refine WC.drawn 13 (fun wx => wx.heap = w6.heap) fun w7 hd => ?_
    have hS : w7.heap = w6.heap := hd.heap
    have vb7 := vb.below (hd.below _) vb.lt
    have hps7 := hpw.ps.step (hpw.ps.mem.below (hd.below _)) hpw.ps.no (Keep.ofDrew hd _) fun x hx => .inl hx
    have hh7 := hpw.hdr.below (hd.below _) hpw.hdr.lt
    clear hd
    (((first | refine WD.free 0 rfl (by kernel_rfl) rfl rfl (fun _ _ _ _ _ h => h) rfl rfl (.inr hS) ?_ | refine WD.skip 0 rfl (by kernel_rfl) rfl rfl (fun _ _ _ _ _ h => h) rfl (.inr hS) ?_); try (first | ((with_reducible refine WD.topT ?_ ?_); omega) | ((with_reducible refine WD.topF ?_ ?_); omega) | ((with_reducible refine WD.top64 ?_ ?_); omega))); ((first | refine WD.free 1 rfl (by kernel_rfl) rfl rfl (fun _ _ _ _ _ h => h) rfl rfl (.inr hS) ?_ | refine WD.skip 1 rfl (by kernel_rfl) rfl rfl (fun _ _ _ _ _ h => h) rfl (.inr hS) ?_); try (first | ((with_reducible refine WD.topT ?_ ?_); omega) | ((with_reducible refine WD.topF ?_ ?_); omega) | ((with_reducible refine WD.top64 ?_ ?_); omega))); ((first | refine WD.free 2 rfl (by kernel_rfl) rfl rfl (fun _ _ _ _ _ h => h) rfl rfl (.inr hS) ?_ | refine WD.skip 2 rfl (by kernel_rfl) rfl rfl (fun _ _ _ _ _ h => h) rfl (.inr hS) ?_); try (first | ((with_reducible refine WD.topT ?_ ?_); omega) | ((with_reducible refine WD.topF ?_ ?_); omega) | ((with_reducible refine WD.top64 ?_ ?_); omega))); ((first | refine WD.free 3 rfl (by kernel_rfl) rfl rfl (fun _ _ _ _ _ h => h) rfl rfl (.inr hS) ?_ | refine WD.skip 3 rfl (by kernel_rfl) rfl rfl (fun _ _ _ _ _ h => h) rfl (.inr hS) ?_); try (first | ((with_reducible refine WD.topT ?_ ?_); omega) | ((with_reducible refine WD.topF ?_ ?_); omega) | ((with_reducible refine WD.top64 ?_ ?_); omega))); ((first | refine WD.free 4 rfl (by kernel_rfl) rfl rfl (fun _ _ _ _ _ h => h) rfl rfl (.inr hS) ?_ | refine WD.skip 4 rfl (by kernel_rfl) rfl rfl (fun _ _ _ _ _ h => h) rfl (.inr hS) ?_); try (first | ((with_reducible refine WD.topT ?_ ?_); omega) | ((with_reducible refine WD.topF ?_ ?_); omega) | ((with_reducible refine WD.top64 ?_ ?_); omega))); ((first | refine WD.free 5 rfl (by kernel_rfl) rfl rfl (fun _ _ _ _ _ h => h) rfl rfl (.inr hS) ?_ | refine WD.skip 5 rfl (by kernel_rfl) rfl rfl (fun _ _ _ _ _ h => h) rfl (.inr hS) ?_); try (first | ((with_reducible refine WD.topT ?_ ?_); omega) | ((with_reducible refine WD.topF ?_ ?_); omega) | ((with_reducible refine WD.top64 ?_ ?_); omega))))
    refine WD.idxA 6 kl0.length (2 + kl0.length) rfl (by kernel_rfl) rfl rfl (fun _ _ _ _ _ h => h) rfl rfl rfl rfl rfl rfl (by omega) (by omega) (.inr hS) ?_
    refine WD.load 7 [9, 12, 13] rfl (by kernel_rfl) rfl rfl (fun _ _ _ _ _ h => h) rfl rfl rfl rfl (fun wx hx => (heap_cell hx _).trans hky') hS ?_
    (((first | refine WD.free 8 rfl (by kernel_rfl) rfl rfl (fun _ _ _ _ _ h => h) rfl rfl (.inr hS) ?_ | refine WD.skip 8 rfl (by kernel_rfl) rfl rfl (fun _ _ _ _ _ h => h) rfl (.inr hS) ?_); try (first | ((with_reducible refine WD.topT ?_ ?_); omega) | ((with_reducible refine WD.topF ?_ ?_); omega) | ((with_reducible refine WD.top64 ?_ ?_); omega))); ((first | refine WD.free 10 rfl (by kernel_rfl) rfl rfl (fun _ _ _ _ _ h => h) rfl rfl (.inr hS) ?_ | refine WD.skip 10 rfl (by kernel_rfl) rfl rfl (fun _ _ _ _ _ h => h) rfl (.inr hS) ?_); try (first | ((with_reducible refine WD.topT ?_ ?_); omega) | ((with_reducible refine WD.topF ?_ ?_); omega) | ((with_reducible refine WD.top64 ?_ ?_); omega))); ((first | refine WD.free 11 rfl (by kernel_rfl) rfl rfl (fun _ _ _ _ _ h => h) rfl rfl (.inr hS) ?_ | refine WD.skip 11 rfl (by kernel_rfl) rfl rfl (fun _ _ _ _ _ h => h) rfl (.inr hS) ?_); try (first | ((with_reducible refine WD.topT ?_ ?_); omega) | ((with_reducible refine WD.topF ?_ ?_); omega) | ((with_reducible refine WD.top64 ?_ ?_); omega))))
    refine WD.one 9 (by kernel_rfl) rfl ?_
    refine WL.minS rfl rfl rfl rfl rfl rfl ?_
    refine WL.nil (WQ.dk (.inr hS) ?_)
    refine WD.idxA 12 kl0.length (2 + kl0.length) rfl (by kernel_rfl) rfl rfl (fun _ _ _ _ _ h => h) rfl rfl rfl rfl rfl rfl (by omega) (by omega) (.inr hS) ?_
    refine WD.one 13 (by kernel_rfl) rfl ?_
    refine WL.store rfl rfl rfl rfl rfl rfl (by kernel_rfl) (cellR vb7 (by omega)) (vb7.free _) ?_
    have v8 := setR vb7 (2 + kl0.length) (.string (kmin (fk d s) k))
    have hml : ((kl0 ++ s :: kr).map (kidE d)).length = (kl0 ++ s :: kr).length := List.length_map ..
    rw [row_key _ _ (by show kl0.length < ((kl0 ++ s :: kr).map (kidE d)).length; rw [hml]; simp) (by show ((kl0 ++ s :: kr).map (kidE d)).length ≤ 8; rw [hml]; exact hk8)] at v8
    simp only [kid_at, set_kid] at v8
    have k8 : Keep (fun x => x ≠ b) w7 (w7.setCell ⟨b, 2 + kl0.length, none⟩ (.string (kmin (fk d s) k))) := (Keep.refl _ _).setCell (fun hk => hk rfl) _
    have hbt : tb ≠ b := fun e => by rw [← e, hpw.ps.no] at hb; cases hb
    have hps8 := hps7.node (b := b) (by rw [hb]; simp) k8 (by show (kl0.map (kidE d) ++ _ :: kr.map (kidE d)).length ≤ 8; simp only [List.length_append, List.length_map, List.length_cons] at hk8 ⊢; exact hk8) v8
    have hh8 := hh7.keep k8 hbt
    generalize w7.setCell ⟨b, 2 + kl0.length, none⟩ (.string (kmin (fk d s) k)) = w8 at v8 k8 hps8 hh8 ⊢
    refine WL.nil (WQ.dk (.inl rfl) ?_)
    refine WD.done (by kernel_rfl) ?_
    have hkd : w8.cell? ⟨b, 18 + kl0.length, none⟩ = some (.pointer (some ⟨blk d s, 0, none⟩)) := by
      refine kidR v8 (by omega) ?_
      show ((kl0.map (kidE d) ++ _ :: kr.map (kidE d)).getD kl0.length noE).kid = _
      rw [List.getD_eq_getElem?_getD, List.getElem?_append_right (by simp)]
      simp [kidE]
    repeat (first | ((with_reducible refine WL.topT ?_ ?_); omega) | ((with_reducible refine WL.topF ?_ ?_); omega) | ((with_reducible refine WL.top64 ?_ ?_); omega) | refine WC.seq ?_ | refine WC.block ?_ | refine WC.region ?_ | refine WL.nil ?_ | refine WC.skip ?_ | refine WC.exit ?_ | refine WC.ret ?_ | refine WQ.then rfl ?_ | refine WQ.thenExit ?_ | refine WQ.thenRet ?_ | refine WQ.blk ?_ | refine WQ.blkRet ?_ | refine WQ.blkHere rfl ?_ | refine WQ.blkOther rfl ?_ | refine WL.pure rfl rfl rfl rfl ?_ | refine WL.on rfl rfl ?_ | refine WL.off rfl rfl rfl ?_ | refine WC.condTrue rfl ?_ | refine WC.condFalse rfl ?_)
    refine WL.idxA kl0.length (18 + kl0.length) rfl rfl rfl rfl rfl rfl rfl rfl (by omega) (by omega) ?_
    refine WL.load rfl rfl rfl rfl rfl rfl hkd ?_
    repeat (first | ((with_reducible refine WL.topT ?_ ?_); omega) | ((with_reducible refine WL.topF ?_ ?_); omega) | ((with_reducible refine WL.top64 ?_ ?_); omega) | refine WC.seq ?_ | refine WC.block ?_ | refine WC.region ?_ | refine WL.nil ?_ | refine WC.skip ?_ | refine WC.exit ?_ | refine WC.ret ?_ | refine WQ.then rfl ?_ | refine WQ.thenExit ?_ | refine WQ.thenRet ?_ | refine WQ.blk ?_ | refine WQ.blkRet ?_ | refine WQ.blkHere rfl ?_ | refine WQ.blkOther rfl ?_ | refine WL.pure rfl rfl rfl rfl ?_ | refine WL.on rfl rfl ?_ | refine WL.off rfl rfl rfl ?_ | refine WC.condTrue rfl ?_ | refine WC.condFalse rfl ?_)
    refine WQ.again ⟨D, d, .down c b kl0 kr, s⟩ ⟨rfl, rfl, rfl, rfl, trivial⟩ ⟨_, ⟨hps8, ?_, ?_⟩, hc⟩ (by show d < d + 1; omega)
    · exact hpw.put.down hlo hhi
    · simp only [plug_down]; exact hh8
end K
end Go.Proofs.Ytilmfnlaenneeaa

/- Trees (chapter 13): mends. -/
namespace Go.Proofs.Ytilmfnlaenneeaa
open Go.RowKit
namespace K
open Tre
theorem PS.node2 {w0 w' w2 : World} {st0 st' : St} {tb b c : Nat} {nb nc : Nd} {pb pc : Option Nat} (h : PS w0 st0 tb w' st') (hb : st' b ≠ none) (hc : st' c ≠ none) (hk : Keep (fun x => x ≠ b ∧ x ≠ c) w' w2) (hlb : nb.es.length ≤ 8) (hlc : nc.es.length ≤ 8)
    (hvb : VBlk nodeT w2 b (rowOf (ndF nb pb))) (hvc : VBlk nodeT w2 c (rowOf (ndF nc pc))) : PS w0 st0 tb w2 (upd (upd st' b nb) c nc) := by
  have hnb : tb ≠ b := fun e => hb (by rw [← e]; exact h.no)
  have hnc : tb ≠ c := fun e => hc (by rw [← e]; exact h.no)
  refine h.step (fun x nd e => ?_) (by rw [upd_ne hnc, upd_ne hnb]; exact h.no) (hk.mono fun x hx => ⟨fun e => hb (by rw [← e]; exact hx.2.1), fun e => hc (by rw [← e]; exact hx.2.1)⟩) fun x hx => ?_
  · by_cases hxc : x = c
    · subst hxc; rw [upd_eq] at e; obtain rfl := Option.some.inj e; exact ⟨hlc, pc, hvc⟩
    · rw [upd_ne hxc] at e
      by_cases hxb : x = b
      · subst hxb; rw [upd_eq] at e; obtain rfl := Option.some.inj e; exact ⟨hlb, pb, hvb⟩
      · rw [upd_ne hxb] at e
        obtain ⟨h1, pv, h2⟩ := h.mem x nd e
        exact ⟨h1, pv, h2.keep hk ⟨hxb, hxc⟩⟩
  · by_cases hxc : x = c
    · rw [hxc]; exact .inl hc
    · rw [upd_ne hxc] at hx
      by_cases hxb : x = b
      · rw [hxb]; exact .inl hb
      · rw [upd_ne hxb] at hx; exact .inl hx
theorem PS.prev {w0 w' : World} {st0 st' : St} {tb q : Nat} (h : PS w0 st0 tb w' st') (hq : st' q ≠ none) (x : Option Nat) : PS w0 st0 tb (w'.setCell ⟨q, 27, none⟩ (ptrV x)) st' :=
  h.step (h.mem.setPrev hq x) h.no (Keep.setCell (Keep.refl _ _) (fun hk => hq hk.2.1) _) fun _ hx => .inl hx
theorem kids_era {d : Nat} (p q : List (Tr d)) (a c : Tr d) (z : Tr d) (hz : kidE d z = kidE d a) : era ((p ++ a :: c :: q).map (kidE d)) (p.length + 1) = (p ++ z :: q).map (kidE d) := by
  unfold era
  have hl : (p.map (kidE d)).length = p.length := List.length_map ..
  simp only [List.map_append, List.map_cons]
  rw [List.take_append, List.drop_append, hl, List.take_of_length_le (by rw [hl]; omega), List.drop_eq_nil_of_le (by rw [hl]; omega), show p.length + 1 - p.length = 1 by omega, show p.length + 1 + 1 - p.length = 2 by omega, hz]
  simp
theorem kids_set {d : Nat} (p q : List (Tr d)) (a c a' c' : Tr d) (ha : kidE d a' = kidE d a) (x : En) (hx : x = kidE d c') : ((p ++ a :: c :: q).map (kidE d)).set (p.length + 1) x = (p ++ a' :: c' :: q).map (kidE d) := by
  have hl : (p.map (kidE d)).length = p.length := List.length_map ..
  simp only [List.map_append, List.map_cons]
  rw [List.set_append_right _ _ (by rw [hl]; omega), hl, show p.length + 1 - p.length = 1 by omega, ha, hx]
  rfl
theorem kids_get2 {d : Nat} (p q : List (Tr d)) (a c : Tr d) (z : En) : ((p ++ a :: c :: q).map (kidE d)).getD (p.length + 1) z = kidE d c := by
  have hl : (p.map (kidE d)).length = p.length := List.length_map ..
  simp only [List.map_append, List.map_cons, List.getD_eq_getElem?_getD]
  rw [List.getElem?_append_right (by rw [hl]; omega), hl, show p.length + 1 - p.length = 1 by omega]
  rfl
theorem kidE_jn {d : Nat} {a c : Tr d} (hm : Mn d a) (h1 : 1 ≤ cnt d a) : kidE d (jn d a c) = kidE d a := by
  unfold kidE fk
  rw [jn_els, fst_app (els_ne hm h1), jn_blk]
theorem kidE_rd {d j : Nat} {a c : Tr d} (hm : Mn d a) (h1 : 1 ≤ cnt d a) (hm' : Mn d (rd j d a c).1) (h1' : 1 ≤ cnt d (rd j d a c).1) : kidE d (rd j d a c).1 = kidE d a := by
  unfold kidE fk
  have := rd_els j d a c
  rw [← fst_app (els_ne hm' h1') (b := els d (rd j d a c).2), this, fst_app (els_ne hm h1), (rd_blk j d a c).1]
theorem At_kid {st : St} {d b : Nat} {ks : List (Tr d)} {nx : Option Nat} (h : At st (d + 1) (mkS b ks) nx) {s : Tr d} (hs : s ∈ ks) : ∃ nx', st (blk d s) = some ⟨d == 0, ents d s, nx'⟩ ∧ (d ≠ 0 → nx' = none) := by
  obtain ⟨nx2, h2⟩ := Lnk_mem (l := ks) h.lnk s hs
  exact nodeAt ((RepI_mkS.1 h.rep).2 s hs) h2
theorem sh1 (x y : List En) {A : Nat} (hx : x.length = A) (hy : 1 ≤ y.length) : (x ++ y).take (A + 1) = x ++ [⟨(y.getD 0 noE).key, (y.getD 0 noE).num, (y.getD 0 noE).kid⟩] ∧ (x ++ y).drop (A + 1) = era y 0 := by
  cases y with
  | nil => simp at hy
  | cons e y =>
    subst hx
    refine ⟨?_, ?_⟩
    · rw [List.take_append, List.take_of_length_le (by omega), show x.length + 1 - x.length = 1 by omega]; rfl
    · rw [List.drop_append, List.drop_eq_nil_of_le (by omega), show x.length + 1 - x.length = 1 by omega]; rfl
theorem sh2 (x y : List En) {A : Nat} (hx : x.length = A + 1) : (x ++ y).take A = era x A ∧ (x ++ y).drop A = ins y 0 ⟨(x.getD A noE).key, (x.getD A noE).num, (x.getD A noE).kid⟩ := by
  refine ⟨?_, ?_⟩
  · rw [era_end _ hx, List.take_append_of_le_length (by omega)]
  · rw [List.drop_append_of_le_length (by omega), getD_elem _ (by omega), List.drop_eq_getElem_cons (by omega), List.drop_eq_nil_of_le (by omega)]; rfl
set_option maxRecDepth 20000 in
set_option maxHeartbeats 8000000 in
theorem mends_any {w : World} {st : St} {tb b d size m : Nat} {root : Option Nat} {p q : List (Tr d)} {a c : Tr d} {nx : Option Nat} (hm : Mem w st) (hno : st tb = none) (hat : At st (d + 1) (mkS b (p ++ a :: c :: q)) nx)
    (hval : ∀ nd, st (blk d c) = some nd → ∀ q, nd.next = some q → st q ≠ none) (hma : Mn d a) (hmc : Mn d c) (ha3 : 3 ≤ cnt d a) (hc3 : 3 ≤ cnt d c) (h33 : cnt d a = 3 ∨ cnt d c = 3) (hlen : (p ++ a :: c :: q).length ≤ 8) (hh : VBlk treeT w tb (trC root size (m + 1))) (hmm : m < 4611686018427387904) :
    Calls Try.prog 39 #[.pointer (some ⟨tb, 0, none⟩), .pointer (some ⟨b, 0, none⟩), .int .i64 p.length] w fun e w' => e = .returned (.tuple #[]) ∧ ∃ st' t', CutR st st' (d + 1) (mkS b (p ++ a :: c :: q)) t' nx ∧ PS w st tb w' st' ∧ (∀ x, st' x ≠ none → st x ≠ none) ∧
      ((cnt d a + cnt d c ≤ 8 ∧ t' = mkS b (p ++ jn d a c :: q) ∧ VBlk treeT w' tb (trC root size m)) ∨ (8 < cnt d a + cnt d c ∧ ∃ j, 4 ≤ j ∧ j ≤ 8 ∧ j + 4 ≤ cnt d a + cnt d c ∧ cnt d a + cnt d c ≤ j + 8 ∧ t' = mkS b (p ++ (rd j d a c).1 :: (rd j d a c).2 :: q) ∧ VBlk treeT w' tb (trC root size (m + 1)))) := by
  refine enter (args := [.pointer (some ⟨tb, 0, none⟩), .pointer (some ⟨b, 0, none⟩), .int .i64 p.length]) Try.func39 rfl Try.ntmps39 rfl ?_
  have hps := PS.start hm hno
  obtain ⟨hpb, hpr⟩ := List.nodup_cons.1 (parts4 hat.nodup)
  obtain ⟨hpac, -, -⟩ := List.nodup_append.1 hpr
  obtain ⟨-, -, hdac⟩ := List.nodup_append.1 hpac
  have hac : blk d a ≠ blk d c := hdac _ (blk_mem d a) _ (blk_mem d c)
  have hba : b ≠ blk d a := fun e => hpb (by simp only [List.mem_append]; exact .inl (.inl (e ▸ blk_mem d a)))
  have hbc : b ≠ blk d c := fun e => hpb (by simp only [List.mem_append]; exact .inl (.inr (e ▸ blk_mem d c)))
  clear hpb hpr hpac hdac
  have hb : st b = some ⟨false, (p ++ a :: c :: q).map (kidE d), none⟩ := (RepI_mkS.1 hat.rep).1
  obtain ⟨nxa, hsa, hxa⟩ := At_kid hat (s := a) (by simp)
  obtain ⟨nxc, hsc, hxc⟩ := At_kid hat (s := c) (by simp)
  have htb : tb ≠ b := fun e => by rw [← e, hno] at hb; cases hb
  have hta : tb ≠ blk d a := fun e => by rw [← e, hno] at hsa; cases hsa
  have htc : tb ≠ blk d c := fun e => by rw [← e, hno] at hsc; cases hsc
  obtain ⟨-, pb, vb⟩ := hm _ _ hb
  obtain ⟨-, pa, va⟩ := hm _ _ hsa
  obtain ⟨-, pc, vc⟩ := hm _ _ hsc
  obtain ⟨A, hA⟩ : ∃ A, cnt d a = A := ⟨_, rfl⟩
  obtain ⟨C, hC⟩ : ∃ C, cnt d c = C := ⟨_, rfl⟩
  have hA8 : A ≤ 8 := by rw [← hA]; exact hma.le
  have hC8 : C ≤ 8 := by rw [← hC]; exact hmc.le
  have hla : (ents d a).length = A := by rw [ents_len, hA]
  have hlc : (ents d c).length = C := by rw [ents_len, hC]
  rw [hA] at ha3
  rw [hC] at hc3
  rw [hA, hC] at h33
  have hp7 : p.length + 2 ≤ 8 := by simp only [List.length_append, List.length_cons] at hlen; omega
  have hml : ∀ l : List (Tr d), (l.map (kidE d)).length = l.length := fun l => List.length_map ..
  have hka := kidR vb (i := p.length) (q := blk d a) (by omega) (by show (((p ++ a :: c :: q).map (kidE d)).getD p.length noE).kid = _; rw [kid_at]; rfl)
  have hkc := kidR vb (i := p.length + 1) (q := blk d c) (by omega) (by show (((p ++ a :: c :: q).map (kidE d)).getD (p.length + 1) noE).kid = _; rw [kids_get2]; rfl)
  repeat (first | refine WC.seq ?_ | refine WC.block ?_ | refine WC.region ?_ | refine WL.nil ?_ | refine WC.skip ?_ | refine WC.exit ?_ | refine WC.ret ?_ | refine WQ.then rfl ?_ | refine WQ.thenExit ?_ | refine WQ.thenRet ?_ | refine WQ.blk ?_ | refine WQ.blkRet ?_ | refine WQ.blkHere rfl ?_ | refine WQ.blkOther rfl ?_)
  refine WC.drawn 14 (fun wx => wx.heap = w.heap) fun w1 hd => ?_
  have hS : w1.heap = w.heap := hd.heap
  have hps := hps.step (hps.mem.below (hd.below _)) hps.no (Keep.ofDrew hd _) fun x hx => .inl hx
  replace vb := vb.below (hd.below _) vb.lt
  replace va := va.below (hd.below _) va.lt
  replace vc := vc.below (hd.below _) vc.lt
  replace hh := hh.below (hd.below _) hh.lt
  clear hd
  (((first | refine WD.free 0 rfl (by kernel_rfl) rfl rfl (fun _ _ _ _ _ h => h) rfl rfl (.inr hS) ?_ | refine WD.skip 0 rfl (by kernel_rfl) rfl rfl (fun _ _ _ _ _ h => h) rfl (.inr hS) ?_); try (first | ((with_reducible refine WD.topT ?_ ?_); omega) | ((with_reducible refine WD.topF ?_ ?_); omega) | ((with_reducible refine WD.top64 ?_ ?_); omega))); ((first | refine WD.free 1 rfl (by kernel_rfl) rfl rfl (fun _ _ _ _ _ h => h) rfl rfl (.inr hS) ?_ | refine WD.skip 1 rfl (by kernel_rfl) rfl rfl (fun _ _ _ _ _ h => h) rfl (.inr hS) ?_); try (first | ((with_reducible refine WD.topT ?_ ?_); omega) | ((with_reducible refine WD.topF ?_ ?_); omega) | ((with_reducible refine WD.top64 ?_ ?_); omega))); ((first | refine WD.free 2 rfl (by kernel_rfl) rfl rfl (fun _ _ _ _ _ h => h) rfl rfl (.inr hS) ?_ | refine WD.skip 2 rfl (by kernel_rfl) rfl rfl (fun _ _ _ _ _ h => h) rfl (.inr hS) ?_); try (first | ((with_reducible refine WD.topT ?_ ?_); omega) | ((with_reducible refine WD.topF ?_ ?_); omega) | ((with_reducible refine WD.top64 ?_ ?_); omega))); ((first | refine WD.free 3 rfl (by kernel_rfl) rfl rfl (fun _ _ _ _ _ h => h) rfl rfl (.inr hS) ?_ | refine WD.skip 3 rfl (by kernel_rfl) rfl rfl (fun _ _ _ _ _ h => h) rfl (.inr hS) ?_); try (first | ((with_reducible refine WD.topT ?_ ?_); omega) | ((with_reducible refine WD.topF ?_ ?_); omega) | ((with_reducible refine WD.top64 ?_ ?_); omega))))
  refine WD.idxA 4 p.length (18 + p.length) rfl (by kernel_rfl) rfl rfl (fun _ _ _ _ _ h => h) rfl rfl rfl rfl rfl rfl (by omega) (by omega) (.inr hS) ?_
  refine WD.load 5 [13, 14] rfl (by kernel_rfl) rfl rfl (fun _ _ _ _ _ h => h) rfl rfl rfl rfl (fun wx hx => (heap_cell hx _).trans hka) hS ?_
  (((first | refine WD.free 6 rfl (by kernel_rfl) rfl rfl (fun _ _ _ _ _ h => h) rfl rfl (.inr hS) ?_ | refine WD.skip 6 rfl (by kernel_rfl) rfl rfl (fun _ _ _ _ _ h => h) rfl (.inr hS) ?_); try (first | ((with_reducible refine WD.topT ?_ ?_); omega) | ((with_reducible refine WD.topF ?_ ?_); omega) | ((with_reducible refine WD.top64 ?_ ?_); omega))); ((first | refine WD.free 7 rfl (by kernel_rfl) rfl rfl (fun _ _ _ _ _ h => h) rfl rfl (.inr hS) ?_ | refine WD.skip 7 rfl (by kernel_rfl) rfl rfl (fun _ _ _ _ _ h => h) rfl (.inr hS) ?_); try (first | ((with_reducible refine WD.topT ?_ ?_); omega) | ((with_reducible refine WD.topF ?_ ?_); omega) | ((with_reducible refine WD.top64 ?_ ?_); omega))); ((first | refine WD.free 8 rfl (by kernel_rfl) rfl rfl (fun _ _ _ _ _ h => h) rfl rfl (.inr hS) ?_ | refine WD.skip 8 rfl (by kernel_rfl) rfl rfl (fun _ _ _ _ _ h => h) rfl (.inr hS) ?_); try (first | ((with_reducible refine WD.topT ?_ ?_); omega) | ((with_reducible refine WD.topF ?_ ?_); omega) | ((with_reducible refine WD.top64 ?_ ?_); omega))); ((first | refine WD.free 9 rfl (by kernel_rfl) rfl rfl (fun _ _ _ _ _ h => h) rfl rfl (.inr hS) ?_ | refine WD.skip 9 rfl (by kernel_rfl) rfl rfl (fun _ _ _ _ _ h => h) rfl (.inr hS) ?_); try (first | ((with_reducible refine WD.topT ?_ ?_); omega) | ((with_reducible refine WD.topF ?_ ?_); omega) | ((with_reducible refine WD.top64 ?_ ?_); omega))); ((first | refine WD.free 10 rfl (by kernel_rfl) rfl rfl (fun _ _ _ _ _ h => h) rfl rfl (.inr hS) ?_ | refine WD.skip 10 rfl (by kernel_rfl) rfl rfl (fun _ _ _ _ _ h => h) rfl (.inr hS) ?_); try (first | ((with_reducible refine WD.topT ?_ ?_); omega) | ((with_reducible refine WD.topF ?_ ?_); omega) | ((with_reducible refine WD.top64 ?_ ?_); omega))))
  refine WD.idxA 11 (p.length + 1) (18 + (p.length + 1)) rfl (by kernel_rfl) rfl rfl (fun _ _ _ _ _ h => h) rfl rfl rfl rfl rfl rfl (by omega) (by omega) (.inr hS) ?_
  refine WD.load 12 [14] rfl (by kernel_rfl) rfl rfl (fun _ _ _ _ _ h => h) rfl rfl rfl rfl (fun wx hx => (heap_cell hx _).trans hkc) hS ?_
  (((first | refine WD.free 13 rfl (by kernel_rfl) rfl rfl (fun _ _ _ _ _ h => h) rfl rfl (.inr hS) ?_ | refine WD.skip 13 rfl (by kernel_rfl) rfl rfl (fun _ _ _ _ _ h => h) rfl (.inr hS) ?_); try (first | ((with_reducible refine WD.topT ?_ ?_); omega) | ((with_reducible refine WD.topF ?_ ?_); omega) | ((with_reducible refine WD.top64 ?_ ?_); omega))))
  refine WD.one 14 (by kernel_rfl) rfl ?_
  refine WL.pure rfl rfl rfl rfl ?_
  refine WL.nil (WQ.dk (.inl rfl) ?_)
  refine WD.done (by kernel_rfl) ?_
  clear hS hka hkc
  have hca := cntR va hla
  have hcc := cntR vc hlc
  repeat (first | refine WC.seq ?_ | refine WC.block ?_ | refine WC.region ?_ | refine WL.nil ?_ | refine WC.skip ?_ | refine WC.exit ?_ | refine WC.ret ?_ | refine WQ.then rfl ?_ | refine WQ.thenExit ?_ | refine WQ.thenRet ?_ | refine WQ.blk ?_ | refine WQ.blkRet ?_ | refine WQ.blkHere rfl ?_ | refine WQ.blkOther rfl ?_)
  refine WC.drawn 8 (fun wx => wx.heap = w1.heap) fun w2 hd => ?_
  have hS : w2.heap = w1.heap := hd.heap
  have hps := hps.step (hps.mem.below (hd.below _)) hps.no (Keep.ofDrew hd _) fun x hx => .inl hx
  replace vb := vb.below (hd.below _) vb.lt
  replace va := va.below (hd.below _) va.lt
  replace vc := vc.below (hd.below _) vc.lt
  replace hh := hh.below (hd.below _) hh.lt
  clear hd
  (((first | refine WD.free 0 rfl (by kernel_rfl) rfl rfl (fun _ _ _ _ _ h => h) rfl rfl (.inr hS) ?_ | refine WD.skip 0 rfl (by kernel_rfl) rfl rfl (fun _ _ _ _ _ h => h) rfl (.inr hS) ?_); try (first | ((with_reducible refine WD.topT ?_ ?_); omega) | ((with_reducible refine WD.topF ?_ ?_); omega) | ((with_reducible refine WD.top64 ?_ ?_); omega))); ((first | refine WD.free 1 rfl (by kernel_rfl) rfl rfl (fun _ _ _ _ _ h => h) rfl rfl (.inr hS) ?_ | refine WD.skip 1 rfl (by kernel_rfl) rfl rfl (fun _ _ _ _ _ h => h) rfl (.inr hS) ?_); try (first | ((with_reducible refine WD.topT ?_ ?_); omega) | ((with_reducible refine WD.topF ?_ ?_); omega) | ((with_reducible refine WD.top64 ?_ ?_); omega))); ((first | refine WD.free 2 rfl (by kernel_rfl) rfl rfl (fun _ _ _ _ _ h => h) rfl rfl (.inr hS) ?_ | refine WD.skip 2 rfl (by kernel_rfl) rfl rfl (fun _ _ _ _ _ h => h) rfl (.inr hS) ?_); try (first | ((with_reducible refine WD.topT ?_ ?_); omega) | ((with_reducible refine WD.topF ?_ ?_); omega) | ((with_reducible refine WD.top64 ?_ ?_); omega))))
  refine WD.load 3 [8, 9] rfl (by kernel_rfl) rfl rfl (fun _ _ _ _ _ h => h) rfl rfl rfl rfl (fun wx hx => (heap_cell hx _).trans hca) hS ?_
  (((first | refine WD.free 4 rfl (by kernel_rfl) rfl rfl (fun _ _ _ _ _ h => h) rfl rfl (.inr hS) ?_ | refine WD.skip 4 rfl (by kernel_rfl) rfl rfl (fun _ _ _ _ _ h => h) rfl (.inr hS) ?_); try (first | ((with_reducible refine WD.topT ?_ ?_); omega) | ((with_reducible refine WD.topF ?_ ?_); omega) | ((with_reducible refine WD.top64 ?_ ?_); omega))); ((first | refine WD.free 5 rfl (by kernel_rfl) rfl rfl (fun _ _ _ _ _ h => h) rfl rfl (.inr hS) ?_ | refine WD.skip 5 rfl (by kernel_rfl) rfl rfl (fun _ _ _ _ _ h => h) rfl (.inr hS) ?_); try (first | ((with_reducible refine WD.topT ?_ ?_); omega) | ((with_reducible refine WD.topF ?_ ?_); omega) | ((with_reducible refine WD.top64 ?_ ?_); omega))); ((first | refine WD.free 6 rfl (by kernel_rfl) rfl rfl (fun _ _ _ _ _ h => h) rfl rfl (.inr hS) ?_ | refine WD.skip 6 rfl (by kernel_rfl) rfl rfl (fun _ _ _ _ _ h => h) rfl (.inr hS) ?_); try (first | ((with_reducible refine WD.topT ?_ ?_); omega) | ((with_reducible refine WD.topF ?_ ?_); omega) | ((with_reducible refine WD.top64 ?_ ?_); omega))))
  refine WD.load 7 [8, 9] rfl (by kernel_rfl) rfl rfl (fun _ _ _ _ _ h => h) rfl rfl rfl rfl (fun wx hx => (heap_cell hx _).trans hcc) hS ?_
  refine WD.one 8 (by kernel_rfl) rfl ?_
  (refine WL.pure rfl rfl rfl rfl ?_; try (first | ((with_reducible refine WL.topT ?_ ?_); omega) | ((with_reducible refine WL.topF ?_ ?_); omega) | ((with_reducible refine WL.top64 ?_ ?_); omega)))
  refine WL.nil (WQ.dk (.inl rfl) ?_)
  clear hS hca hcc
  -- what is left to say
  have fin : ∀ {wz : World} {stz : St} {t' : Tr (d + 1)}, PS w st tb wz stz → CutR st stz (d + 1) (mkS b (p ++ a :: c :: q)) t' nx → (∀ x, stz x ≠ none → st x ≠ none) →
      ((A + C ≤ 8 ∧ t' = mkS b (p ++ jn d a c :: q) ∧ VBlk treeT wz tb (trC root size m)) ∨ (8 < A + C ∧ ∃ j, 4 ≤ j ∧ j ≤ 8 ∧ j + 4 ≤ A + C ∧ A + C ≤ j + 8 ∧ t' = mkS b (p ++ (rd j d a c).1 :: (rd j d a c).2 :: q) ∧ VBlk treeT wz tb (trC root size (m + 1)))) →
      ∃ st' t', CutR st st' (d + 1) (mkS b (p ++ a :: c :: q)) t' nx ∧ PS w st tb wz st' ∧ (∀ x, st' x ≠ none → st x ≠ none) ∧
      ((cnt d a + cnt d c ≤ 8 ∧ t' = mkS b (p ++ jn d a c :: q) ∧ VBlk treeT wz tb (trC root size m)) ∨ (8 < cnt d a + cnt d c ∧ ∃ j, 4 ≤ j ∧ j ≤ 8 ∧ j + 4 ≤ cnt d a + cnt d c ∧ cnt d a + cnt d c ≤ j + 8 ∧ t' = mkS b (p ++ (rd j d a c).1 :: (rd j d a c).2 :: q) ∧ VBlk treeT wz tb (trC root size (m + 1)))) := fun h1 h2 h3 h4 => ⟨_, _, h2, h1, h3, by rw [hA, hC]; exact h4⟩
  by_cases hsum : A + C ≤ 8
  · (((first | refine WD.free 9 rfl (by kernel_rfl) rfl rfl (fun _ _ _ _ _ h => h) rfl rfl (.inl rfl) ?_ | refine WD.skip 9 rfl (by kernel_rfl) rfl rfl (fun _ _ _ _ _ h => h) rfl (.inl rfl) ?_); try (first | ((with_reducible refine WD.topT ?_ ?_); omega) | ((with_reducible refine WD.topF ?_ ?_); omega) | ((with_reducible refine WD.top64 ?_ ?_); omega))))
    refine WD.done (by kernel_rfl) ?_
    repeat (first | ((with_reducible refine WL.topT ?_ ?_); omega) | ((with_reducible refine WL.topF ?_ ?_); omega) | ((with_reducible refine WL.top64 ?_ ?_); omega) | refine WC.seq ?_ | refine WC.block ?_ | refine WC.region ?_ | refine WL.nil ?_ | refine WC.skip ?_ | refine WC.exit ?_ | refine WC.ret ?_ | refine WQ.then rfl ?_ | refine WQ.thenExit ?_ | refine WQ.thenRet ?_ | refine WQ.blk ?_ | refine WQ.blkRet ?_ | refine WQ.blkHere rfl ?_ | refine WQ.blkOther rfl ?_ | refine WL.pure rfl rfl rfl rfl ?_ | refine WL.on rfl rfl ?_ | refine WL.off rfl rfl rfl ?_ | refine WC.condTrue rfl ?_ | refine WC.condFalse rfl ?_)
    refine WL.call rfl rfl rfl rfl rfl Try.func37 rfl (by kernel_rfl) (moves_any (f := 0) vc va hac.symm (Nat.zero_le _) (by show (ents d c).length ≤ 8; omega) (by show (ents d a).length + ((ents d c).length - 0) ≤ 8; omega)) ?_
    rintro _ w3 ⟨rfl, hk3, vc3, va3⟩
    refine ⟨_, rfl, ?_⟩
    simp only [List.take_zero, List.drop_zero] at vc3 va3
    have hps3 := hps.node2 (b := blk d c) (c := blk d a) (by rw [hsc]; simp) (by rw [hsa]; simp) hk3 (by simp) (by show (ents d a ++ ents d c).length ≤ 8; rw [List.length_append]; omega) vc3 va3
    have vb3 := vb.keep hk3 ⟨hbc, hba⟩
    have hh3 := hh.keep hk3 ⟨htc, hta⟩
    clear hps vb va vc hh hk3
    have hla3 : w3.cell? ⟨blk d a, 0, none⟩ = some (.bool (d == 0)) := cellR va3 (by omega)
    have join : ∀ {stz : St}, (∀ nxc, st (blk d c) = some ⟨d == 0, ents d c, nxc⟩ → stz (blk d a) = some ⟨d == 0, ents d a ++ ents d c, nxc⟩) → stz b = some ⟨false, (p ++ jn d a c :: q).map (kidE d), none⟩ → (∀ x, x ≠ b → x ≠ blk d a → x ≠ blk d c → stz x = st x) → CutR st stz (d + 1) (mkS b (p ++ a :: c :: q)) (mkS b (p ++ jn d a c :: q)) nx := fun h1 h2 h3 => CutR.join hat h1 h2 h3
    have hera := kids_era p q a c (jn d a c) (kidE_jn hma (by omega))
    repeat (first | ((with_reducible refine WL.topT ?_ ?_); omega) | ((with_reducible refine WL.topF ?_ ?_); omega) | ((with_reducible refine WL.top64 ?_ ?_); omega) | refine WC.seq ?_ | refine WC.block ?_ | refine WC.region ?_ | refine WL.nil ?_ | refine WC.skip ?_ | refine WC.exit ?_ | refine WC.ret ?_ | refine WQ.then rfl ?_ | refine WQ.thenExit ?_ | refine WQ.thenRet ?_ | refine WQ.blk ?_ | refine WQ.blkRet ?_ | refine WQ.blkHere rfl ?_ | refine WQ.blkOther rfl ?_ | refine WL.pure rfl rfl rfl rfl ?_ | refine WL.on rfl rfl ?_ | refine WL.off rfl rfl rfl ?_ | refine WL.load rfl rfl rfl rfl rfl rfl (by assumption) ?_ | refine WC.condTrue rfl ?_ | refine WC.condFalse rfl ?_)
    refine WC.mid (fun _ : Unit => [(0, .pointer (some ⟨tb, 0, none⟩)), (1, .pointer (some ⟨b, 0, none⟩)), (2, .int .i64 p.length)]) (fun _ w' => ∃ stz, PS w st tb w' stz ∧ (∀ nxc, st (blk d c) = some ⟨d == 0, ents d c, nxc⟩ → stz (blk d a) = some ⟨d == 0, ents d a ++ ents d c, nxc⟩) ∧ (∀ x, x ≠ blk d a → x ≠ blk d c → stz x = st x) ∧ (∀ x, stz x ≠ none → st x ≠ none) ∧ VBlk treeT w' tb (trC root size (m + 1))) rfl ?_ ?_
    · have hd3 : ∀ (v : Option Nat) x, upd (upd st (blk d c) ⟨d == 0, [], nxc⟩) (blk d a) ⟨d == 0, ents d a ++ ents d c, v⟩ x ≠ none → st x ≠ none := fun v x hx => by
        by_cases e : x = blk d a
        · rw [e, hsa]; simp
        · rw [upd_ne e] at hx
          by_cases e2 : x = blk d c
          · rw [e2, hsc]; simp
          · rw [upd_ne e2] at hx; exact hx
      have hr3 : ∀ (v : Option Nat) x, x ≠ blk d a → x ≠ blk d c → upd (upd st (blk d c) ⟨d == 0, [], nxc⟩) (blk d a) ⟨d == 0, ents d a ++ ents d c, v⟩ x = st x := fun v x h1 h2 => by rw [upd_ne h1, upd_ne h2]
      cases d with
      | succ d =>
        refine WC.condFalse rfl ?_
        repeat (first | ((with_reducible refine WL.topT ?_ ?_); omega) | ((with_reducible refine WL.topF ?_ ?_); omega) | ((with_reducible refine WL.top64 ?_ ?_); omega) | refine WC.seq ?_ | refine WC.block ?_ | refine WC.region ?_ | refine WL.nil ?_ | refine WC.skip ?_ | refine WC.exit ?_ | refine WC.ret ?_ | refine WQ.then rfl ?_ | refine WQ.thenExit ?_ | refine WQ.thenRet ?_ | refine WQ.blk ?_ | refine WQ.blkRet ?_ | refine WQ.blkHere rfl ?_ | refine WQ.blkOther rfl ?_ | refine WL.pure rfl rfl rfl rfl ?_ | refine WL.on rfl rfl ?_ | refine WL.off rfl rfl rfl ?_ | refine WC.condTrue rfl ?_ | refine WC.condFalse rfl ?_)
        refine WQ.meet () ⟨rfl, rfl, rfl, trivial⟩ ⟨_, hps3, fun nxc' hx => ?_, hr3 _, hd3 _, hh3⟩
        rw [hsc] at hx
        injection hx with hx; injection hx with _ _ hx
        rw [upd_eq, ← hx, hxa (by omega), hxc (by omega)]
      | zero =>
        have hcn : w3.cell? ⟨blk 0 c, 26, none⟩ = some (ptrV nxc) := cellR vc3 (by omega)
        refine WC.condTrue rfl ?_
        repeat (first | ((with_reducible refine WL.topT ?_ ?_); omega) | ((with_reducible refine WL.topF ?_ ?_); omega) | ((with_reducible refine WL.top64 ?_ ?_); omega) | refine WC.seq ?_ | refine WC.block ?_ | refine WC.region ?_ | refine WL.nil ?_ | refine WC.skip ?_ | refine WC.exit ?_ | refine WC.ret ?_ | refine WQ.then rfl ?_ | refine WQ.thenExit ?_ | refine WQ.thenRet ?_ | refine WQ.blk ?_ | refine WQ.blkRet ?_ | refine WQ.blkHere rfl ?_ | refine WQ.blkOther rfl ?_ | refine WL.pure rfl rfl rfl rfl ?_ | refine WL.on rfl rfl ?_ | refine WL.off rfl rfl rfl ?_ | refine WL.load rfl rfl rfl rfl rfl rfl (by assumption) ?_ | refine WC.condTrue rfl ?_ | refine WC.condFalse rfl ?_)
        refine WL.store rfl rfl rfl rfl rfl (ptrV_one _) (by kernel_rfl) (cellR va3 (by omega)) (va3.free 26) ?_
        have va4 := setR va3 26 (ptrV nxc)
        rw [row_next] at va4
        have k4 : Keep (fun x => x ≠ blk 0 a) w3 (w3.setCell ⟨blk 0 a, 26, none⟩ (ptrV nxc)) := (Keep.refl _ _).setCell (fun hk => hk rfl) _
        have hps4 := hps3.node (b := blk 0 a) (by rw [upd_eq]; simp) k4 (by show (ents 0 a ++ ents 0 c).length ≤ 8; rw [List.length_append]; omega) va4
        rw [upd_upd] at hps4
        have hh4 := hh3.keep k4 hta
        generalize w3.setCell ⟨blk 0 a, 26, none⟩ (ptrV nxc) = w4 at va4 k4 hps4 hh4 ⊢
        clear hcn va3 hps3 hh3 hla3 k4
        have han : w4.cell? ⟨blk 0 a, 26, none⟩ = some (ptrV nxc) := cellR va4 (by omega)
        have hok : ∀ nxc', st (blk 0 c) = some ⟨(0 : Nat) == 0, ents 0 c, nxc'⟩ → upd (upd st (blk 0 c) ⟨(0 : Nat) == 0, [], nxc⟩) (blk 0 a) ⟨(0 : Nat) == 0, ents 0 a ++ ents 0 c, nxc⟩ (blk 0 a) = some ⟨(0 : Nat) == 0, ents 0 a ++ ents 0 c, nxc'⟩ := fun nxc' hx => by
          rw [hsc] at hx
          injection hx with hx; injection hx with _ _ hx
          rw [upd_eq, hx]
        have hvq := hval _ hsc
        simp only at hvq
        repeat (first | ((with_reducible refine WL.topT ?_ ?_); omega) | ((with_reducible refine WL.topF ?_ ?_); omega) | ((with_reducible refine WL.top64 ?_ ?_); omega) | refine WC.seq ?_ | refine WC.block ?_ | refine WC.region ?_ | refine WL.nil ?_ | refine WC.skip ?_ | refine WC.exit ?_ | refine WC.ret ?_ | refine WQ.then rfl ?_ | refine WQ.thenExit ?_ | refine WQ.thenRet ?_ | refine WQ.blk ?_ | refine WQ.blkRet ?_ | refine WQ.blkHere rfl ?_ | refine WQ.blkOther rfl ?_ | refine WL.pure rfl rfl rfl rfl ?_ | refine WL.on rfl rfl ?_ | refine WL.off rfl rfl rfl ?_ | refine WL.load rfl rfl rfl rfl rfl rfl (by assumption) ?_ | refine WC.condTrue rfl ?_ | refine WC.condFalse rfl ?_)
        cases nxc with
        | none =>
          refine WL.as 49 (.pointer none) rfl rfl ?_
          refine WL.notNilP rfl rfl rfl rfl rfl rfl (by kernel_rfl) ?_
          repeat (first | ((with_reducible refine WL.topT ?_ ?_); omega) | ((with_reducible refine WL.topF ?_ ?_); omega) | ((with_reducible refine WL.top64 ?_ ?_); omega) | refine WC.seq ?_ | refine WC.block ?_ | refine WC.region ?_ | refine WL.nil ?_ | refine WC.skip ?_ | refine WC.exit ?_ | refine WC.ret ?_ | refine WQ.then rfl ?_ | refine WQ.thenExit ?_ | refine WQ.thenRet ?_ | refine WQ.blk ?_ | refine WQ.blkRet ?_ | refine WQ.blkHere rfl ?_ | refine WQ.blkOther rfl ?_ | refine WL.pure rfl rfl rfl rfl ?_ | refine WL.on rfl rfl ?_ | refine WL.off rfl rfl rfl ?_ | refine WC.condTrue rfl ?_ | refine WC.condFalse rfl ?_)
          exact WQ.meet () ⟨rfl, rfl, rfl, trivial⟩ ⟨_, hps4, hok, hr3 _, hd3 _, hh4⟩
        | some q0 =>
          have hq := hvq q0 rfl
          have hq4 : upd (upd st (blk 0 c) ⟨(0 : Nat) == 0, [], some q0⟩) (blk 0 a) ⟨(0 : Nat) == 0, ents 0 a ++ ents 0 c, some q0⟩ q0 ≠ none := by
            unfold upd
            split
            · simp
            · split
              · simp
              · exact hq
          obtain ⟨ndq, hndq⟩ := Option.ne_none_iff_exists'.1 hq4
          obtain ⟨-, pq, vq⟩ := hps4.mem q0 ndq hndq
          have hqt : tb ≠ q0 := fun e => hq (by rw [← e]; exact hno)
          have han' : w4.cell? ⟨blk 0 a, 26, none⟩ = some (.pointer (some ⟨q0, 0, none⟩)) := han
          clear han
          refine WL.as 49 (.pointer (some ⟨q0, 0, none⟩)) rfl rfl ?_
          refine WL.notNilP rfl rfl rfl rfl rfl rfl (by kernel_rfl) ?_
          repeat (first | ((with_reducible refine WL.topT ?_ ?_); omega) | ((with_reducible refine WL.topF ?_ ?_); omega) | ((with_reducible refine WL.top64 ?_ ?_); omega) | refine WC.seq ?_ | refine WC.block ?_ | refine WC.region ?_ | refine WL.nil ?_ | refine WC.skip ?_ | refine WC.exit ?_ | refine WC.ret ?_ | refine WQ.then rfl ?_ | refine WQ.thenExit ?_ | refine WQ.thenRet ?_ | refine WQ.blk ?_ | refine WQ.blkRet ?_ | refine WQ.blkHere rfl ?_ | refine WQ.blkOther rfl ?_ | refine WL.pure rfl rfl rfl rfl ?_ | refine WL.on rfl rfl ?_ | refine WL.off rfl rfl rfl ?_ | refine WL.load rfl rfl rfl rfl rfl rfl (by assumption) ?_ | refine WC.condTrue rfl ?_ | refine WC.condFalse rfl ?_)
          refine WL.store rfl rfl rfl rfl rfl rfl (by kernel_rfl) (cellR vq (by omega)) (vq.free 27) ?_
          have hps5 := hps4.prev hq4 (some (blk 0 a))
          have hh5 := hh4.keep (Keep.setCell (Keep.refl (fun x => x ≠ q0) w4) (p := ⟨q0, 27, none⟩) (fun hk => hk rfl) (ptrV (some (blk 0 a)))) hqt
          rw [show Value.pointer (some ⟨blk 0 a, 0, none⟩) = ptrV (some (blk 0 a)) from rfl]
          generalize w4.setCell ⟨q0, 27, none⟩ (ptrV (some (blk 0 a))) = w5 at hps5 hh5 ⊢
          repeat (first | ((with_reducible refine WL.topT ?_ ?_); omega) | ((with_reducible refine WL.topF ?_ ?_); omega) | ((with_reducible refine WL.top64 ?_ ?_); omega) | refine WC.seq ?_ | refine WC.block ?_ | refine WC.region ?_ | refine WL.nil ?_ | refine WC.skip ?_ | refine WC.exit ?_ | refine WC.ret ?_ | refine WQ.then rfl ?_ | refine WQ.thenExit ?_ | refine WQ.thenRet ?_ | refine WQ.blk ?_ | refine WQ.blkRet ?_ | refine WQ.blkHere rfl ?_ | refine WQ.blkOther rfl ?_ | refine WL.pure rfl rfl rfl rfl ?_ | refine WL.on rfl rfl ?_ | refine WL.off rfl rfl rfl ?_ | refine WC.condTrue rfl ?_ | refine WC.condFalse rfl ?_)
          exact WQ.meet () ⟨rfl, rfl, rfl, trivial⟩ ⟨_, hps5, hok, hr3 _, hd3 _, hh5⟩
    clear hps3 vc3 va3 vb3 hh3 hla3
    rintro ⟨⟩ w5 ⟨stz, hps5, h1, h2, h3, hh5⟩
    have hbz : stz b = some ⟨false, (p ++ a :: c :: q).map (kidE d), none⟩ := (h2 b hba hbc).trans hb
    obtain ⟨-, pb5, vb5⟩ := hps5.mem _ _ hbz
    repeat (first | ((with_reducible refine WL.topT ?_ ?_); omega) | ((with_reducible refine WL.topF ?_ ?_); omega) | ((with_reducible refine WL.top64 ?_ ?_); omega) | refine WC.seq ?_ | refine WC.block ?_ | refine WC.region ?_ | refine WL.nil ?_ | refine WC.skip ?_ | refine WC.exit ?_ | refine WC.ret ?_ | refine WQ.then rfl ?_ | refine WQ.thenExit ?_ | refine WQ.thenRet ?_ | refine WQ.blk ?_ | refine WQ.blkRet ?_ | refine WQ.blkHere rfl ?_ | refine WQ.blkOther rfl ?_ | refine WL.pure rfl rfl rfl rfl ?_ | refine WL.on rfl rfl ?_ | refine WL.off rfl rfl rfl ?_ | refine WC.condTrue rfl ?_ | refine WC.condFalse rfl ?_)
    refine WL.as 60 (.int .i64 ((p.length + 1 : Nat) : Int)) rfl rfl ?_
    refine WL.call rfl rfl rfl rfl rfl Try.func38 rfl (by kernel_rfl) (ncut_any (i := p.length + 1) vb5 (by show p.length + 1 < ((p ++ a :: c :: q).map (kidE d)).length; rw [hml]; simp) (by show ((p ++ a :: c :: q).map (kidE d)).length ≤ 8; rw [hml]; exact hlen)) ?_
    rintro _ w6 ⟨rfl, hk6, vb6⟩
    refine ⟨_, rfl, ?_⟩
    simp only [hera] at vb6
    have hps6 := hps5.node (b := b) (by rw [hbz]; simp) hk6 (by show ((p ++ jn d a c :: q).map (kidE d)).length ≤ 8; rw [hml]; simp only [List.length_append, List.length_cons] at hlen ⊢; omega) vb6
    have hh6 := hh5.keep hk6 htb
    have hc6 : w6.cell? ⟨tb, 2, none⟩ = some (.int .i64 ((m + 1 : Nat) : Int)) := hh6.cell 2 (by simp [trC])
    have hcut := join (stz := upd stz b ⟨false, (p ++ jn d a c :: q).map (kidE d), none⟩) (fun nxc' hx => by rw [upd_ne hba.symm]; exact h1 nxc' hx) (upd_eq _ _ _) (fun x hx1 hx2 hx3 => by rw [upd_ne hx1]; exact h2 x hx2 hx3)
    repeat (first | ((with_reducible refine WL.topT ?_ ?_); omega) | ((with_reducible refine WL.topF ?_ ?_); omega) | ((with_reducible refine WL.top64 ?_ ?_); omega) | refine WC.seq ?_ | refine WC.block ?_ | refine WC.region ?_ | refine WL.nil ?_ | refine WC.skip ?_ | refine WC.exit ?_ | refine WC.ret ?_ | refine WQ.then rfl ?_ | refine WQ.thenExit ?_ | refine WQ.thenRet ?_ | refine WQ.blk ?_ | refine WQ.blkRet ?_ | refine WQ.blkHere rfl ?_ | refine WQ.blkOther rfl ?_ | refine WL.pure rfl rfl rfl rfl ?_ | refine WL.on rfl rfl ?_ | refine WL.off rfl rfl rfl ?_ | refine WL.load rfl rfl rfl rfl rfl rfl (by assumption) ?_ | refine WC.condTrue rfl ?_ | refine WC.condFalse rfl ?_)
    refine WL.store rfl rfl rfl rfl rfl rfl (by kernel_rfl) hc6 (hh6.free 2) ?_
    have hh7 : VBlk treeT (w6.setCell ⟨tb, 2, none⟩ (.int .i64 (((m + 1 : Nat) : Int) - 1))) tb (trC root size m) := by
      have := hh6.set 2 (.int .i64 (((m + 1 : Nat) : Int) - 1))
      rw [show (((m + 1 : Nat) : Int) - 1) = (m : Int) by omega] at this ⊢
      exact this
    have hps7 := hps6.hdr 2 (.int .i64 (((m + 1 : Nat) : Int) - 1))
    generalize w6.setCell ⟨tb, 2, none⟩ (.int .i64 (((m + 1 : Nat) : Int) - 1)) = w7 at hps7 hh7 ⊢
    repeat (first | ((with_reducible refine WL.topT ?_ ?_); omega) | ((with_reducible refine WL.topF ?_ ?_); omega) | ((with_reducible refine WL.top64 ?_ ?_); omega) | refine WC.seq ?_ | refine WC.block ?_ | refine WC.region ?_ | refine WL.nil ?_ | refine WC.skip ?_ | refine WC.exit ?_ | refine WC.ret ?_ | refine WQ.then rfl ?_ | refine WQ.thenExit ?_ | refine WQ.thenRet ?_ | refine WQ.blk ?_ | refine WQ.blkRet ?_ | refine WQ.blkHere rfl ?_ | refine WQ.blkOther rfl ?_ | refine WL.pure rfl rfl rfl rfl ?_ | refine WL.on rfl rfl ?_ | refine WL.off rfl rfl rfl ?_ | refine WC.condTrue rfl ?_ | refine WC.condFalse rfl ?_)
    refine WQ.ret0 rfl ⟨rfl, fin hps7 hcut (fun x hx => ?_) (.inl ⟨hsum, rfl, hh7⟩)⟩
    by_cases e : x = b
    · rw [e, hb]; simp
    · rw [upd_ne e] at hx; exact h3 x hx
  · (((first | refine WD.free 9 rfl (by kernel_rfl) rfl rfl (fun _ _ _ _ _ h => h) rfl rfl (.inl rfl) ?_ | refine WD.skip 9 rfl (by kernel_rfl) rfl rfl (fun _ _ _ _ _ h => h) rfl (.inl rfl) ?_); try (first | ((with_reducible refine WD.topT ?_ ?_); omega) | ((with_reducible refine WD.topF ?_ ?_); omega) | ((with_reducible refine WD.top64 ?_ ?_); omega))))
    refine WD.done (by kernel_rfl) ?_
    have hca := cntR va hla
    have hcc := cntR vc hlc
    repeat (first | ((with_reducible refine WL.topT ?_ ?_); omega) | ((with_reducible refine WL.topF ?_ ?_); omega) | ((with_reducible refine WL.top64 ?_ ?_); omega) | refine WC.seq ?_ | refine WC.block ?_ | refine WC.region ?_ | refine WL.nil ?_ | refine WC.skip ?_ | refine WC.exit ?_ | refine WC.ret ?_ | refine WQ.then rfl ?_ | refine WQ.thenExit ?_ | refine WQ.thenRet ?_ | refine WQ.blk ?_ | refine WQ.blkRet ?_ | refine WQ.blkHere rfl ?_ | refine WQ.blkOther rfl ?_ | refine WL.pure rfl rfl rfl rfl ?_ | refine WL.on rfl rfl ?_ | refine WL.off rfl rfl rfl ?_ | refine WC.condTrue rfl ?_ | refine WC.condFalse rfl ?_)
    refine WC.drawn 8 (fun wx => wx.heap = w2.heap) fun w3 hd => ?_
    have hS : w3.heap = w2.heap := hd.heap
    have hps := hps.step (hps.mem.below (hd.below _)) hps.no (Keep.ofDrew hd _) fun x hx => .inl hx
    replace vb := vb.below (hd.below _) vb.lt
    replace va := va.below (hd.below _) va.lt
    replace vc := vc.below (hd.below _) vc.lt
    replace hh := hh.below (hd.below _) hh.lt
    clear hd
    (((first | refine WD.free 0 rfl (by kernel_rfl) rfl rfl (fun _ _ _ _ _ h => h) rfl rfl (.inr hS) ?_ | refine WD.skip 0 rfl (by kernel_rfl) rfl rfl (fun _ _ _ _ _ h => h) rfl (.inr hS) ?_); try (first | ((with_reducible refine WD.topT ?_ ?_); omega) | ((with_reducible refine WD.topF ?_ ?_); omega) | ((with_reducible refine WD.top64 ?_ ?_); omega))); ((first | refine WD.free 1 rfl (by kernel_rfl) rfl rfl (fun _ _ _ _ _ h => h) rfl rfl (.inr hS) ?_ | refine WD.skip 1 rfl (by kernel_rfl) rfl rfl (fun _ _ _ _ _ h => h) rfl (.inr hS) ?_); try (first | ((with_reducible refine WD.topT ?_ ?_); omega) | ((with_reducible refine WD.topF ?_ ?_); omega) | ((with_reducible refine WD.top64 ?_ ?_); omega))); ((first | refine WD.free 2 rfl (by kernel_rfl) rfl rfl (fun _ _ _ _ _ h => h) rfl rfl (.inr hS) ?_ | refine WD.skip 2 rfl (by kernel_rfl) rfl rfl (fun _ _ _ _ _ h => h) rfl (.inr hS) ?_); try (first | ((with_reducible refine WD.topT ?_ ?_); omega) | ((with_reducible refine WD.topF ?_ ?_); omega) | ((with_reducible refine WD.top64 ?_ ?_); omega))))
    refine WD.load 3 [8] rfl (by kernel_rfl) rfl rfl (fun _ _ _ _ _ h => h) rfl rfl rfl rfl (fun wx hx => (heap_cell hx _).trans hca) hS ?_
    (((first | refine WD.free 4 rfl (by kernel_rfl) rfl rfl (fun _ _ _ _ _ h => h) rfl rfl (.inr hS) ?_ | refine WD.skip 4 rfl (by kernel_rfl) rfl rfl (fun _ _ _ _ _ h => h) rfl (.inr hS) ?_); try (first | ((with_reducible refine WD.topT ?_ ?_); omega) | ((with_reducible refine WD.topF ?_ ?_); omega) | ((with_reducible refine WD.top64 ?_ ?_); omega))); ((first | refine WD.free 5 rfl (by kernel_rfl) rfl rfl (fun _ _ _ _ _ h => h) rfl rfl (.inr hS) ?_ | refine WD.skip 5 rfl (by kernel_rfl) rfl rfl (fun _ _ _ _ _ h => h) rfl (.inr hS) ?_); try (first | ((with_reducible refine WD.topT ?_ ?_); omega) | ((with_reducible refine WD.topF ?_ ?_); omega) | ((with_reducible refine WD.top64 ?_ ?_); omega))); ((first | refine WD.free 6 rfl (by kernel_rfl) rfl rfl (fun _ _ _ _ _ h => h) rfl rfl (.inr hS) ?_ | refine WD.skip 6 rfl (by kernel_rfl) rfl rfl (fun _ _ _ _ _ h => h) rfl (.inr hS) ?_); try (first | ((with_reducible refine WD.topT ?_ ?_); omega) | ((with_reducible refine WD.topF ?_ ?_); omega) | ((with_reducible refine WD.top64 ?_ ?_); omega))))
    refine WD.load 7 [8] rfl (by kernel_rfl) rfl rfl (fun _ _ _ _ _ h => h) rfl rfl rfl rfl (fun wx hx => (heap_cell hx _).trans hcc) hS ?_
    refine WD.one 8 (by kernel_rfl) rfl ?_
    refine WL.pure rfl rfl rfl rfl ?_
    refine WL.nil (WQ.dk (.inl rfl) ?_)
    refine WD.done (by kernel_rfl) ?_
    clear hS hca hcc
    repeat (first | refine WC.seq ?_ | refine WC.block ?_ | refine WC.region ?_ | refine WL.nil ?_ | refine WC.skip ?_ | refine WC.exit ?_ | refine WC.ret ?_ | refine WQ.then rfl ?_ | refine WQ.thenExit ?_ | refine WQ.thenRet ?_ | refine WQ.blk ?_ | refine WQ.blkRet ?_ | refine WQ.blkHere rfl ?_ | refine WQ.blkOther rfl ?_)
    refine WC.mid (fun _ : Unit => [(0, .pointer (some ⟨tb, 0, none⟩)), (1, .pointer (some ⟨b, 0, none⟩)), (2, .int .i64 p.length), (7, .pointer (some ⟨blk d c, 0, none⟩))])
      (fun _ w' => ∃ j, 4 ≤ j ∧ j ≤ 8 ∧ j + 4 ≤ A + C ∧ A + C ≤ j + 8 ∧ PS w st tb w' (upd (upd st (blk d a) ⟨d == 0, (ents d a ++ ents d c).take j, nxa⟩) (blk d c) ⟨d == 0, (ents d a ++ ents d c).drop j, nxc⟩) ∧ VBlk treeT w' tb (trC root size (m + 1))) rfl ?_ ?_
    · by_cases hlt : A < C
      · refine WC.condT rfl (by omega) ?_
        obtain ⟨e1, e2⟩ := sh1 (ents d a) (ents d c) hla (by omega)
        have q0 := cntR va hla
        have q1 := keyR vc (i := 0) (by omega)
        have q2 := numR vc (i := 0) (by omega)
        have q3 : w3.cell? ⟨blk d c, 18, none⟩ = some (ptrV ((ents d c).getD 0 noE).kid) := by rw [cellR vc (j := 18) (by omega), ndF_kid _ _ (i := 0) (by omega)]
        repeat (first | ((with_reducible refine WL.topT ?_ ?_); omega) | ((with_reducible refine WL.topF ?_ ?_); omega) | ((with_reducible refine WL.top64 ?_ ?_); omega) | refine WC.seq ?_ | refine WC.block ?_ | refine WC.region ?_ | refine WL.nil ?_ | refine WC.skip ?_ | refine WC.exit ?_ | refine WC.ret ?_ | refine WQ.then rfl ?_ | refine WQ.thenExit ?_ | refine WQ.thenRet ?_ | refine WQ.blk ?_ | refine WQ.blkRet ?_ | refine WQ.blkHere rfl ?_ | refine WQ.blkOther rfl ?_ | refine WL.pure rfl rfl rfl rfl ?_ | refine WL.on rfl rfl ?_ | refine WL.off rfl rfl rfl ?_ | refine WC.condTrue rfl ?_ | refine WC.condFalse rfl ?_)
        refine WC.drawn 20 (fun wx => wx.heap = w3.heap) fun w4 hd => ?_
        have hS : w4.heap = w3.heap := hd.heap
        have hps := hps.step (hps.mem.below (hd.below _)) hps.no (Keep.ofDrew hd _) fun x hx => .inl hx
        replace va := va.below (hd.below _) va.lt
        replace vc := vc.below (hd.below _) vc.lt
        replace hh := hh.below (hd.below _) hh.lt
        clear hd
        (((first | refine WD.free 0 rfl (by kernel_rfl) rfl rfl (fun _ _ _ _ _ h => h) rfl rfl (.inr hS) ?_ | refine WD.skip 0 rfl (by kernel_rfl) rfl rfl (fun _ _ _ _ _ h => h) rfl (.inr hS) ?_); try (first | ((with_reducible refine WD.topT ?_ ?_); omega) | ((with_reducible refine WD.topF ?_ ?_); omega) | ((with_reducible refine WD.top64 ?_ ?_); omega))); ((first | refine WD.free 1 rfl (by kernel_rfl) rfl rfl (fun _ _ _ _ _ h => h) rfl rfl (.inr hS) ?_ | refine WD.skip 1 rfl (by kernel_rfl) rfl rfl (fun _ _ _ _ _ h => h) rfl (.inr hS) ?_); try (first | ((with_reducible refine WD.topT ?_ ?_); omega) | ((with_reducible refine WD.topF ?_ ?_); omega) | ((with_reducible refine WD.top64 ?_ ?_); omega))); ((first | refine WD.free 2 rfl (by kernel_rfl) rfl rfl (fun _ _ _ _ _ h => h) rfl rfl (.inr hS) ?_ | refine WD.skip 2 rfl (by kernel_rfl) rfl rfl (fun _ _ _ _ _ h => h) rfl (.inr hS) ?_); try (first | ((with_reducible refine WD.topT ?_ ?_); omega) | ((with_reducible refine WD.topF ?_ ?_); omega) | ((with_reducible refine WD.top64 ?_ ?_); omega))); ((first | refine WD.free 3 rfl (by kernel_rfl) rfl rfl (fun _ _ _ _ _ h => h) rfl rfl (.inr hS) ?_ | refine WD.skip 3 rfl (by kernel_rfl) rfl rfl (fun _ _ _ _ _ h => h) rfl (.inr hS) ?_); try (first | ((with_reducible refine WD.topT ?_ ?_); omega) | ((with_reducible refine WD.topF ?_ ?_); omega) | ((with_reducible refine WD.top64 ?_ ?_); omega))))
        refine WD.load 4 [20] rfl (by kernel_rfl) rfl rfl (fun _ _ _ _ _ h => h) rfl rfl rfl rfl (fun wx hx => (heap_cell hx _).trans q0) hS ?_
        (((first | refine WD.free 5 rfl (by kernel_rfl) rfl rfl (fun _ _ _ _ _ h => h) rfl rfl (.inr hS) ?_ | refine WD.skip 5 rfl (by kernel_rfl) rfl rfl (fun _ _ _ _ _ h => h) rfl (.inr hS) ?_); try (first | ((with_reducible refine WD.topT ?_ ?_); omega) | ((with_reducible refine WD.topF ?_ ?_); omega) | ((with_reducible refine WD.top64 ?_ ?_); omega))); ((first | refine WD.free 6 rfl (by kernel_rfl) rfl rfl (fun _ _ _ _ _ h => h) rfl rfl (.inr hS) ?_ | refine WD.skip 6 rfl (by kernel_rfl) rfl rfl (fun _ _ _ _ _ h => h) rfl (.inr hS) ?_); try (first | ((with_reducible refine WD.topT ?_ ?_); omega) | ((with_reducible refine WD.topF ?_ ?_); omega) | ((with_reducible refine WD.top64 ?_ ?_); omega))); ((first | refine WD.free 7 rfl (by kernel_rfl) rfl rfl (fun _ _ _ _ _ h => h) rfl rfl (.inr hS) ?_ | refine WD.skip 7 rfl (by kernel_rfl) rfl rfl (fun _ _ _ _ _ h => h) rfl (.inr hS) ?_); try (first | ((with_reducible refine WD.topT ?_ ?_); omega) | ((with_reducible refine WD.topF ?_ ?_); omega) | ((with_reducible refine WD.top64 ?_ ?_); omega))))
        refine WD.idxA 8 0 2 rfl (by kernel_rfl) rfl rfl (fun _ _ _ _ _ h => h) rfl rfl rfl rfl rfl rfl (by omega) (by omega) (.inr hS) ?_
        refine WD.load 9 [20] rfl (by kernel_rfl) rfl rfl (fun _ _ _ _ _ h => h) rfl rfl rfl rfl (fun wx hx => (heap_cell hx _).trans q1) hS ?_
        (((first | refine WD.free 10 rfl (by kernel_rfl) rfl rfl (fun _ _ _ _ _ h => h) rfl rfl (.inr hS) ?_ | refine WD.skip 10 rfl (by kernel_rfl) rfl rfl (fun _ _ _ _ _ h => h) rfl (.inr hS) ?_); try (first | ((with_reducible refine WD.topT ?_ ?_); omega) | ((with_reducible refine WD.topF ?_ ?_); omega) | ((with_reducible refine WD.top64 ?_ ?_); omega))); ((first | refine WD.free 11 rfl (by kernel_rfl) rfl rfl (fun _ _ _ _ _ h => h) rfl rfl (.inr hS) ?_ | refine WD.skip 11 rfl (by kernel_rfl) rfl rfl (fun _ _ _ _ _ h => h) rfl (.inr hS) ?_); try (first | ((with_reducible refine WD.topT ?_ ?_); omega) | ((with_reducible refine WD.topF ?_ ?_); omega) | ((with_reducible refine WD.top64 ?_ ?_); omega))); ((first | refine WD.free 12 rfl (by kernel_rfl) rfl rfl (fun _ _ _ _ _ h => h) rfl rfl (.inr hS) ?_ | refine WD.skip 12 rfl (by kernel_rfl) rfl rfl (fun _ _ _ _ _ h => h) rfl (.inr hS) ?_); try (first | ((with_reducible refine WD.topT ?_ ?_); omega) | ((with_reducible refine WD.topF ?_ ?_); omega) | ((with_reducible refine WD.top64 ?_ ?_); omega))))
        refine WD.idxA 13 0 10 rfl (by kernel_rfl) rfl rfl (fun _ _ _ _ _ h => h) rfl rfl rfl rfl rfl rfl (by omega) (by omega) (.inr hS) ?_
        refine WD.load 14 [20] rfl (by kernel_rfl) rfl rfl (fun _ _ _ _ _ h => h) rfl rfl rfl rfl (fun wx hx => (heap_cell hx _).trans q2) hS ?_
        (((first | refine WD.free 15 rfl (by kernel_rfl) rfl rfl (fun _ _ _ _ _ h => h) rfl rfl (.inr hS) ?_ | refine WD.skip 15 rfl (by kernel_rfl) rfl rfl (fun _ _ _ _ _ h => h) rfl (.inr hS) ?_); try (first | ((with_reducible refine WD.topT ?_ ?_); omega) | ((with_reducible refine WD.topF ?_ ?_); omega) | ((with_reducible refine WD.top64 ?_ ?_); omega))); ((first | refine WD.free 16 rfl (by kernel_rfl) rfl rfl (fun _ _ _ _ _ h => h) rfl rfl (.inr hS) ?_ | refine WD.skip 16 rfl (by kernel_rfl) rfl rfl (fun _ _ _ _ _ h => h) rfl (.inr hS) ?_); try (first | ((with_reducible refine WD.topT ?_ ?_); omega) | ((with_reducible refine WD.topF ?_ ?_); omega) | ((with_reducible refine WD.top64 ?_ ?_); omega))); ((first | refine WD.free 17 rfl (by kernel_rfl) rfl rfl (fun _ _ _ _ _ h => h) rfl rfl (.inr hS) ?_ | refine WD.skip 17 rfl (by kernel_rfl) rfl rfl (fun _ _ _ _ _ h => h) rfl (.inr hS) ?_); try (first | ((with_reducible refine WD.topT ?_ ?_); omega) | ((with_reducible refine WD.topF ?_ ?_); omega) | ((with_reducible refine WD.top64 ?_ ?_); omega))))
        refine WD.idxA 18 0 18 rfl (by kernel_rfl) rfl rfl (fun _ _ _ _ _ h => h) rfl rfl rfl rfl rfl rfl (by omega) (by omega) (.inr hS) ?_
        refine WD.load 19 [20] rfl (by kernel_rfl) rfl rfl (fun _ _ _ _ _ h => h) rfl rfl rfl rfl (fun wx hx => (heap_cell hx _).trans q3) hS ?_
        refine WD.one 20 (by kernel_rfl) rfl ?_
        refine WL.call rfl rfl rfl rfl rfl Try.func24 rfl (by kernel_rfl) (nput_any (i := A) (n := ((ents d c).getD 0 noE).num) (kid := ((ents d c).getD 0 noE).kid) va (by show A ≤ (ents d a).length; omega) (by show (ents d a).length < 8; omega)) ?_
        rintro _ w5 ⟨rfl, hk5, va5⟩
        refine ⟨_, rfl, ?_⟩
        have hin : ins (ents d a) A ⟨((ents d c).getD 0 noE).key, ((ents d c).getD 0 noE).num, ((ents d c).getD 0 noE).kid⟩ = (ents d a ++ ents d c).take (A + 1) := by rw [e1, ← hla, ins_end]
        simp only at va5
        rw [hin] at va5
        have hlt1 : ((ents d a ++ ents d c).take (A + 1)).length ≤ 8 := by rw [List.length_take, List.length_append]; omega
        have hps5 := hps.node (b := blk d a) (by rw [hsa]; simp) hk5 hlt1 va5
        have vc5 := vc.keep hk5 hac.symm
        have hh5 := hh.keep hk5 hta
        refine WL.nil (WQ.dk (.inl rfl) ?_)
        refine WD.done (by kernel_rfl) ?_
        repeat (first | ((with_reducible refine WL.topT ?_ ?_); omega) | ((with_reducible refine WL.topF ?_ ?_); omega) | ((with_reducible refine WL.top64 ?_ ?_); omega) | refine WC.seq ?_ | refine WC.block ?_ | refine WC.region ?_ | refine WL.nil ?_ | refine WC.skip ?_ | refine WC.exit ?_ | refine WC.ret ?_ | refine WQ.then rfl ?_ | refine WQ.thenExit ?_ | refine WQ.thenRet ?_ | refine WQ.blk ?_ | refine WQ.blkRet ?_ | refine WQ.blkHere rfl ?_ | refine WQ.blkOther rfl ?_ | refine WL.pure rfl rfl rfl rfl ?_ | refine WL.on rfl rfl ?_ | refine WL.off rfl rfl rfl ?_ | refine WC.condTrue rfl ?_ | refine WC.condFalse rfl ?_)
        refine WL.call rfl rfl rfl rfl rfl Try.func38 rfl (by kernel_rfl) (ncut_any (i := 0) vc5 (by show 0 < (ents d c).length; omega) (by show (ents d c).length ≤ 8; omega)) ?_
        rintro _ w6 ⟨rfl, hk6, vc6⟩
        refine ⟨_, rfl, ?_⟩
        simp only at vc6
        rw [← e2] at vc6
        have hps6 := hps5.node (b := blk d c) (by rw [upd_ne hac.symm, hsc]; simp) hk6 (by show ((ents d a ++ ents d c).drop (A + 1)).length ≤ 8; rw [List.length_drop, List.length_append]; omega) vc6
        have hh6 := hh5.keep hk6 htc
        repeat (first | ((with_reducible refine WL.topT ?_ ?_); omega) | ((with_reducible refine WL.topF ?_ ?_); omega) | ((with_reducible refine WL.top64 ?_ ?_); omega) | refine WC.seq ?_ | refine WC.block ?_ | refine WC.region ?_ | refine WL.nil ?_ | refine WC.skip ?_ | refine WC.exit ?_ | refine WC.ret ?_ | refine WQ.then rfl ?_ | refine WQ.thenExit ?_ | refine WQ.thenRet ?_ | refine WQ.blk ?_ | refine WQ.blkRet ?_ | refine WQ.blkHere rfl ?_ | refine WQ.blkOther rfl ?_ | refine WL.pure rfl rfl rfl rfl ?_ | refine WL.on rfl rfl ?_ | refine WL.off rfl rfl rfl ?_ | refine WC.condTrue rfl ?_ | refine WC.condFalse rfl ?_)
        exact WQ.meet () ⟨rfl, rfl, rfl, rfl, trivial⟩ ⟨A + 1, by omega, by omega, by omega, by omega, hps6, hh6⟩
      · refine WC.condF rfl (by omega) ?_
        obtain ⟨A', rfl⟩ : ∃ A', A = A' + 1 := ⟨A - 1, by omega⟩
        obtain ⟨e1, e2⟩ := sh2 (ents d a) (ents d c) hla
        have hw1 : ((A' + 1 : Nat) : Int) - 1 = A' := by omega
        have q0 := cntR va hla
        have q1 := keyR va (i := A') (by omega)
        have q2 := numR va (i := A') (by omega)
        have q3 : w3.cell? ⟨blk d a, 18 + A', none⟩ = some (ptrV ((ents d a).getD A' noE).kid) := by rw [cellR va (j := 18 + A') (by omega), ndF_kid _ _ (i := A') (by omega)]
        repeat (first | ((with_reducible refine WL.topT ?_ ?_); omega) | ((with_reducible refine WL.topF ?_ ?_); omega) | ((with_reducible refine WL.top64 ?_ ?_); omega) | refine WC.seq ?_ | refine WC.block ?_ | refine WC.region ?_ | refine WL.nil ?_ | refine WC.skip ?_ | refine WC.exit ?_ | refine WC.ret ?_ | refine WQ.then rfl ?_ | refine WQ.thenExit ?_ | refine WQ.thenRet ?_ | refine WQ.blk ?_ | refine WQ.blkRet ?_ | refine WQ.blkHere rfl ?_ | refine WQ.blkOther rfl ?_ | refine WL.pure rfl rfl rfl rfl ?_ | refine WL.on rfl rfl ?_ | refine WL.off rfl rfl rfl ?_ | refine WL.load rfl rfl rfl rfl rfl rfl (by assumption) ?_ | refine WC.condTrue rfl ?_ | refine WC.condFalse rfl ?_)
        refine WC.as 8 (.int .i64 A') rfl (congrArg (Value.int .i64) hw1) ?_
        refine WC.drawn 19 (fun wx => wx.heap = w3.heap) fun w4 hd => ?_
        have hS : w4.heap = w3.heap := hd.heap
        have hps := hps.step (hps.mem.below (hd.below _)) hps.no (Keep.ofDrew hd _) fun x hx => .inl hx
        replace va := va.below (hd.below _) va.lt
        replace vc := vc.below (hd.below _) vc.lt
        replace hh := hh.below (hd.below _) hh.lt
        clear hd
        (((first | refine WD.free 0 rfl (by kernel_rfl) rfl rfl (fun _ _ _ _ _ h => h) rfl rfl (.inr hS) ?_ | refine WD.skip 0 rfl (by kernel_rfl) rfl rfl (fun _ _ _ _ _ h => h) rfl (.inr hS) ?_); try (first | ((with_reducible refine WD.topT ?_ ?_); omega) | ((with_reducible refine WD.topF ?_ ?_); omega) | ((with_reducible refine WD.top64 ?_ ?_); omega))); ((first | refine WD.free 1 rfl (by kernel_rfl) rfl rfl (fun _ _ _ _ _ h => h) rfl rfl (.inr hS) ?_ | refine WD.skip 1 rfl (by kernel_rfl) rfl rfl (fun _ _ _ _ _ h => h) rfl (.inr hS) ?_); try (first | ((with_reducible refine WD.topT ?_ ?_); omega) | ((with_reducible refine WD.topF ?_ ?_); omega) | ((with_reducible refine WD.top64 ?_ ?_); omega))); ((first | refine WD.free 2 rfl (by kernel_rfl) rfl rfl (fun _ _ _ _ _ h => h) rfl rfl (.inr hS) ?_ | refine WD.skip 2 rfl (by kernel_rfl) rfl rfl (fun _ _ _ _ _ h => h) rfl (.inr hS) ?_); try (first | ((with_reducible refine WD.topT ?_ ?_); omega) | ((with_reducible refine WD.topF ?_ ?_); omega) | ((with_reducible refine WD.top64 ?_ ?_); omega))); ((first | refine WD.free 3 rfl (by kernel_rfl) rfl rfl (fun _ _ _ _ _ h => h) rfl rfl (.inr hS) ?_ | refine WD.skip 3 rfl (by kernel_rfl) rfl rfl (fun _ _ _ _ _ h => h) rfl (.inr hS) ?_); try (first | ((with_reducible refine WD.topT ?_ ?_); omega) | ((with_reducible refine WD.topF ?_ ?_); omega) | ((with_reducible refine WD.top64 ?_ ?_); omega))); ((first | refine WD.free 4 rfl (by kernel_rfl) rfl rfl (fun _ _ _ _ _ h => h) rfl rfl (.inr hS) ?_ | refine WD.skip 4 rfl (by kernel_rfl) rfl rfl (fun _ _ _ _ _ h => h) rfl (.inr hS) ?_); try (first | ((with_reducible refine WD.topT ?_ ?_); omega) | ((with_reducible refine WD.topF ?_ ?_); omega) | ((with_reducible refine WD.top64 ?_ ?_); omega))))
        refine WD.idxA 5 A' (2 + A') rfl (by kernel_rfl) rfl rfl (fun _ _ _ _ _ h => h) rfl rfl rfl rfl rfl rfl (by omega) (by omega) (.inr hS) ?_
        refine WD.load 6 [19] rfl (by kernel_rfl) rfl rfl (fun _ _ _ _ _ h => h) rfl rfl rfl rfl (fun wx hx => (heap_cell hx _).trans q1) hS ?_
        (((first | refine WD.free 7 rfl (by kernel_rfl) rfl rfl (fun _ _ _ _ _ h => h) rfl rfl (.inr hS) ?_ | refine WD.skip 7 rfl (by kernel_rfl) rfl rfl (fun _ _ _ _ _ h => h) rfl (.inr hS) ?_); try (first | ((with_reducible refine WD.topT ?_ ?_); omega) | ((with_reducible refine WD.topF ?_ ?_); omega) | ((with_reducible refine WD.top64 ?_ ?_); omega))); ((first | refine WD.free 8 rfl (by kernel_rfl) rfl rfl (fun _ _ _ _ _ h => h) rfl rfl (.inr hS) ?_ | refine WD.skip 8 rfl (by kernel_rfl) rfl rfl (fun _ _ _ _ _ h => h) rfl (.inr hS) ?_); try (first | ((with_reducible refine WD.topT ?_ ?_); omega) | ((with_reducible refine WD.topF ?_ ?_); omega) | ((with_reducible refine WD.top64 ?_ ?_); omega))); ((first | refine WD.free 9 rfl (by kernel_rfl) rfl rfl (fun _ _ _ _ _ h => h) rfl rfl (.inr hS) ?_ | refine WD.skip 9 rfl (by kernel_rfl) rfl rfl (fun _ _ _ _ _ h => h) rfl (.inr hS) ?_); try (first | ((with_reducible refine WD.topT ?_ ?_); omega) | ((with_reducible refine WD.topF ?_ ?_); omega) | ((with_reducible refine WD.top64 ?_ ?_); omega))); ((first | refine WD.free 10 rfl (by kernel_rfl) rfl rfl (fun _ _ _ _ _ h => h) rfl rfl (.inr hS) ?_ | refine WD.skip 10 rfl (by kernel_rfl) rfl rfl (fun _ _ _ _ _ h => h) rfl (.inr hS) ?_); try (first | ((with_reducible refine WD.topT ?_ ?_); omega) | ((with_reducible refine WD.topF ?_ ?_); omega) | ((with_reducible refine WD.top64 ?_ ?_); omega))))
        refine WD.idxA 11 A' (10 + A') rfl (by kernel_rfl) rfl rfl (fun _ _ _ _ _ h => h) rfl rfl rfl rfl rfl rfl (by omega) (by omega) (.inr hS) ?_
        refine WD.load 12 [19] rfl (by kernel_rfl) rfl rfl (fun _ _ _ _ _ h => h) rfl rfl rfl rfl (fun wx hx => (heap_cell hx _).trans q2) hS ?_
        (((first | refine WD.free 13 rfl (by kernel_rfl) rfl rfl (fun _ _ _ _ _ h => h) rfl rfl (.inr hS) ?_ | refine WD.skip 13 rfl (by kernel_rfl) rfl rfl (fun _ _ _ _ _ h => h) rfl (.inr hS) ?_); try (first | ((with_reducible refine WD.topT ?_ ?_); omega) | ((with_reducible refine WD.topF ?_ ?_); omega) | ((with_reducible refine WD.top64 ?_ ?_); omega))); ((first | refine WD.free 14 rfl (by kernel_rfl) rfl rfl (fun _ _ _ _ _ h => h) rfl rfl (.inr hS) ?_ | refine WD.skip 14 rfl (by kernel_rfl) rfl rfl (fun _ _ _ _ _ h => h) rfl (.inr hS) ?_); try (first | ((with_reducible refine WD.topT ?_ ?_); omega) | ((with_reducible refine WD.topF ?_ ?_); omega) | ((with_reducible refine WD.top64 ?_ ?_); omega))); ((first | refine WD.free 15 rfl (by kernel_rfl) rfl rfl (fun _ _ _ _ _ h => h) rfl rfl (.inr hS) ?_ | refine WD.skip 15 rfl (by kernel_rfl) rfl rfl (fun _ _ _ _ _ h => h) rfl (.inr hS) ?_); try (first | ((with_reducible refine WD.topT ?_ ?_); omega) | ((with_reducible refine WD.topF ?_ ?_); omega) | ((with_reducible refine WD.top64 ?_ ?_); omega))); ((first | refine WD.free 16 rfl (by kernel_rfl) rfl rfl (fun _ _ _ _ _ h => h) rfl rfl (.inr hS) ?_ | refine WD.skip 16 rfl (by kernel_rfl) rfl rfl (fun _ _ _ _ _ h => h) rfl (.inr hS) ?_); try (first | ((with_reducible refine WD.topT ?_ ?_); omega) | ((with_reducible refine WD.topF ?_ ?_); omega) | ((with_reducible refine WD.top64 ?_ ?_); omega))))
        refine WD.idxA 17 A' (18 + A') rfl (by kernel_rfl) rfl rfl (fun _ _ _ _ _ h => h) rfl rfl rfl rfl rfl rfl (by omega) (by omega) (.inr hS) ?_
        refine WD.load 18 [19] rfl (by kernel_rfl) rfl rfl (fun _ _ _ _ _ h => h) rfl rfl rfl rfl (fun wx hx => (heap_cell hx _).trans q3) hS ?_
        refine WD.one 19 (by kernel_rfl) rfl ?_
        refine WL.call rfl rfl rfl rfl rfl Try.func24 rfl (by kernel_rfl) (nput_any (i := 0) (n := ((ents d a).getD A' noE).num) (kid := ((ents d a).getD A' noE).kid) vc (Nat.zero_le _) (by show (ents d c).length < 8; omega)) ?_
        rintro _ w5 ⟨rfl, hk5, vc5⟩
        refine ⟨_, rfl, ?_⟩
        simp only at vc5
        rw [← e2] at vc5
        have hlt1 : ((ents d a ++ ents d c).drop A').length ≤ 8 := by rw [List.length_drop, List.length_append]; omega
        have hps5 := hps.node (b := blk d c) (by rw [hsc]; simp) hk5 hlt1 vc5
        have va5 := va.keep hk5 hac
        have hh5 := hh.keep hk5 htc
        refine WL.nil (WQ.dk (.inl rfl) ?_)
        refine WD.done (by kernel_rfl) ?_
        repeat (first | ((with_reducible refine WL.topT ?_ ?_); omega) | ((with_reducible refine WL.topF ?_ ?_); omega) | ((with_reducible refine WL.top64 ?_ ?_); omega) | refine WC.seq ?_ | refine WC.block ?_ | refine WC.region ?_ | refine WL.nil ?_ | refine WC.skip ?_ | refine WC.exit ?_ | refine WC.ret ?_ | refine WQ.then rfl ?_ | refine WQ.thenExit ?_ | refine WQ.thenRet ?_ | refine WQ.blk ?_ | refine WQ.blkRet ?_ | refine WQ.blkHere rfl ?_ | refine WQ.blkOther rfl ?_ | refine WL.pure rfl rfl rfl rfl ?_ | refine WL.on rfl rfl ?_ | refine WL.off rfl rfl rfl ?_ | refine WC.condTrue rfl ?_ | refine WC.condFalse rfl ?_)
        refine WL.call rfl rfl rfl rfl rfl Try.func38 rfl (by kernel_rfl) (ncut_any (i := A') va5 (by show A' < (ents d a).length; omega) (by show (ents d a).length ≤ 8; omega)) ?_
        rintro _ w6 ⟨rfl, hk6, va6⟩
        refine ⟨_, rfl, ?_⟩
        simp only at va6
        rw [← e1] at va6
        have hps6 := hps5.node (b := blk d a) (by rw [upd_ne hac, hsa]; simp) hk6 (by show ((ents d a ++ ents d c).take A').length ≤ 8; rw [List.length_take, List.length_append]; omega) va6
        have hh6 := hh5.keep hk6 hta
        have hsw : upd (upd st (blk d c) ⟨d == 0, (ents d a ++ ents d c).drop A', nxc⟩) (blk d a) ⟨d == 0, (ents d a ++ ents d c).take A', nxa⟩ = upd (upd st (blk d a) ⟨d == 0, (ents d a ++ ents d c).take A', nxa⟩) (blk d c) ⟨d == 0, (ents d a ++ ents d c).drop A', nxc⟩ := by
          funext x
          unfold upd
          by_cases e : x = blk d a
          · subst e; simp [hac]
          · simp [e]
        rw [hsw] at hps6
        repeat (first | ((with_reducible refine WL.topT ?_ ?_); omega) | ((with_reducible refine WL.topF ?_ ?_); omega) | ((with_reducible refine WL.top64 ?_ ?_); omega) | refine WC.seq ?_ | refine WC.block ?_ | refine WC.region ?_ | refine WL.nil ?_ | refine WC.skip ?_ | refine WC.exit ?_ | refine WC.ret ?_ | refine WQ.then rfl ?_ | refine WQ.thenExit ?_ | refine WQ.thenRet ?_ | refine WQ.blk ?_ | refine WQ.blkRet ?_ | refine WQ.blkHere rfl ?_ | refine WQ.blkOther rfl ?_ | refine WL.pure rfl rfl rfl rfl ?_ | refine WL.on rfl rfl ?_ | refine WL.off rfl rfl rfl ?_ | refine WC.condTrue rfl ?_ | refine WC.condFalse rfl ?_)
        exact WQ.meet () ⟨rfl, rfl, rfl, rfl, trivial⟩ ⟨A', by omega, by omega, by omega, by omega, hps6, hh6⟩
    clear vb va vc hh hps
    rintro ⟨⟩ w5 ⟨j, hj1, hj2, hj3, hj4, hps5, hh5⟩
    obtain ⟨st5, hst5⟩ : ∃ st5, upd (upd st (blk d a) ⟨d == 0, (ents d a ++ ents d c).take j, nxa⟩) (blk d c) ⟨d == 0, (ents d a ++ ents d c).drop j, nxc⟩ = st5 := ⟨_, rfl⟩
    rw [hst5] at hps5
    have hb5 : st5 b = some ⟨false, (p ++ a :: c :: q).map (kidE d), none⟩ := by rw [← hst5, upd_ne hbc, upd_ne hba]; exact hb
    have hc5 : st5 (blk d c) = some ⟨d == 0, (ents d a ++ ents d c).drop j, nxc⟩ := by rw [← hst5, upd_eq]
    have ha5 : st5 (blk d a) = some ⟨d == 0, (ents d a ++ ents d c).take j, nxa⟩ := by rw [← hst5, upd_ne hac, upd_eq]
    obtain ⟨-, pb5, vb5⟩ := hps5.mem _ _ hb5
    obtain ⟨-, pc5, vc5⟩ := hps5.mem _ _ hc5
    obtain ⟨re1, re2⟩ := rd_ents j d a c
    obtain ⟨rc1, rc2⟩ := rd_cnt j d a c (by rw [hA, hC]; omega)
    rw [hA, hC] at rc2
    obtain ⟨rm1, rm2⟩ := rd_mn (j := j) hma hmc hj2 (by rw [hA, hC]; omega) (by rw [hA, hC]; omega)
    have hk0 : (((ents d a ++ ents d c).drop j).getD 0 noE).key = fk d (rd j d a c).2 := by rw [← re2]; exact ents_key0 rm2 (by omega) _
    have q1 := keyR vc5 (i := 0) (by omega)
    simp only [hk0] at q1
    have hkid : (⟨fk d (rd j d a c).2, (((p ++ a :: c :: q).map (kidE d)).getD (p.length + 1) noE).num, (((p ++ a :: c :: q).map (kidE d)).getD (p.length + 1) noE).kid⟩ : En) = kidE d (rd j d a c).2 := by
      rw [kids_get2]
      unfold kidE
      rw [(rd_blk j d a c).2]
    have hset := kids_set p q a c (rd j d a c).1 (rd j d a c).2 (kidE_rd hma (by omega) rm1 (by omega)) _ hkid
    repeat (first | refine WC.seq ?_ | refine WC.block ?_ | refine WC.region ?_ | refine WL.nil ?_ | refine WC.skip ?_ | refine WC.exit ?_ | refine WC.ret ?_ | refine WQ.then rfl ?_ | refine WQ.thenExit ?_ | refine WQ.thenRet ?_ | refine WQ.blk ?_ | refine WQ.blkRet ?_ | refine WQ.blkHere rfl ?_ | refine WQ.blkOther rfl ?_)
    refine WC.drawn 11 (fun wx => wx.heap = w5.heap) fun w6 hd => ?_
    have hS : w6.heap = w5.heap := hd.heap
    have hps6 := hps5.step (hps5.mem.below (hd.below _)) hps5.no (Keep.ofDrew hd _) fun x hx => .inl hx
    have vb6 := vb5.below (hd.below _) vb5.lt
    have hh6 := hh5.below (hd.below _) hh5.lt
    clear hd
    (((first | refine WD.free 0 rfl (by kernel_rfl) rfl rfl (fun _ _ _ _ _ h => h) rfl rfl (.inr hS) ?_ | refine WD.skip 0 rfl (by kernel_rfl) rfl rfl (fun _ _ _ _ _ h => h) rfl (.inr hS) ?_); try (first | ((with_reducible refine WD.topT ?_ ?_); omega) | ((with_reducible refine WD.topF ?_ ?_); omega) | ((with_reducible refine WD.top64 ?_ ?_); omega))); ((first | refine WD.free 1 rfl (by kernel_rfl) rfl rfl (fun _ _ _ _ _ h => h) rfl rfl (.inr hS) ?_ | refine WD.skip 1 rfl (by kernel_rfl) rfl rfl (fun _ _ _ _ _ h => h) rfl (.inr hS) ?_); try (first | ((with_reducible refine WD.topT ?_ ?_); omega) | ((with_reducible refine WD.topF ?_ ?_); omega) | ((with_reducible refine WD.top64 ?_ ?_); omega))); ((first | refine WD.free 2 rfl (by kernel_rfl) rfl rfl (fun _ _ _ _ _ h => h) rfl rfl (.inr hS) ?_ | refine WD.skip 2 rfl (by kernel_rfl) rfl rfl (fun _ _ _ _ _ h => h) rfl (.inr hS) ?_); try (first | ((with_reducible refine WD.topT ?_ ?_); omega) | ((with_reducible refine WD.topF ?_ ?_); omega) | ((with_reducible refine WD.top64 ?_ ?_); omega))); ((first | refine WD.free 3 rfl (by kernel_rfl) rfl rfl (fun _ _ _ _ _ h => h) rfl rfl (.inr hS) ?_ | refine WD.skip 3 rfl (by kernel_rfl) rfl rfl (fun _ _ _ _ _ h => h) rfl (.inr hS) ?_); try (first | ((with_reducible refine WD.topT ?_ ?_); omega) | ((with_reducible refine WD.topF ?_ ?_); omega) | ((with_reducible refine WD.top64 ?_ ?_); omega))); ((first | refine WD.free 4 rfl (by kernel_rfl) rfl rfl (fun _ _ _ _ _ h => h) rfl rfl (.inr hS) ?_ | refine WD.skip 4 rfl (by kernel_rfl) rfl rfl (fun _ _ _ _ _ h => h) rfl (.inr hS) ?_); try (first | ((with_reducible refine WD.topT ?_ ?_); omega) | ((with_reducible refine WD.topF ?_ ?_); omega) | ((with_reducible refine WD.top64 ?_ ?_); omega))); ((first | refine WD.free 5 rfl (by kernel_rfl) rfl rfl (fun _ _ _ _ _ h => h) rfl rfl (.inr hS) ?_ | refine WD.skip 5 rfl (by kernel_rfl) rfl rfl (fun _ _ _ _ _ h => h) rfl (.inr hS) ?_); try (first | ((with_reducible refine WD.topT ?_ ?_); omega) | ((with_reducible refine WD.topF ?_ ?_); omega) | ((with_reducible refine WD.top64 ?_ ?_); omega))))
    refine WD.idxA 6 0 2 rfl (by kernel_rfl) rfl rfl (fun _ _ _ _ _ h => h) rfl rfl rfl rfl rfl rfl (by omega) (by omega) (.inr hS) ?_
    refine WD.load 7 [10, 11] rfl (by kernel_rfl) rfl rfl (fun _ _ _ _ _ h => h) rfl rfl rfl rfl (fun wx hx => (heap_cell hx _).trans q1) hS ?_
    (((first | refine WD.free 8 rfl (by kernel_rfl) rfl rfl (fun _ _ _ _ _ h => h) rfl rfl (.inr hS) ?_ | refine WD.skip 8 rfl (by kernel_rfl) rfl rfl (fun _ _ _ _ _ h => h) rfl (.inr hS) ?_); try (first | ((with_reducible refine WD.topT ?_ ?_); omega) | ((with_reducible refine WD.topF ?_ ?_); omega) | ((with_reducible refine WD.top64 ?_ ?_); omega))); ((first | refine WD.free 9 rfl (by kernel_rfl) rfl rfl (fun _ _ _ _ _ h => h) rfl rfl (.inr hS) ?_ | refine WD.skip 9 rfl (by kernel_rfl) rfl rfl (fun _ _ _ _ _ h => h) rfl (.inr hS) ?_); try (first | ((with_reducible refine WD.topT ?_ ?_); omega) | ((with_reducible refine WD.topF ?_ ?_); omega) | ((with_reducible refine WD.top64 ?_ ?_); omega))))
    refine WD.idxA 10 (p.length + 1) (2 + (p.length + 1)) rfl (by kernel_rfl) rfl rfl (fun _ _ _ _ _ h => h) rfl rfl rfl rfl rfl rfl (by omega) (by omega) (.inr hS) ?_
    refine WD.one 11 (by kernel_rfl) rfl ?_
    refine WL.store rfl rfl rfl rfl rfl rfl (by kernel_rfl) (cellR vb6 (by omega)) (vb6.free _) ?_
    have vb7 := setR vb6 (2 + (p.length + 1)) (.string (fk d (rd j d a c).2))
    rw [row_key _ _ (by show p.length + 1 < ((p ++ a :: c :: q).map (kidE d)).length; rw [hml]; simp) (by show ((p ++ a :: c :: q).map (kidE d)).length ≤ 8; rw [hml]; exact hlen)] at vb7
    simp only [hset] at vb7
    have k7 : Keep (fun x => x ≠ b) w6 (w6.setCell ⟨b, 2 + (p.length + 1), none⟩ (.string (fk d (rd j d a c).2))) := (Keep.refl _ _).setCell (fun hk => hk rfl) _
    have hps7 := hps6.node (b := b) (by rw [hb5]; simp) k7 (by show ((p ++ (rd j d a c).1 :: (rd j d a c).2 :: q).map (kidE d)).length ≤ 8; rw [hml]; simp only [List.length_append, List.length_cons] at hlen ⊢; exact hlen) vb7
    have hh7 := hh6.keep k7 htb
    generalize w6.setCell ⟨b, 2 + (p.length + 1), none⟩ (.string (fk d (rd j d a c).2)) = w7 at vb7 k7 hps7 hh7 ⊢
    refine WL.nil (WQ.dk (.inl rfl) ?_)
    refine WD.done (by kernel_rfl) ?_
    have hcut : CutR st (upd st5 b ⟨false, (p ++ (rd j d a c).1 :: (rd j d a c).2 :: q).map (kidE d), none⟩) (d + 1) (mkS b (p ++ a :: c :: q)) (mkS b (p ++ (rd j d a c).1 :: (rd j d a c).2 :: q)) nx := by
      refine CutR.share (j := j) hat (fun nxa' hx => ?_) (fun nxc' hx => ?_) (upd_eq _ _ _) fun x h1 h2 h3 => ?_
      · rw [hsa] at hx
        injection hx with hx; injection hx with _ _ hx
        rw [upd_ne hba.symm, ha5, hx]
      · rw [hsc] at hx
        injection hx with hx; injection hx with _ _ hx
        rw [upd_ne hbc.symm, hc5, hx]
      · rw [upd_ne h1, ← hst5, upd_ne h3, upd_ne h2]
    repeat (first | ((with_reducible refine WL.topT ?_ ?_); omega) | ((with_reducible refine WL.topF ?_ ?_); omega) | ((with_reducible refine WL.top64 ?_ ?_); omega) | refine WC.seq ?_ | refine WC.block ?_ | refine WC.region ?_ | refine WL.nil ?_ | refine WC.skip ?_ | refine WC.exit ?_ | refine WC.ret ?_ | refine WQ.then rfl ?_ | refine WQ.thenExit ?_ | refine WQ.thenRet ?_ | refine WQ.blk ?_ | refine WQ.blkRet ?_ | refine WQ.blkHere rfl ?_ | refine WQ.blkOther rfl ?_ | refine WL.pure rfl rfl rfl rfl ?_ | refine WL.on rfl rfl ?_ | refine WL.off rfl rfl rfl ?_ | refine WC.condTrue rfl ?_ | refine WC.condFalse rfl ?_)
    refine WQ.end0 rfl ⟨rfl, fin hps7 hcut (fun x hx => ?_) (.inr ⟨by omega, j, hj1, hj2, hj3, hj4, rfl, hh7⟩)⟩
    by_cases e : x = b
    · rw [e, hb]; simp
    · rw [upd_ne e, ← hst5] at hx
      by_cases e2 : x = blk d c
      · rw [e2, hsc]; simp
      · rw [upd_ne e2] at hx
        by_cases e3 : x = blk d a
        · rw [e3, hsa]; simp
        · rw [upd_ne e3] at hx; exact hx
end K
end Go.Proofs.Ytilmfnlaenneeaa

/- Trees (chapter 13): cut. -/
namespace Go.Proofs.Ytilmfnlaenneeaa
open Go.RowKit
namespace K
open Tre
theorem lnk_valid' {st : St} : ∀ {l : List (Nat × List KV)} {nx : Option Nat}, Lnk st l nx → (∀ q, nx = some q → st q ≠ none) → ∀ x ∈ l, ∀ nd, st x.1 = some nd → ∀ q, nd.next = some q → st q ≠ none
  | [], _, _, _, _, h, _, _, _, _ => by cases h
  | a :: l, nx, h, hnx, x, hx, nd, hnd, q, hq => by
    rcases List.mem_cons.1 hx with rfl | hx
    · rw [h.1] at hnd
      obtain rfl := Option.some.inj hnd
      cases l with
      | nil => exact hnx q hq
      | cons y l =>
        have : q = y.1 := (Option.some.inj hq).symm
        subst this
        rw [h.2.1]; simp
    · exact lnk_valid' h.2 hnx x hx nd hnd q hq
theorem At_valid {st : St} {d b : Nat} {ks : List (Tr d)} {nx : Option Nat} (h : At st (d + 1) (mkS b ks) nx) (hnx : ∀ q, nx = some q → st q ≠ none) {s : Tr d} (hs : s ∈ ks) : ∀ nd, st (blk d s) = some nd → ∀ q, nd.next = some q → st q ≠ none := by
  intro nd hnd q hq
  cases d with
  | zero => exact lnk_valid' h.lnk hnx (s.1, s.2) (List.mem_flatMap.2 ⟨s, hs, List.mem_singleton.2 rfl⟩) nd hnd q hq
  | succ d =>
    obtain ⟨nx', h1, h2⟩ := At_kid h hs
    rw [h1] at hnd
    obtain rfl := Option.some.inj hnd
    rw [h2 (by omega)] at hq
    cases hq
theorem CutR_refl {st : St} {d : Nat} {t : Tr d} {nx : Option Nat} (h : At st d t nx) : CutR st st d t t nx := ⟨h, rfl, fun _ => rfl, fun _ hx => hx, fun _ _ => rfl⟩
theorem At_sub {st : St} {d b : Nat} {l r : List (Tr d)} {s : Tr d} {nx : Option Nat} (h : At st (d + 1) (mkS b (l ++ s :: r)) nx) : At st d s (Tre.hd (r.flatMap (lvs d)) nx) := by
  have hl := h.lnk
  rw [lvs_mkS, List.flatMap_append, List.flatMap_cons] at hl
  obtain ⟨-, h1⟩ := Lnk.app.1 hl
  obtain ⟨h1, -⟩ := Lnk.app.1 h1
  exact ⟨(RepI_mkS.1 h.rep).2 s (by simp), h1, (List.nodup_append.1 (List.nodup_cons.1 (parts3 h.nodup)).2).1⟩
/-- What is behind a kid is there, and no part of it. -/
theorem At_next {st : St} {d b : Nat} {l r : List (Tr d)} {s : Tr d} {nx : Option Nat} (h : At st (d + 1) (mkS b (l ++ s :: r)) nx) (hnx : ∀ q, nx = some q → st q ≠ none ∧ q ∉ bks (d + 1) (mkS b (l ++ s :: r))) :
    ∀ q, Tre.hd (r.flatMap (lvs d)) nx = some q → st q ≠ none ∧ q ∉ bks d s := by
  intro q hq
  have hl := h.lnk
  rw [lvs_mkS, List.flatMap_append, List.flatMap_cons] at hl
  obtain ⟨-, h1⟩ := Lnk.app.1 hl
  obtain ⟨-, h1⟩ := Lnk.app.1 h1
  cases hr : r.flatMap (lvs d) with
  | nil =>
    rw [hr] at hq
    obtain ⟨h2, h3⟩ := hnx q hq
    refine ⟨h2, fun e => h3 ?_⟩
    rw [bks_mkS, List.flatMap_append, List.flatMap_cons]
    simp [e]
  | cons x y =>
    rw [hr] at hq h1
    have : q = x.1 := (Option.some.inj hq).symm
    subst this
    refine ⟨by rw [h1.1]; simp, fun e => ?_⟩
    have hd := (List.nodup_append.1 (List.nodup_cons.1 (parts3 h.nodup)).2).2.2
    have hm : x.1 ∈ r.flatMap (bks d) := flat_lvs (by rw [hr]; simp)
    exact hd _ e _ (List.mem_append_right _ hm) rfl
/-- What cut says. -/
def CutPost (w : World) (st : St) (tb : Nat) (root : Option Nat) (size N : Nat) (k : Ky) (d : Nat) (t : Tr d) (nx : Option Nat) : Ending → World → Prop := fun e w' =>
  e = .returned (.tuple #[.int .i64 ((getL k (els d t)).getD 0), .bool (getL k (els d t)).isSome]) ∧ ∃ st' t', CutR st st' d t t' nx ∧ PS w st tb w' st' ∧ (∀ x, st' x ≠ none → st x ≠ none) ∧ els d t' = delL k (els d t) ∧ Mn d t' ∧ cnt d t ≤ cnt d t' + 1 ∧ VBlk treeT w' tb (trC root size (N + (bks d t').length)) ∧ (bks d t').length ≤ (bks d t).length
set_option maxRecDepth 20000 in
set_option maxHeartbeats 8000000 in
theorem tcut_leaf {w : World} {st : St} {tb size N b : Nat} {root : Option Nat} {k : Ky} {es : List KV} {nx : Option Nat} (hm : Mem w st) (hno : st tb = none) (hat : At st 0 (mk0 b es) nx) (hs : Srt es) (hmn : es.length ≤ 8) (hh : VBlk treeT w tb (trC root size (N + 1))) :
    Calls Try.prog 31 #[.pointer (some ⟨tb, 0, none⟩), .pointer (some ⟨b, 0, none⟩), .string k] w (CutPost w st tb root size N k 0 (mk0 b es) nx) := by
  refine enter (args := [.pointer (some ⟨tb, 0, none⟩), .pointer (some ⟨b, 0, none⟩), .string k]) Try.func31 rfl Try.ntmps31 rfl ?_
  have hps := PS.start hm hno
  have hb : st b = some ⟨true, leafE es, nx⟩ := hat.lnk.1
  obtain ⟨-, pb, vb⟩ := hm _ _ hb
  have hbt : tb ≠ b := fun e => by rw [← e, hno] at hb; cases hb
  have l0 : w.cell? ⟨b, 0, none⟩ = some (.bool true) := cellR vb (by omega)
  have hpl := plc_le k (es.map Prod.fst)
  rw [List.length_map] at hpl
  have hat1 := getL_at (k := k) hs
  have hda := del_at (k := k) hs
  have stay : getL k es = none → CutPost w st tb root size N k 0 (mk0 b es) nx (.returned (.tuple #[.int .i64 0, .bool false])) w := fun hg => by
    refine ⟨?_, st, mk0 b es, CutR_refl hat, hps, fun _ h => h, ?_, hmn, Nat.le_succ _, hh, Nat.le_refl _⟩
    · show _ = Ending.returned (.tuple #[.int .i64 ((getL k es).getD 0), .bool (getL k es).isSome]); rw [hg]; rfl
    · show es = delL k es; rw [delL_none hg]
  repeat (first | ((with_reducible refine WL.topT ?_ ?_); omega) | ((with_reducible refine WL.topF ?_ ?_); omega) | ((with_reducible refine WL.top64 ?_ ?_); omega) | refine WC.seq ?_ | refine WC.block ?_ | refine WC.region ?_ | refine WL.nil ?_ | refine WC.skip ?_ | refine WC.exit ?_ | refine WC.ret ?_ | refine WQ.then rfl ?_ | refine WQ.thenExit ?_ | refine WQ.thenRet ?_ | refine WQ.blk ?_ | refine WQ.blkRet ?_ | refine WQ.blkHere rfl ?_ | refine WQ.blkOther rfl ?_ | refine WL.pure rfl rfl rfl rfl ?_ | refine WL.on rfl rfl ?_ | refine WL.off rfl rfl rfl ?_ | refine WL.load rfl rfl rfl rfl rfl rfl (by assumption) ?_ | refine WC.condTrue rfl ?_ | refine WC.condFalse rfl ?_)
  refine WL.call rfl rfl rfl rfl rfl Try.func27 rfl (by kernel_rfl) (place_any (key := k) vb (by show (leafE es).length ≤ 8; rw [leaf_len]; omega)) ?_
  rintro _ w3 ⟨rfl, rfl⟩
  refine ⟨_, rfl, ?_⟩
  simp only [keys_leaf]
  generalize plc k (es.map Prod.fst) = p at hpl hat1 hda ⊢
  have hcnt := cntR vb (leaf_len es)
  by_cases hpN : p < es.length
  · repeat (first | ((with_reducible refine WL.topT ?_ ?_); omega) | ((with_reducible refine WL.topF ?_ ?_); omega) | ((with_reducible refine WL.top64 ?_ ?_); omega) | refine WC.seq ?_ | refine WC.block ?_ | refine WC.region ?_ | refine WL.nil ?_ | refine WC.skip ?_ | refine WC.exit ?_ | refine WC.ret ?_ | refine WQ.then rfl ?_ | refine WQ.thenExit ?_ | refine WQ.thenRet ?_ | refine WQ.blk ?_ | refine WQ.blkRet ?_ | refine WQ.blkHere rfl ?_ | refine WQ.blkOther rfl ?_ | refine WL.pure rfl rfl rfl rfl ?_ | refine WL.on rfl rfl ?_ | refine WL.off rfl rfl rfl ?_ | refine WL.load rfl rfl rfl rfl rfl rfl (by assumption) ?_ | refine WC.condTrue rfl ?_ | refine WC.condFalse rfl ?_)
    refine WL.idxA p (2 + p) rfl rfl rfl rfl rfl rfl rfl rfl (by omega) (by omega) ?_
    refine WL.on rfl rfl ?_
    have hkp := keyR vb (i := p) (by omega)
    rw [leaf_getD es hpN] at hkp
    refine WL.load rfl rfl rfl rfl rfl rfl hkp ?_
    by_cases hk : es[p].1 = k
    · have hsome : (es.map Prod.fst)[p]? = some k := by simp [hpN, hk]
      rw [if_pos hsome, List.getElem?_eq_getElem hpN] at hat1
      rw [if_pos hsome] at hda
      have hnp := numR vb (i := p) (by omega)
      rw [leaf_getD es hpN] at hnp
      simp only at hnp
      repeat (first | ((with_reducible refine WL.topT ?_ ?_); omega) | ((with_reducible refine WL.topF ?_ ?_); omega) | ((with_reducible refine WL.top64 ?_ ?_); omega) | refine WC.seq ?_ | refine WC.block ?_ | refine WC.region ?_ | refine WL.nil ?_ | refine WC.skip ?_ | refine WC.exit ?_ | refine WC.ret ?_ | refine WQ.then rfl ?_ | refine WQ.thenExit ?_ | refine WQ.thenRet ?_ | refine WQ.blk ?_ | refine WQ.blkRet ?_ | refine WQ.blkHere rfl ?_ | refine WQ.blkOther rfl ?_ | refine WL.pure rfl rfl rfl rfl ?_ | refine WL.on rfl rfl ?_ | refine WL.off rfl rfl rfl ?_ | refine WC.condTrue rfl ?_ | refine WC.condFalse rfl ?_)
      refine WC.as 35 (.bool false) rfl (by rw [hk]; simp) ?_
      repeat (first | ((with_reducible refine WL.topT ?_ ?_); omega) | ((with_reducible refine WL.topF ?_ ?_); omega) | ((with_reducible refine WL.top64 ?_ ?_); omega) | refine WC.seq ?_ | refine WC.block ?_ | refine WC.region ?_ | refine WL.nil ?_ | refine WC.skip ?_ | refine WC.exit ?_ | refine WC.ret ?_ | refine WQ.then rfl ?_ | refine WQ.thenExit ?_ | refine WQ.thenRet ?_ | refine WQ.blk ?_ | refine WQ.blkRet ?_ | refine WQ.blkHere rfl ?_ | refine WQ.blkOther rfl ?_ | refine WL.pure rfl rfl rfl rfl ?_ | refine WL.on rfl rfl ?_ | refine WL.off rfl rfl rfl ?_ | refine WC.condTrue rfl ?_ | refine WC.condFalse rfl ?_)
      refine WL.idxA p (10 + p) rfl rfl rfl rfl rfl rfl rfl rfl (by omega) (by omega) ?_
      refine WL.load rfl rfl rfl rfl rfl rfl hnp ?_
      repeat (first | ((with_reducible refine WL.topT ?_ ?_); omega) | ((with_reducible refine WL.topF ?_ ?_); omega) | ((with_reducible refine WL.top64 ?_ ?_); omega) | refine WC.seq ?_ | refine WC.block ?_ | refine WC.region ?_ | refine WL.nil ?_ | refine WC.skip ?_ | refine WC.exit ?_ | refine WC.ret ?_ | refine WQ.then rfl ?_ | refine WQ.thenExit ?_ | refine WQ.thenRet ?_ | refine WQ.blk ?_ | refine WQ.blkRet ?_ | refine WQ.blkHere rfl ?_ | refine WQ.blkOther rfl ?_ | refine WL.pure rfl rfl rfl rfl ?_ | refine WL.on rfl rfl ?_ | refine WL.off rfl rfl rfl ?_ | refine WC.condTrue rfl ?_ | refine WC.condFalse rfl ?_)
      refine WL.call rfl rfl rfl rfl rfl Try.func38 rfl (by kernel_rfl) (ncut_any (i := p) vb (by show p < (leafE es).length; rw [leaf_len]; exact hpN) (by show (leafE es).length ≤ 8; rw [leaf_len]; exact hmn)) ?_
      rintro _ w4 ⟨rfl, hk4, v4⟩
      refine ⟨_, rfl, ?_⟩
      have hse : era (leafE es) p = leafE (delL k es) := by
        rw [hda]
        unfold leafE era
        rw [List.map_append, List.map_take, List.map_drop]
      simp only [hse] at v4
      have hdl : (delL k es).length + 1 = es.length := by rw [hda]; simp only [List.length_append, List.length_take, List.length_drop]; omega
      have hps4 := hps.node (b := b) (by rw [hb]; simp) hk4 (by show (leafE (delL k es)).length ≤ 8; rw [leaf_len]; omega) v4
      have hh4 := hh.keep hk4 hbt
      repeat (first | ((with_reducible refine WL.topT ?_ ?_); omega) | ((with_reducible refine WL.topF ?_ ?_); omega) | ((with_reducible refine WL.top64 ?_ ?_); omega) | refine WC.seq ?_ | refine WC.block ?_ | refine WC.region ?_ | refine WL.nil ?_ | refine WC.skip ?_ | refine WC.exit ?_ | refine WC.ret ?_ | refine WQ.then rfl ?_ | refine WQ.thenExit ?_ | refine WQ.thenRet ?_ | refine WQ.blk ?_ | refine WQ.blkRet ?_ | refine WQ.blkHere rfl ?_ | refine WQ.blkOther rfl ?_ | refine WL.pure rfl rfl rfl rfl ?_ | refine WL.on rfl rfl ?_ | refine WL.off rfl rfl rfl ?_ | refine WC.condTrue rfl ?_ | refine WC.condFalse rfl ?_)
      refine WQ.ret2 rfl rfl rfl ⟨?_, upd st b ⟨true, leafE (delL k es), nx⟩, mk0 b (delL k es), ⟨⟨trivial, ⟨upd_eq _ _ _, trivial⟩, by simp [bks, mk0]⟩, rfl, fun _ => rfl, fun _ h => h, fun x hx => upd_ne fun e => hx (by rw [e]; simp [bks, mk0])⟩, hps4, fun x hx => ?_, rfl, ?_, ?_, hh4, Nat.le_refl _⟩
      · show _ = Ending.returned (.tuple #[.int .i64 ((getL k es).getD 0), .bool (getL k es).isSome]); rw [hat1]; rfl
      · by_cases e : x = b
        · rw [e, hb]; simp
        · rw [upd_ne e] at hx; exact hx
      · show (delL k es).length ≤ 8; omega
      · show es.length ≤ (delL k es).length + 1; omega
    · have hsome : ¬ (es.map Prod.fst)[p]? = some k := by simp [hpN, hk]
      rw [if_neg hsome] at hat1
      repeat (first | ((with_reducible refine WL.topT ?_ ?_); omega) | ((with_reducible refine WL.topF ?_ ?_); omega) | ((with_reducible refine WL.top64 ?_ ?_); omega) | refine WC.seq ?_ | refine WC.block ?_ | refine WC.region ?_ | refine WL.nil ?_ | refine WC.skip ?_ | refine WC.exit ?_ | refine WC.ret ?_ | refine WQ.then rfl ?_ | refine WQ.thenExit ?_ | refine WQ.thenRet ?_ | refine WQ.blk ?_ | refine WQ.blkRet ?_ | refine WQ.blkHere rfl ?_ | refine WQ.blkOther rfl ?_ | refine WL.pure rfl rfl rfl rfl ?_ | refine WL.on rfl rfl ?_ | refine WL.off rfl rfl rfl ?_ | refine WC.condTrue rfl ?_ | refine WC.condFalse rfl ?_)
      refine WC.as 35 (.bool true) rfl (by simp; exact fun e => hk (ky_eq e)) ?_
      repeat (first | ((with_reducible refine WL.topT ?_ ?_); omega) | ((with_reducible refine WL.topF ?_ ?_); omega) | ((with_reducible refine WL.top64 ?_ ?_); omega) | refine WC.seq ?_ | refine WC.block ?_ | refine WC.region ?_ | refine WL.nil ?_ | refine WC.skip ?_ | refine WC.exit ?_ | refine WC.ret ?_ | refine WQ.then rfl ?_ | refine WQ.thenExit ?_ | refine WQ.thenRet ?_ | refine WQ.blk ?_ | refine WQ.blkRet ?_ | refine WQ.blkHere rfl ?_ | refine WQ.blkOther rfl ?_ | refine WL.pure rfl rfl rfl rfl ?_ | refine WL.on rfl rfl ?_ | refine WL.off rfl rfl rfl ?_ | refine WC.condTrue rfl ?_ | refine WC.condFalse rfl ?_)
      exact WQ.ret2 rfl rfl rfl (stay hat1)
  · have hsome : ¬ (es.map Prod.fst)[p]? = some k := by rw [List.getElem?_eq_none (by simp; omega)]; simp
    rw [if_neg hsome] at hat1
    repeat (first | ((with_reducible refine WL.topT ?_ ?_); omega) | ((with_reducible refine WL.topF ?_ ?_); omega) | ((with_reducible refine WL.top64 ?_ ?_); omega) | refine WC.seq ?_ | refine WC.block ?_ | refine WC.region ?_ | refine WL.nil ?_ | refine WC.skip ?_ | refine WC.exit ?_ | refine WC.ret ?_ | refine WQ.then rfl ?_ | refine WQ.thenExit ?_ | refine WQ.thenRet ?_ | refine WQ.blk ?_ | refine WQ.blkRet ?_ | refine WQ.blkHere rfl ?_ | refine WQ.blkOther rfl ?_ | refine WL.pure rfl rfl rfl rfl ?_ | refine WL.on rfl rfl ?_ | refine WL.off rfl rfl rfl ?_ | refine WL.load rfl rfl rfl rfl rfl rfl (by assumption) ?_ | refine WC.condTrue rfl ?_ | refine WC.condFalse rfl ?_)
    exact WQ.ret2 rfl rfl rfl (stay hat1)
end K
end Go.Proofs.Ytilmfnlaenneeaa

/- Trees (chapter 13): cut, of every tree. -/
namespace Go.Proofs.Ytilmfnlaenneeaa
open Go.RowKit
namespace K
open Tre
theorem list_last {α : Type} (l : List α) (h : l ≠ []) : ∃ p a, l = p ++ [a] := ⟨l.dropLast, l.getLast h, (List.dropLast_concat_getLast h).symm⟩
theorem Mn_of {d b : Nat} {ks : List (Tr d)} (h1 : ks.length ≤ 8) (h2 : ∀ s ∈ ks, 4 ≤ cnt d s ∧ Mn d s) : Mn (d + 1) (mkS b ks) := Mn_mkS.2 ⟨h1, h2⟩
/-- One kid fell to three: it is mended with a neighbour. -/
theorem mend_out {w w' : World} {st st2 : St} {tb b d size N : Nat} {root : Option Nat} {p q : List (Tr d)} {a c : Tr d} {t : Tr (d + 1)} {nx : Option Nat} {k : Ky} (hcut : CutR st st2 (d + 1) t (mkS b (p ++ a :: c :: q)) nx) (hps2 : PS w st tb w' st2)
    (hd2 : ∀ x, st2 x ≠ none → st x ≠ none) (hel : els (d + 1) (mkS b (p ++ a :: c :: q)) = delL k (els (d + 1) t)) (hct : cnt (d + 1) t = (p ++ a :: c :: q).length) (hpl : ∀ s ∈ p, 4 ≤ cnt d s ∧ Mn d s) (hql : ∀ s ∈ q, 4 ≤ cnt d s ∧ Mn d s)
    (hma : Mn d a) (hmc : Mn d c) (ha3 : 3 ≤ cnt d a) (hc3 : 3 ≤ cnt d c) (hbl : (bks (d + 1) (mkS b (p ++ a :: c :: q))).length ≤ (bks (d + 1) t).length) (hlen : (p ++ a :: c :: q).length ≤ 8) {m : Nat} (hm : m + 1 = N + (bks (d + 1) (mkS b (p ++ a :: c :: q))).length)
    {w2 : World} (h : ∃ st' t', CutR st2 st' (d + 1) (mkS b (p ++ a :: c :: q)) t' nx ∧ PS w' st2 tb w2 st' ∧ (∀ x, st' x ≠ none → st2 x ≠ none) ∧
      ((cnt d a + cnt d c ≤ 8 ∧ t' = mkS b (p ++ jn d a c :: q) ∧ VBlk treeT w2 tb (trC root size m)) ∨ (8 < cnt d a + cnt d c ∧ ∃ j, 4 ≤ j ∧ j ≤ 8 ∧ j + 4 ≤ cnt d a + cnt d c ∧ cnt d a + cnt d c ≤ j + 8 ∧ t' = mkS b (p ++ (rd j d a c).1 :: (rd j d a c).2 :: q) ∧ VBlk treeT w2 tb (trC root size (m + 1))))) :
    ∃ st' t', CutR st st' (d + 1) t t' nx ∧ PS w st tb w2 st' ∧ (∀ x, st' x ≠ none → st x ≠ none) ∧ els (d + 1) t' = delL k (els (d + 1) t) ∧ Mn (d + 1) t' ∧ cnt (d + 1) t ≤ cnt (d + 1) t' + 1 ∧ VBlk treeT w2 tb (trC root size (N + (bks (d + 1) t').length)) ∧ (bks (d + 1) t').length ≤ (bks (d + 1) t).length := by
  obtain ⟨st', t', h1, h2, h3, h4⟩ := h
  have hps : PS w st tb w2 st' := hps2.step h2.mem h2.no h2.keep h2.new
  refine ⟨st', t', hcut.trans h1, hps, fun x hx => hd2 x (h3 x hx), ?_⟩
  have hbk0 : (bks (d + 1) (mkS b (p ++ a :: c :: q))).length = 1 + (p.flatMap (bks d)).length + (bks d a).length + (bks d c).length + (q.flatMap (bks d)).length := by
    rw [bks_mkS]; simp only [List.flatMap_append, List.flatMap_cons, List.length_cons, List.length_append]; omega
  rcases h4 with ⟨hs, rfl, hh⟩ | ⟨hs, j, j1, j2, j3, j4, rfl, hh⟩
  · have hbk : (bks (d + 1) (mkS b (p ++ jn d a c :: q))).length + 1 = (bks (d + 1) (mkS b (p ++ a :: c :: q))).length := by
      rw [hbk0, bks_mkS]
      have := jn_len d a c
      simp only [List.flatMap_append, List.flatMap_cons, List.length_cons, List.length_append]
      omega
    refine ⟨?_, Mn_of ?_ ?_, ?_, ?_, by omega⟩
    · rw [← hel, els_mkS, els_mkS]
      simp only [List.flatMap_append, List.flatMap_cons, jn_els, List.append_assoc]
    · simp only [List.length_append, List.length_cons] at hlen ⊢; omega
    · intro s hsm
      simp only [List.mem_append, List.mem_cons] at hsm
      rcases hsm with hsm | rfl | hsm
      · exact hpl s hsm
      · exact ⟨by rw [jn_cnt]; omega, jn_mn hma hmc hs⟩
      · exact hql s hsm
    · rw [hct, cnt_mkS]; simp only [List.length_append, List.length_cons]; omega
    · rw [show N + (bks (d + 1) (mkS b (p ++ jn d a c :: q))).length = m by omega]; exact hh
  · have hbk : (bks (d + 1) (mkS b (p ++ (rd j d a c).1 :: (rd j d a c).2 :: q))).length = (bks (d + 1) (mkS b (p ++ a :: c :: q))).length := by
      rw [hbk0, bks_mkS]
      have := rd_len j d a c
      simp only [List.flatMap_append, List.flatMap_cons, List.length_cons, List.length_append]
      omega
    obtain ⟨rc1, rc2⟩ := rd_cnt j d a c (by omega)
    obtain ⟨rm1, rm2⟩ := rd_mn (j := j) hma hmc j2 (by omega) (by omega)
    refine ⟨?_, Mn_of ?_ ?_, ?_, ?_, by omega⟩
    · rw [← hel, els_mkS, els_mkS]
      simp only [List.flatMap_append, List.flatMap_cons]
      rw [← List.append_assoc (els d (rd j d a c).1), rd_els, List.append_assoc]
    · simp only [List.length_append, List.length_cons] at hlen ⊢; omega
    · intro s hsm
      simp only [List.mem_append, List.mem_cons] at hsm
      rcases hsm with hsm | rfl | rfl | hsm
      · exact hpl s hsm
      · exact ⟨by omega, rm1⟩
      · exact ⟨by omega, rm2⟩
      · exact hql s hsm
    · rw [hct, cnt_mkS]; simp only [List.length_append, List.length_cons]; omega
    · rw [hbk, ← hm]; exact hh
set_option maxRecDepth 20000 in
set_option maxHeartbeats 8000000 in
theorem tcut_any : ∀ (d : Nat) {w : World} {st : St} {tb size N : Nat} {root : Option Nat} {k : Ky} {t : Tr d} {nx : Option Nat} (_ : Mem w st) (_ : st tb = none) (_ : At st d t nx) (_ : ∀ q, nx = some q → st q ≠ none ∧ q ∉ bks d t) (_ : Srt (els d t)) (_ : Mn d t) (_ : d = 0 ∨ 2 ≤ cnt d t)
    (_ : VBlk treeT w tb (trC root size (N + (bks d t).length))) (_ : N + (bks d t).length < 4611686018427387904),
    Calls Try.prog 31 #[.pointer (some ⟨tb, 0, none⟩), .pointer (some ⟨blk d t, 0, none⟩), .string k] w (CutPost w st tb root size N k d t nx)
  | 0, w, st, tb, size, N, root, k, t, nx, hm, hno, hat, _, hs, hmn, _, hh, _ => by
    obtain ⟨b, es⟩ := t
    exact tcut_leaf hm hno hat hs hmn hh
  | d + 1, w, st, tb, size, N, root, k, t, nx, hm, hno, hat, hnx, hs, hmn, h2, hh, hbig => by
    obtain ⟨b, ks⟩ := t
    have hat : At st (d + 1) (mkS b ks) nx := hat
    have h2 : 2 ≤ ks.length := by rcases h2 with e | e; cases e; exact e
    obtain ⟨hk8, hks⟩ : ks.length ≤ 8 ∧ ∀ s ∈ ks, 4 ≤ cnt d s ∧ Mn d s := Mn_mkS.1 hmn
    have hs : Srt (ks.flatMap (els d)) := hs
    show Calls Try.prog 31 #[.pointer (some ⟨tb, 0, none⟩), .pointer (some ⟨b, 0, none⟩), .string k] w (CutPost w st tb root size N k (d + 1) (mkS b ks) nx)
    refine enter (args := [.pointer (some ⟨tb, 0, none⟩), .pointer (some ⟨b, 0, none⟩), .string k]) Try.func31 rfl Try.ntmps31 rfl ?_
    have hps := PS.start hm hno
    have hb : st b = some ⟨false, ks.map (kidE d), none⟩ := (RepI_mkS.1 hat.rep).1
    obtain ⟨-, pb, vb⟩ := hm _ _ hb
    have hbt : tb ≠ b := fun e => by rw [← e, hno] at hb; cases hb
    have hml : ∀ l : List (Tr d), (l.map (kidE d)).length = l.length := fun l => List.length_map ..
    have l0 : w.cell? ⟨b, 0, none⟩ = some (.bool false) := cellR vb (by omega)
    repeat (first | ((with_reducible refine WL.topT ?_ ?_); omega) | ((with_reducible refine WL.topF ?_ ?_); omega) | ((with_reducible refine WL.top64 ?_ ?_); omega) | refine WC.seq ?_ | refine WC.block ?_ | refine WC.region ?_ | refine WL.nil ?_ | refine WC.skip ?_ | refine WC.exit ?_ | refine WC.ret ?_ | refine WQ.then rfl ?_ | refine WQ.thenExit ?_ | refine WQ.thenRet ?_ | refine WQ.blk ?_ | refine WQ.blkRet ?_ | refine WQ.blkHere rfl ?_ | refine WQ.blkOther rfl ?_ | refine WL.pure rfl rfl rfl rfl ?_ | refine WL.on rfl rfl ?_ | refine WL.off rfl rfl rfl ?_ | refine WL.load rfl rfl rfl rfl rfl rfl (by assumption) ?_ | refine WC.condTrue rfl ?_ | refine WC.condFalse rfl ?_)
    refine WL.call rfl rfl rfl rfl rfl Try.func26 rfl (by kernel_rfl) (kid_any (key := k) vb (by show (ks.map (kidE d)).length ≤ 8; rw [hml]; omega) (by show 1 ≤ (ks.map (kidE d)).length; rw [hml]; omega)) ?_
    rintro _ w3 ⟨rfl, rfl⟩
    refine ⟨_, rfl, ?_⟩
    obtain ⟨l, s, r, hke, hki, hlo, hhi, -⟩ := kid_cut (k := k) (fun x hx => els_ne (hks x hx).2 (by have := (hks x hx).1; omega)) hs (fun e => by rw [e] at h2; simp at h2)
    simp only [keys_kid, hml]
    rw [← hki]
    subst hke
    clear hki l0
    have hl7 : l.length < 8 := by simp only [List.length_append, List.length_cons] at hk8; omega
    have hkd := kidR vb (i := l.length) (q := blk d s) (by omega) (by show (((l ++ s :: r).map (kidE d)).getD l.length noE).kid = _; rw [kid_at]; rfl)
    have hss : Srt (els d s) := by
      rw [List.flatMap_append, List.flatMap_cons] at hs
      exact (srt_app.1 (srt_app.1 hs).2.1).1
    have hsm := hks s (by simp)
    have hbk : (bks (d + 1) (mkS b (l ++ s :: r))).length = 1 + (l.flatMap (bks d)).length + (bks d s).length + (r.flatMap (bks d)).length := by
      rw [bks_mkS]; simp only [List.flatMap_append, List.flatMap_cons, List.length_cons, List.length_append]; omega
    have hbs := parts3 hat.nodup
    obtain ⟨N', hN'⟩ : ∃ N', N + 1 + (l.flatMap (bks d)).length + (r.flatMap (bks d)).length = N' := ⟨_, rfl⟩
    have hh' : VBlk treeT w3 tb (trC root size (N' + (bks d s).length)) := by
      have e : N + (bks (d + 1) (mkS b (l ++ s :: r))).length = N' + (bks d s).length := by omega
      have := hh
      rw [show N + (bks (d + 1) (b, l ++ s :: r)).length = N' + (bks d s).length from e] at this
      exact this
    have hbig' : N' + (bks d s).length < 4611686018427387904 := by
      have : N + (bks (d + 1) (mkS b (l ++ s :: r))).length < 4611686018427387904 := hbig
      omega
    repeat (first | ((with_reducible refine WL.topT ?_ ?_); omega) | ((with_reducible refine WL.topF ?_ ?_); omega) | ((with_reducible refine WL.top64 ?_ ?_); omega) | refine WC.seq ?_ | refine WC.block ?_ | refine WC.region ?_ | refine WL.nil ?_ | refine WC.skip ?_ | refine WC.exit ?_ | refine WC.ret ?_ | refine WQ.then rfl ?_ | refine WQ.thenExit ?_ | refine WQ.thenRet ?_ | refine WQ.blk ?_ | refine WQ.blkRet ?_ | refine WQ.blkHere rfl ?_ | refine WQ.blkOther rfl ?_ | refine WL.pure rfl rfl rfl rfl ?_ | refine WL.on rfl rfl ?_ | refine WL.off rfl rfl rfl ?_ | refine WC.condTrue rfl ?_ | refine WC.condFalse rfl ?_)
    refine WL.idxA l.length (18 + l.length) rfl rfl rfl rfl rfl rfl rfl rfl (by omega) (by omega) ?_
    refine WL.load rfl rfl rfl rfl rfl rfl hkd ?_
    repeat (first | ((with_reducible refine WL.topT ?_ ?_); omega) | ((with_reducible refine WL.topF ?_ ?_); omega) | ((with_reducible refine WL.top64 ?_ ?_); omega) | refine WC.seq ?_ | refine WC.block ?_ | refine WC.region ?_ | refine WL.nil ?_ | refine WC.skip ?_ | refine WC.exit ?_ | refine WC.ret ?_ | refine WQ.then rfl ?_ | refine WQ.thenExit ?_ | refine WQ.thenRet ?_ | refine WQ.blk ?_ | refine WQ.blkRet ?_ | refine WQ.blkHere rfl ?_ | refine WQ.blkOther rfl ?_ | refine WL.pure rfl rfl rfl rfl ?_ | refine WL.on rfl rfl ?_ | refine WL.off rfl rfl rfl ?_ | refine WC.condTrue rfl ?_ | refine WC.condFalse rfl ?_)
    refine WL.call rfl rfl rfl rfl rfl Try.func31 rfl (by kernel_rfl) (tcut_any d (k := k) hm hno (At_sub hat) (At_next hat hnx) hss hsm.2 (by omega) hh' hbig') ?_
    rintro _ w4 ⟨rfl, st4, s', hcr, hps4, hd4, hel4, hmn4, hlow4, hh4, hbl4⟩
    refine ⟨_, rfl, ?_⟩
    have hget : getL k (els (d + 1) (mkS b (l ++ s :: r))) = getL k (els d s) := by
      rw [els_mkS, List.flatMap_append, List.flatMap_cons, getL_lo hlo, getL_hi hhi]
    -- the kid's key anew
    have hb4 : st4 b = some ⟨false, (l ++ s :: r).map (kidE d), none⟩ := by
      rw [hcr.same b (fun e => (List.nodup_cons.1 hbs).1 (List.mem_append_left _ e))]; exact hb
    obtain ⟨-, pb4, vb4⟩ := hps4.mem _ _ hb4
    have hkd4 := kidR vb4 (i := l.length) (q := blk d s) (by omega) (by show (((l ++ s :: r).map (kidE d)).getD l.length noE).kid = _; rw [kid_at]; rfl)
    obtain ⟨nxs, hs4, -⟩ := nodeAt hcr.here.rep hcr.here.lnk
    rw [hcr.blk] at hs4
    obtain ⟨-, ps4, vs4⟩ := hps4.mem _ _ hs4
    obtain ⟨C, hC⟩ : ∃ C, cnt d s' = C := ⟨_, rfl⟩
    have hC3 : 3 ≤ C := by omega
    have hC8 : C ≤ 8 := by rw [← hC]; exact hmn4.le
    have hcl : (ents d s').length = C := by rw [ents_len, hC]
    have hcs := cntR vs4 hcl
    have q1 := keyR vs4 (i := 0) (by omega)
    simp only [ents_key0 hmn4 (by omega : 1 ≤ cnt d s')] at q1
    repeat (first | ((with_reducible refine WL.topT ?_ ?_); omega) | ((with_reducible refine WL.topF ?_ ?_); omega) | ((with_reducible refine WL.top64 ?_ ?_); omega) | refine WC.seq ?_ | refine WC.block ?_ | refine WC.region ?_ | refine WL.nil ?_ | refine WC.skip ?_ | refine WC.exit ?_ | refine WC.ret ?_ | refine WQ.then rfl ?_ | refine WQ.thenExit ?_ | refine WQ.thenRet ?_ | refine WQ.blk ?_ | refine WQ.blkRet ?_ | refine WQ.blkHere rfl ?_ | refine WQ.blkOther rfl ?_ | refine WL.pure rfl rfl rfl rfl ?_ | refine WL.on rfl rfl ?_ | refine WL.off rfl rfl rfl ?_ | refine WC.condTrue rfl ?_ | refine WC.condFalse rfl ?_)
    refine WL.idxA l.length (18 + l.length) rfl rfl rfl rfl rfl rfl rfl rfl (by omega) (by omega) ?_
    refine WL.load rfl rfl rfl rfl rfl rfl hkd4 ?_
    repeat (first | ((with_reducible refine WL.topT ?_ ?_); omega) | ((with_reducible refine WL.topF ?_ ?_); omega) | ((with_reducible refine WL.top64 ?_ ?_); omega) | refine WC.seq ?_ | refine WC.block ?_ | refine WC.region ?_ | refine WL.nil ?_ | refine WC.skip ?_ | refine WC.exit ?_ | refine WC.ret ?_ | refine WQ.then rfl ?_ | refine WQ.thenExit ?_ | refine WQ.thenRet ?_ | refine WQ.blk ?_ | refine WQ.blkRet ?_ | refine WQ.blkHere rfl ?_ | refine WQ.blkOther rfl ?_ | refine WL.pure rfl rfl rfl rfl ?_ | refine WL.on rfl rfl ?_ | refine WL.off rfl rfl rfl ?_ | refine WL.load rfl rfl rfl rfl rfl rfl (by assumption) ?_ | refine WC.condTrue rfl ?_ | refine WC.condFalse rfl ?_)
    refine WC.drawn 15 (fun wx => wx.heap = w4.heap) fun w5 hd => ?_
    have hS : w5.heap = w4.heap := hd.heap
    have hps5 := hps4.step (hps4.mem.below (hd.below _)) hps4.no (Keep.ofDrew hd _) fun x hx => .inl hx
    have vb5 := vb4.below (hd.below _) vb4.lt
    have hh5 := hh4.below (hd.below _) hh4.lt
    clear hd
    (((first | refine WD.free 0 rfl (by kernel_rfl) rfl rfl (fun _ _ _ _ _ h => h) rfl rfl (.inr hS) ?_ | refine WD.skip 0 rfl (by kernel_rfl) rfl rfl (fun _ _ _ _ _ h => h) rfl (.inr hS) ?_); try (first | ((with_reducible refine WD.topT ?_ ?_); omega) | ((with_reducible refine WD.topF ?_ ?_); omega) | ((with_reducible refine WD.top64 ?_ ?_); omega))); ((first | refine WD.free 1 rfl (by kernel_rfl) rfl rfl (fun _ _ _ _ _ h => h) rfl rfl (.inr hS) ?_ | refine WD.skip 1 rfl (by kernel_rfl) rfl rfl (fun _ _ _ _ _ h => h) rfl (.inr hS) ?_); try (first | ((with_reducible refine WD.topT ?_ ?_); omega) | ((with_reducible refine WD.topF ?_ ?_); omega) | ((with_reducible refine WD.top64 ?_ ?_); omega))); ((first | refine WD.free 2 rfl (by kernel_rfl) rfl rfl (fun _ _ _ _ _ h => h) rfl rfl (.inr hS) ?_ | refine WD.skip 2 rfl (by kernel_rfl) rfl rfl (fun _ _ _ _ _ h => h) rfl (.inr hS) ?_); try (first | ((with_reducible refine WD.topT ?_ ?_); omega) | ((with_reducible refine WD.topF ?_ ?_); omega) | ((with_reducible refine WD.top64 ?_ ?_); omega))); ((first | refine WD.free 3 rfl (by kernel_rfl) rfl rfl (fun _ _ _ _ _ h => h) rfl rfl (.inr hS) ?_ | refine WD.skip 3 rfl (by kernel_rfl) rfl rfl (fun _ _ _ _ _ h => h) rfl (.inr hS) ?_); try (first | ((with_reducible refine WD.topT ?_ ?_); omega) | ((with_reducible refine WD.topF ?_ ?_); omega) | ((with_reducible refine WD.top64 ?_ ?_); omega))); ((first | refine WD.free 4 rfl (by kernel_rfl) rfl rfl (fun _ _ _ _ _ h => h) rfl rfl (.inr hS) ?_ | refine WD.skip 4 rfl (by kernel_rfl) rfl rfl (fun _ _ _ _ _ h => h) rfl (.inr hS) ?_); try (first | ((with_reducible refine WD.topT ?_ ?_); omega) | ((with_reducible refine WD.topF ?_ ?_); omega) | ((with_reducible refine WD.top64 ?_ ?_); omega))); ((first | refine WD.free 5 rfl (by kernel_rfl) rfl rfl (fun _ _ _ _ _ h => h) rfl rfl (.inr hS) ?_ | refine WD.skip 5 rfl (by kernel_rfl) rfl rfl (fun _ _ _ _ _ h => h) rfl (.inr hS) ?_); try (first | ((with_reducible refine WD.topT ?_ ?_); omega) | ((with_reducible refine WD.topF ?_ ?_); omega) | ((with_reducible refine WD.top64 ?_ ?_); omega))))
    refine WD.idxA 6 l.length (18 + l.length) rfl (by kernel_rfl) rfl rfl (fun _ _ _ _ _ h => h) rfl rfl rfl rfl rfl rfl (by omega) (by omega) (.inr hS) ?_
    refine WD.load 7 [8, 9, 10, 11, 14, 15] rfl (by kernel_rfl) rfl rfl (fun _ _ _ _ _ h => h) rfl rfl rfl rfl (fun wx hx => (heap_cell hx _).trans hkd4) hS ?_
    (((first | refine WD.free 8 rfl (by kernel_rfl) rfl rfl (fun _ _ _ _ _ h => h) rfl rfl (.inr hS) ?_ | refine WD.skip 8 rfl (by kernel_rfl) rfl rfl (fun _ _ _ _ _ h => h) rfl (.inr hS) ?_); try (first | ((with_reducible refine WD.topT ?_ ?_); omega) | ((with_reducible refine WD.topF ?_ ?_); omega) | ((with_reducible refine WD.top64 ?_ ?_); omega))); ((first | refine WD.free 9 rfl (by kernel_rfl) rfl rfl (fun _ _ _ _ _ h => h) rfl rfl (.inr hS) ?_ | refine WD.skip 9 rfl (by kernel_rfl) rfl rfl (fun _ _ _ _ _ h => h) rfl (.inr hS) ?_); try (first | ((with_reducible refine WD.topT ?_ ?_); omega) | ((with_reducible refine WD.topF ?_ ?_); omega) | ((with_reducible refine WD.top64 ?_ ?_); omega))))
    refine WD.idxA 10 0 2 rfl (by kernel_rfl) rfl rfl (fun _ _ _ _ _ h => h) rfl rfl rfl rfl rfl rfl (by omega) (by omega) (.inr hS) ?_
    refine WD.load 11 [14, 15] rfl (by kernel_rfl) rfl rfl (fun _ _ _ _ _ h => h) rfl rfl rfl rfl (fun wx hx => (heap_cell hx _).trans q1) hS ?_
    (((first | refine WD.free 12 rfl (by kernel_rfl) rfl rfl (fun _ _ _ _ _ h => h) rfl rfl (.inr hS) ?_ | refine WD.skip 12 rfl (by kernel_rfl) rfl rfl (fun _ _ _ _ _ h => h) rfl (.inr hS) ?_); try (first | ((with_reducible refine WD.topT ?_ ?_); omega) | ((with_reducible refine WD.topF ?_ ?_); omega) | ((with_reducible refine WD.top64 ?_ ?_); omega))); ((first | refine WD.free 13 rfl (by kernel_rfl) rfl rfl (fun _ _ _ _ _ h => h) rfl rfl (.inr hS) ?_ | refine WD.skip 13 rfl (by kernel_rfl) rfl rfl (fun _ _ _ _ _ h => h) rfl (.inr hS) ?_); try (first | ((with_reducible refine WD.topT ?_ ?_); omega) | ((with_reducible refine WD.topF ?_ ?_); omega) | ((with_reducible refine WD.top64 ?_ ?_); omega))))
    refine WD.idxA 14 l.length (2 + l.length) rfl (by kernel_rfl) rfl rfl (fun _ _ _ _ _ h => h) rfl rfl rfl rfl rfl rfl (by omega) (by omega) (.inr hS) ?_
    refine WD.one 15 (by kernel_rfl) rfl ?_
    refine WL.store rfl rfl rfl rfl rfl rfl (by kernel_rfl) (cellR vb5 (by omega)) (vb5.free _) ?_
    have vb6 := setR vb5 (2 + l.length) (.string (fk d s'))
    rw [row_key _ _ (by show l.length < ((l ++ s :: r).map (kidE d)).length; rw [hml]; simp) (by show ((l ++ s :: r).map (kidE d)).length ≤ 8; rw [hml]; exact hk8)] at vb6
    have hset : ((l ++ s :: r).map (kidE d)).set l.length ⟨fk d s', (((l ++ s :: r).map (kidE d)).getD l.length noE).num, (((l ++ s :: r).map (kidE d)).getD l.length noE).kid⟩ = (l ++ s' :: r).map (kidE d) := by
      rw [set_kid, kid_at]
      simp only [List.map_append, List.map_cons, kidE]
      rw [hcr.blk]
    simp only [hset] at vb6
    have k6 : Keep (fun x => x ≠ b) w5 (w5.setCell ⟨b, 2 + l.length, none⟩ (.string (fk d s'))) := (Keep.refl _ _).setCell (fun hk => hk rfl) _
    have hlen' : (l ++ s' :: r).length = (l ++ s :: r).length := by simp
    have hps6 := hps5.node (b := b) (by rw [hb4]; simp) k6 (by show ((l ++ s' :: r).map (kidE d)).length ≤ 8; rw [hml, hlen']; exact hk8) vb6
    have hh6 := hh5.keep k6 hbt
    generalize w5.setCell ⟨b, 2 + l.length, none⟩ (.string (fk d s')) = w6 at vb6 k6 hps6 hh6 ⊢
    refine WL.nil (WQ.dk (.inl rfl) ?_)
    refine WD.done (by kernel_rfl) ?_
    have hcut := CutR.kid hat hcr
    obtain ⟨st6, hst6⟩ : ∃ st6, upd st4 b ⟨false, (l ++ s' :: r).map (kidE d), none⟩ = st6 := ⟨_, rfl⟩
    rw [hst6] at hps6 hcut
    have hd6 : ∀ x, st6 x ≠ none → st x ≠ none := fun x hx => by
      by_cases e : x = b
      · rw [e, hb]; simp
      · rw [← hst6, upd_ne e] at hx; exact hd4 x hx
    have hel6 : els (d + 1) (mkS b (l ++ s' :: r)) = delL k (els (d + 1) (mkS b (l ++ s :: r))) := by
      rw [els_mkS, els_mkS, List.flatMap_append, List.flatMap_append, List.flatMap_cons, List.flatMap_cons, delL_app, delL_app, delL_lo hlo, delL_hi hhi, hel4]
    have hb6 : st6 b = some ⟨false, (l ++ s' :: r).map (kidE d), none⟩ := by rw [← hst6, upd_eq]
    have hs6 : st6 (blk d s) = some ⟨d == 0, ents d s', nxs⟩ := by
      rw [← hst6, upd_ne (fun e => (List.nodup_cons.1 hbs).1 (by rw [← e]; exact List.mem_append_left _ (blk_mem d s)))]; exact hs4
    obtain ⟨-, ps6, vs6⟩ := hps6.mem _ _ hs6
    have hcs6 := cntR vs6 hcl
    have hkd6 := kidR vb6 (i := l.length) (q := blk d s) (by omega) (by show (((l ++ s' :: r).map (kidE d)).getD l.length noE).kid = _; rw [kid_at]; show some (blk d s') = _; rw [hcr.blk])
    have hcb6 := cntR vb6 (n := (l ++ s :: r).length) (by show ((l ++ s' :: r).map (kidE d)).length = _; rw [hml, hlen'])
    have hbk' : (bks (d + 1) (mkS b (l ++ s' :: r))).length = 1 + (l.flatMap (bks d)).length + (bks d s').length + (r.flatMap (bks d)).length := by
      rw [bks_mkS]; simp only [List.flatMap_append, List.flatMap_cons, List.length_cons, List.length_append]; omega
    have hh6' : VBlk treeT w6 tb (trC root size (N + (bks (d + 1) (mkS b (l ++ s' :: r))).length)) := by
      rw [hbk', show N + (1 + (l.flatMap (bks d)).length + (bks d s').length + (r.flatMap (bks d)).length) = N' + (bks d s').length by omega]; exact hh6
    have fin : ∀ {wz : World}, (∃ st' t', CutR st st' (d + 1) (mkS b (l ++ s :: r)) t' nx ∧ PS w3 st tb wz st' ∧ (∀ x, st' x ≠ none → st x ≠ none) ∧ els (d + 1) t' = delL k (els (d + 1) (mkS b (l ++ s :: r))) ∧ Mn (d + 1) t' ∧ cnt (d + 1) (mkS b (l ++ s :: r)) ≤ cnt (d + 1) t' + 1 ∧ VBlk treeT wz tb (trC root size (N + (bks (d + 1) t').length)) ∧ (bks (d + 1) t').length ≤ (bks (d + 1) (mkS b (l ++ s :: r))).length) →
        CutPost w3 st tb root size N k (d + 1) (mkS b (l ++ s :: r)) nx (.returned (.tuple #[.int .i64 ((getL k (els d s)).getD 0), .bool (getL k (els d s)).isSome])) wz := fun h => ⟨by rw [hget], h⟩
    clear hcs q1 hkd hkd4 vs4 vb4 vb5 vb hh hh4 hh5 hh6 hh' hps4 hps5
    by_cases hC4 : 4 ≤ C
    · repeat (first | ((with_reducible refine WL.topT ?_ ?_); omega) | ((with_reducible refine WL.topF ?_ ?_); omega) | ((with_reducible refine WL.top64 ?_ ?_); omega) | refine WC.seq ?_ | refine WC.block ?_ | refine WC.region ?_ | refine WL.nil ?_ | refine WC.skip ?_ | refine WC.exit ?_ | refine WC.ret ?_ | refine WQ.then rfl ?_ | refine WQ.thenExit ?_ | refine WQ.thenRet ?_ | refine WQ.blk ?_ | refine WQ.blkRet ?_ | refine WQ.blkHere rfl ?_ | refine WQ.blkOther rfl ?_ | refine WL.pure rfl rfl rfl rfl ?_ | refine WL.on rfl rfl ?_ | refine WL.off rfl rfl rfl ?_ | refine WC.condTrue rfl ?_ | refine WC.condFalse rfl ?_)
      refine WL.idxA l.length (18 + l.length) rfl rfl rfl rfl rfl rfl rfl rfl (by omega) (by omega) ?_
      refine WL.load rfl rfl rfl rfl rfl rfl hkd6 ?_
      repeat (first | ((with_reducible refine WL.topT ?_ ?_); omega) | ((with_reducible refine WL.topF ?_ ?_); omega) | ((with_reducible refine WL.top64 ?_ ?_); omega) | refine WC.seq ?_ | refine WC.block ?_ | refine WC.region ?_ | refine WL.nil ?_ | refine WC.skip ?_ | refine WC.exit ?_ | refine WC.ret ?_ | refine WQ.then rfl ?_ | refine WQ.thenExit ?_ | refine WQ.thenRet ?_ | refine WQ.blk ?_ | refine WQ.blkRet ?_ | refine WQ.blkHere rfl ?_ | refine WQ.blkOther rfl ?_ | refine WL.pure rfl rfl rfl rfl ?_ | refine WL.on rfl rfl ?_ | refine WL.off rfl rfl rfl ?_ | refine WL.load rfl rfl rfl rfl rfl rfl (by assumption) ?_ | refine WC.condTrue rfl ?_ | refine WC.condFalse rfl ?_)
      refine WQ.ret2 rfl rfl rfl (fin ⟨st6, mkS b (l ++ s' :: r), hcut, hps6, hd6, hel6, Mn_of (by rw [hlen']; exact hk8) fun x hx => ?_, by rw [cnt_mkS, cnt_mkS, hlen']; exact Nat.le_succ _, hh6', by omega⟩)
      simp only [List.mem_append, List.mem_cons] at hx
      rcases hx with hx | rfl | hx
      · exact hks x (by simp [hx])
      · exact ⟨by omega, hmn4⟩
      · exact hks x (by simp [hx])
    · obtain rfl : C = 3 := by omega
      have hnx6 : ∀ q, nx = some q → st6 q ≠ none := fun q hq => by
        obtain ⟨h1, h2⟩ := hnx q hq
        rw [hcut.same q h2]
        exact h1
      repeat (first | ((with_reducible refine WL.topT ?_ ?_); omega) | ((with_reducible refine WL.topF ?_ ?_); omega) | ((with_reducible refine WL.top64 ?_ ?_); omega) | refine WC.seq ?_ | refine WC.block ?_ | refine WC.region ?_ | refine WL.nil ?_ | refine WC.skip ?_ | refine WC.exit ?_ | refine WC.ret ?_ | refine WQ.then rfl ?_ | refine WQ.thenExit ?_ | refine WQ.thenRet ?_ | refine WQ.blk ?_ | refine WQ.blkRet ?_ | refine WQ.blkHere rfl ?_ | refine WQ.blkOther rfl ?_ | refine WL.pure rfl rfl rfl rfl ?_ | refine WL.on rfl rfl ?_ | refine WL.off rfl rfl rfl ?_ | refine WC.condTrue rfl ?_ | refine WC.condFalse rfl ?_)
      refine WL.idxA l.length (18 + l.length) rfl rfl rfl rfl rfl rfl rfl rfl (by omega) (by omega) ?_
      refine WL.load rfl rfl rfl rfl rfl rfl hkd6 ?_
      repeat (first | ((with_reducible refine WL.topT ?_ ?_); omega) | ((with_reducible refine WL.topF ?_ ?_); omega) | ((with_reducible refine WL.top64 ?_ ?_); omega) | refine WC.seq ?_ | refine WC.block ?_ | refine WC.region ?_ | refine WL.nil ?_ | refine WC.skip ?_ | refine WC.exit ?_ | refine WC.ret ?_ | refine WQ.then rfl ?_ | refine WQ.thenExit ?_ | refine WQ.thenRet ?_ | refine WQ.blk ?_ | refine WQ.blkRet ?_ | refine WQ.blkHere rfl ?_ | refine WQ.blkOther rfl ?_ | refine WL.pure rfl rfl rfl rfl ?_ | refine WL.on rfl rfl ?_ | refine WL.off rfl rfl rfl ?_ | refine WL.load rfl rfl rfl rfl rfl rfl (by assumption) ?_ | refine WC.condTrue rfl ?_ | refine WC.condFalse rfl ?_)
      obtain ⟨p, a, c, q, hpq, hpl, hp4, hq4, hma, hmc, ha3, hc3, h33⟩ : ∃ p a c q, l ++ s' :: r = p ++ a :: c :: q ∧ p.length = l.length - 1 ∧ (∀ x ∈ p, 4 ≤ cnt d x ∧ Mn d x) ∧ (∀ x ∈ q, 4 ≤ cnt d x ∧ Mn d x) ∧ Mn d a ∧ Mn d c ∧ 3 ≤ cnt d a ∧ 3 ≤ cnt d c ∧ (cnt d a = 3 ∨ cnt d c = 3) := by
        by_cases hl : l = []
        · subst hl
          cases r with
          | nil => simp at h2
          | cons c q =>
            have hc := hks c (by simp)
            exact ⟨[], s', c, q, rfl, rfl, fun x hx => (by cases hx), fun x hx => hks x (by simp [hx]), hmn4, hc.2, by omega, by omega, .inl hC⟩
        · obtain ⟨p, a, rfl⟩ := list_last l hl
          have ha := hks a (by simp)
          exact ⟨p, a, s', r, by simp, by simp, fun x hx => hks x (by simp [hx]), fun x hx => hks x (by simp [hx]), ha.2, hmn4, by omega, by omega, .inr hC⟩
      have hct : cnt (d + 1) (mkS b (l ++ s :: r)) = (p ++ a :: c :: q).length := by rw [← hpq, cnt_mkS, hlen']
      have hl8 : (p ++ a :: c :: q).length ≤ 8 := by rw [← hpq, hlen']; exact hk8
      rw [hpq] at hcut hel6 hh6'
      obtain ⟨m, hmm⟩ : ∃ m, m + 1 = N + (bks (d + 1) (mkS b (p ++ a :: c :: q))).length := ⟨N + (bks (d + 1) (mkS b (p ++ a :: c :: q))).length - 1, by rw [bks_mkS, List.length_cons]; omega⟩
      rw [← hmm] at hh6'
      have hmb : m < 4611686018427387904 := by
        have e := hbk'
        rw [hpq] at e
        omega
      refine WL.as 107 (.int .i64 p.length) rfl (congrArg (Value.int .i64) (by rw [hpl]; show (if ((l.length : Int) - 1) > 0 then ((l.length : Int) - 1) else 0) = _; split <;> omega)) ?_
      refine WL.call rfl rfl rfl rfl rfl Try.func39 rfl (by kernel_rfl) (mends_any (p := p) (a := a) (c := c) (q := q) hps6.mem hps6.no hcut.here (At_valid hcut.here hnx6 (by simp)) hma hmc ha3 hc3 h33 hl8 hh6' hmb) ?_
      rintro _ w7 ⟨rfl, h7⟩
      refine ⟨_, rfl, ?_⟩
      repeat (first | ((with_reducible refine WL.topT ?_ ?_); omega) | ((with_reducible refine WL.topF ?_ ?_); omega) | ((with_reducible refine WL.top64 ?_ ?_); omega) | refine WC.seq ?_ | refine WC.block ?_ | refine WC.region ?_ | refine WL.nil ?_ | refine WC.skip ?_ | refine WC.exit ?_ | refine WC.ret ?_ | refine WQ.then rfl ?_ | refine WQ.thenExit ?_ | refine WQ.thenRet ?_ | refine WQ.blk ?_ | refine WQ.blkRet ?_ | refine WQ.blkHere rfl ?_ | refine WQ.blkOther rfl ?_ | refine WL.pure rfl rfl rfl rfl ?_ | refine WL.on rfl rfl ?_ | refine WL.off rfl rfl rfl ?_ | refine WC.condTrue rfl ?_ | refine WC.condFalse rfl ?_)
      exact WQ.ret2 rfl rfl rfl (fin (mend_out hcut hps6 hd6 hel6 hct hp4 hq4 hma hmc ha3 hc3 (by rw [← hpq]; omega) hl8 hmm h7))
end K
end Go.Proofs.Ytilmfnlaenneeaa
