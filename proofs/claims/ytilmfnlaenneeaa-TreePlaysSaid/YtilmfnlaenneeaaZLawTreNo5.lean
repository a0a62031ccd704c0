/- Texts for LawTreNo, part 5 of 6. -/
import Derived.Test.YtilmfnlaenneeaaZLawTreNo4
import Derived.Shelf.Abstract
import Derived.OrdersIn
import Derived.ProofKit
import Derived.OpenShut
import Derived.ShutString
import Derived.ChangeOld
import Derived.Below
import Derived.Deep.Slices
import Derived.SizedLaws
import Derived.DataOpen
import Derived.ChangeMaps5
/- Trees (chapter 13): Delete. -/
namespace Go.Proofs.Ytilmfnlaenneeaa
open Go.RowKit
namespace K
open Tre
theorem delL_length {k : Ky} {l : List KV} (h : Srt l) : (delL k l).length + (if (getL k l).isSome then 1 else 0) = l.length := by
  have hp := plc_le k (l.map Prod.fst)
  rw [List.length_map] at hp
  rw [del_at h, getL_at h]
  by_cases c : (l.map Prod.fst)[plc k (l.map Prod.fst)]? = some k
  · have hlt : plc k (l.map Prod.fst) < l.length := by
      rcases Nat.lt_or_ge (plc k (l.map Prod.fst)) l.length with h | h
      · exact h
      · rw [List.getElem?_eq_none (by simpa using h)] at c; cases c
    rw [if_pos c, if_pos c, List.getElem?_eq_getElem hlt]
    simp only [List.length_append, List.length_take, List.length_drop, Option.map_some, Option.isSome_some, if_true]
    omega
  · rw [if_neg c, if_neg c]
    simp
/-- A tree whose root may have to go. -/
structure DX where
  D : Nat
  T : Tr D
structure DW (w : World) (st : St) (tb : Nat) (L : List KV) (w' : World) (x : DX) (st' : St) : Prop where
  ps : PS w st tb w' st'
  here : At st' x.D x.T none
  el : els x.D x.T = L
  mn : Mn x.D x.T
  one : x.D = 0 ∨ 1 ≤ cnt x.D x.T
  hdr : VBlk treeT w' tb (trC (some (blk x.D x.T)) L.length (bks x.D x.T).length)
set_option maxRecDepth 20000 in
set_option maxHeartbeats 8000000 in
theorem tdel_any {w : World} {st : St} {tb : Nat} {l : List KV} (h : IsT w st tb l) (k : Ky) (hl : l.length < 1000000000) :
    Calls Try.prog 14 #[.pointer (some ⟨tb, 0, none⟩), .string k] w fun e w' => ∃ st', e = .returned (.tuple #[.int .i64 ((getL k l).getD 0), .bool (getL k l).isSome]) ∧ IsT w' st' tb (delL k l) ∧ Keep (Out st tb w) w w' ∧ New st w st' := by
  refine enter (args := [.pointer (some ⟨tb, 0, none⟩), .string k]) Try.func14 rfl Try.ntmps14 rfl ?_
  obtain ⟨hm, htb, root, nn, ht, hok⟩ := h
  have hsl := hok.srt
  have hps := PS.start hm htb
  have h0 : w.cell? ⟨tb, 0, none⟩ = some (ptrV root) := ht.cell 0 (by simp [trC])
  repeat (first | ((with_reducible refine WL.topT ?_ ?_); omega) | ((with_reducible refine WL.topF ?_ ?_); omega) | ((with_reducible refine WL.top64 ?_ ?_); omega) | refine WC.seq ?_ | refine WC.block ?_ | refine WC.region ?_ | refine WL.nil ?_ | refine WC.skip ?_ | refine WC.exit ?_ | refine WC.ret ?_ | refine WQ.then rfl ?_ | refine WQ.thenExit ?_ | refine WQ.thenRet ?_ | refine WQ.blk ?_ | refine WQ.blkRet ?_ | refine WQ.blkHere rfl ?_ | refine WQ.blkOther rfl ?_ | refine WL.pure rfl rfl rfl rfl ?_ | refine WL.on rfl rfl ?_ | refine WL.off rfl rfl rfl ?_ | refine WC.condTrue rfl ?_ | refine WC.condFalse rfl ?_)
  refine WL.nilP rfl rfl rfl rfl rfl rfl (by kernel_rfl) ?_
  repeat (first | ((with_reducible refine WL.topT ?_ ?_); omega) | ((with_reducible refine WL.topF ?_ ?_); omega) | ((with_reducible refine WL.top64 ?_ ?_); omega) | refine WC.seq ?_ | refine WC.block ?_ | refine WC.region ?_ | refine WL.nil ?_ | refine WC.skip ?_ | refine WC.exit ?_ | refine WC.ret ?_ | refine WQ.then rfl ?_ | refine WQ.thenExit ?_ | refine WQ.thenRet ?_ | refine WQ.blk ?_ | refine WQ.blkRet ?_ | refine WQ.blkHere rfl ?_ | refine WQ.blkOther rfl ?_ | refine WL.pure rfl rfl rfl rfl ?_ | refine WL.on rfl rfl ?_ | refine WL.off rfl rfl rfl ?_ | refine WL.load rfl rfl rfl rfl rfl rfl (by assumption) ?_ | refine WC.condTrue rfl ?_ | refine WC.condFalse rfl ?_)
  refine WL.as 14 (.pointer (root.map fun b => ⟨b, 0, none⟩)) rfl (by cases root <;> rfl) ?_
  refine WL.nilP rfl rfl rfl rfl rfl rfl (by kernel_rfl) ?_
  rcases hok with ⟨rfl, rfl, rfl⟩ | ⟨D, T, rfl, hg, rfl, hc1⟩
  · repeat (first | ((with_reducible refine WL.topT ?_ ?_); omega) | ((with_reducible refine WL.topF ?_ ?_); omega) | ((with_reducible refine WL.top64 ?_ ?_); omega) | refine WC.seq ?_ | refine WC.block ?_ | refine WC.region ?_ | refine WL.nil ?_ | refine WC.skip ?_ | refine WC.exit ?_ | refine WC.ret ?_ | refine WQ.then rfl ?_ | refine WQ.thenExit ?_ | refine WQ.thenRet ?_ | refine WQ.blk ?_ | refine WQ.blkRet ?_ | refine WQ.blkHere rfl ?_ | refine WQ.blkOther rfl ?_ | refine WL.pure rfl rfl rfl rfl ?_ | refine WL.on rfl rfl ?_ | refine WL.off rfl rfl rfl ?_ | refine WC.condTrue rfl ?_ | refine WC.condFalse rfl ?_)
    exact WQ.ret2 rfl rfl rfl ⟨st, rfl, ⟨hm, htb, none, 0, ht, .inl ⟨rfl, rfl, rfl⟩⟩, hps.keep, hps.new⟩
  have hfew := (Tre.few hg.mn hg.root).1
  rw [hg.el] at hfew
  have hh1 := hdrR ht
  repeat (first | ((with_reducible refine WL.topT ?_ ?_); omega) | ((with_reducible refine WL.topF ?_ ?_); omega) | ((with_reducible refine WL.top64 ?_ ?_); omega) | refine WC.seq ?_ | refine WC.block ?_ | refine WC.region ?_ | refine WL.nil ?_ | refine WC.skip ?_ | refine WC.exit ?_ | refine WC.ret ?_ | refine WQ.then rfl ?_ | refine WQ.thenExit ?_ | refine WQ.thenRet ?_ | refine WQ.blk ?_ | refine WQ.blkRet ?_ | refine WQ.blkHere rfl ?_ | refine WQ.blkOther rfl ?_ | refine WL.pure rfl rfl rfl rfl ?_ | refine WL.on rfl rfl ?_ | refine WL.off rfl rfl rfl ?_ | refine WL.load rfl rfl rfl rfl rfl rfl (by assumption) ?_ | refine WC.condTrue rfl ?_ | refine WC.condFalse rfl ?_)
  have hT : VBlk treeT w tb (trC (some (blk D T)) l.length (0 + (bks D T).length)) := by rw [Nat.zero_add]; exact ht
  clear h0
  obtain ⟨h0, h1, -⟩ := hh1
  repeat (first | ((with_reducible refine WL.topT ?_ ?_); omega) | ((with_reducible refine WL.topF ?_ ?_); omega) | ((with_reducible refine WL.top64 ?_ ?_); omega) | refine WC.seq ?_ | refine WC.block ?_ | refine WC.region ?_ | refine WL.nil ?_ | refine WC.skip ?_ | refine WC.exit ?_ | refine WC.ret ?_ | refine WQ.then rfl ?_ | refine WQ.thenExit ?_ | refine WQ.thenRet ?_ | refine WQ.blk ?_ | refine WQ.blkRet ?_ | refine WQ.blkHere rfl ?_ | refine WQ.blkOther rfl ?_ | refine WL.pure rfl rfl rfl rfl ?_ | refine WL.on rfl rfl ?_ | refine WL.off rfl rfl rfl ?_ | refine WL.load rfl rfl rfl rfl rfl rfl (by assumption) ?_ | refine WC.condTrue rfl ?_ | refine WC.condFalse rfl ?_)
  refine WL.call rfl rfl rfl rfl rfl Try.func31 rfl (by kernel_rfl) (tcut_any D (k := k) (nx := none) hm htb ⟨hg.rep, hg.lnk, hg.nodup⟩ (fun q hq => by cases hq) (by rw [hg.el]; exact hsl) hg.mn hg.root hT (by omega)) ?_
  rintro _ w1 ⟨rfl, st1, T1, hcr, hps1, -, hel1, hmn1, hlow1, hh1, -⟩
  refine ⟨_, rfl, ?_⟩
  rw [hg.el] at hel1
  rw [hg.el]
  rw [Nat.zero_add] at hh1
  have hdl := delL_length (k := k) hsl
  have hone : D = 0 ∨ 1 ≤ cnt D T1 := hg.root.imp id fun h => by omega
  obtain ⟨G, hG⟩ : ∃ G, getL k l = G := ⟨_, rfl⟩
  rw [hG] at hdl ⊢
  repeat (first | ((with_reducible refine WL.topT ?_ ?_); omega) | ((with_reducible refine WL.topF ?_ ?_); omega) | ((with_reducible refine WL.top64 ?_ ?_); omega) | refine WC.seq ?_ | refine WC.block ?_ | refine WC.region ?_ | refine WL.nil ?_ | refine WC.skip ?_ | refine WC.exit ?_ | refine WC.ret ?_ | refine WQ.then rfl ?_ | refine WQ.thenExit ?_ | refine WQ.thenRet ?_ | refine WQ.blk ?_ | refine WQ.blkRet ?_ | refine WQ.blkHere rfl ?_ | refine WQ.blkOther rfl ?_ | refine WL.pure rfl rfl rfl rfl ?_ | refine WL.on rfl rfl ?_ | refine WL.off rfl rfl rfl ?_ | refine WL.load rfl rfl rfl rfl rfl rfl (by assumption) ?_ | refine WC.condTrue rfl ?_ | refine WC.condFalse rfl ?_)
  -- one text less
  refine WC.mid (fun _ : Unit => [(0, .pointer (some ⟨tb, 0, none⟩)), (6, .int .i64 (G.getD 0)), (7, .bool G.isSome)]) (fun _ w' => DW w st tb (delL k l) w' ⟨D, T1⟩ st1) rfl ?_ ?_
  · cases G with
    | none =>
      have hdl' : (delL k l).length = l.length := by simpa using hdl
      refine WC.condFalse rfl ?_
      repeat (first | ((with_reducible refine WL.topT ?_ ?_); omega) | ((with_reducible refine WL.topF ?_ ?_); omega) | ((with_reducible refine WL.top64 ?_ ?_); omega) | refine WC.seq ?_ | refine WC.block ?_ | refine WC.region ?_ | refine WL.nil ?_ | refine WC.skip ?_ | refine WC.exit ?_ | refine WC.ret ?_ | refine WQ.then rfl ?_ | refine WQ.thenExit ?_ | refine WQ.thenRet ?_ | refine WQ.blk ?_ | refine WQ.blkRet ?_ | refine WQ.blkHere rfl ?_ | refine WQ.blkOther rfl ?_ | refine WL.pure rfl rfl rfl rfl ?_ | refine WL.on rfl rfl ?_ | refine WL.off rfl rfl rfl ?_ | refine WC.condTrue rfl ?_ | refine WC.condFalse rfl ?_)
      exact WQ.meet () ⟨rfl, rfl, rfl, trivial⟩ ⟨hps1, hcr.here, hel1, hmn1, hone, by rw [hdl', hcr.blk]; exact hh1⟩
    | some v =>
      have hdl' : (delL k l).length + 1 = l.length := by simpa using hdl
      refine WC.condTrue rfl ?_
      obtain ⟨-, h11, -⟩ := hdrR hh1
      repeat (first | ((with_reducible refine WL.topT ?_ ?_); omega) | ((with_reducible refine WL.topF ?_ ?_); omega) | ((with_reducible refine WL.top64 ?_ ?_); omega) | refine WC.seq ?_ | refine WC.block ?_ | refine WC.region ?_ | refine WL.nil ?_ | refine WC.skip ?_ | refine WC.exit ?_ | refine WC.ret ?_ | refine WQ.then rfl ?_ | refine WQ.thenExit ?_ | refine WQ.thenRet ?_ | refine WQ.blk ?_ | refine WQ.blkRet ?_ | refine WQ.blkHere rfl ?_ | refine WQ.blkOther rfl ?_ | refine WL.pure rfl rfl rfl rfl ?_ | refine WL.on rfl rfl ?_ | refine WL.off rfl rfl rfl ?_ | refine WL.load rfl rfl rfl rfl rfl rfl (by assumption) ?_ | refine WC.condTrue rfl ?_ | refine WC.condFalse rfl ?_)
      refine WL.store rfl rfl rfl rfl rfl rfl (by kernel_rfl) h11 (hh1.free 1) ?_
      have hh2 : VBlk treeT (w1.setCell ⟨tb, 1, none⟩ (.int .i64 ((l.length : Int) - 1))) tb (trC (some (blk D T)) (delL k l).length (bks D T1).length) := by
        have := hh1.set 1 (.int .i64 ((l.length : Int) - 1))
        rw [show ((l.length : Int) - 1) = ((delL k l).length : Int) by omega] at this ⊢
        exact this
      have hps2 := hps1.hdr 1 (.int .i64 ((l.length : Int) - 1))
      generalize w1.setCell ⟨tb, 1, none⟩ (.int .i64 ((l.length : Int) - 1)) = w2 at hh2 hps2 ⊢
      repeat (first | ((with_reducible refine WL.topT ?_ ?_); omega) | ((with_reducible refine WL.topF ?_ ?_); omega) | ((with_reducible refine WL.top64 ?_ ?_); omega) | refine WC.seq ?_ | refine WC.block ?_ | refine WC.region ?_ | refine WL.nil ?_ | refine WC.skip ?_ | refine WC.exit ?_ | refine WC.ret ?_ | refine WQ.then rfl ?_ | refine WQ.thenExit ?_ | refine WQ.thenRet ?_ | refine WQ.blk ?_ | refine WQ.blkRet ?_ | refine WQ.blkHere rfl ?_ | refine WQ.blkOther rfl ?_ | refine WL.pure rfl rfl rfl rfl ?_ | refine WL.on rfl rfl ?_ | refine WL.off rfl rfl rfl ?_ | refine WC.condTrue rfl ?_ | refine WC.condFalse rfl ?_)
      exact WQ.meet () ⟨rfl, rfl, rfl, trivial⟩ ⟨hps2, hcr.here, hel1, hmn1, hone, by rw [hcr.blk]; exact hh2⟩
  clear hh1 hps1 hcr hel1 hmn1 hlow1 hone hT ht h0 h1 hps hdl
  rintro ⟨⟩ w2 hdw
  have hsd : Srt (delL k l) := delL_srt hsl
  obtain ⟨L, hL⟩ : ∃ L, delL k l = L := ⟨_, rfl⟩
  rw [hL] at hdw hsd ⊢
  have hdone : ∀ {wz : World} {D' : Nat} {T' : Tr D'} {st' : St}, DW w st tb L wz ⟨D', T'⟩ st' → (D' = 0 ∨ 2 ≤ cnt D' T') → 1 ≤ cnt D' T' → ∃ st', (Ending.returned (.tuple #[.int .i64 (G.getD 0), .bool G.isSome])) = .returned (.tuple #[.int .i64 (G.getD 0), .bool G.isSome]) ∧ IsT wz st' tb L ∧ Keep (Out st tb w) w wz ∧ New st w st' :=
    fun {wz D' T' st'} hd h2 h1 => ⟨st', rfl, ⟨hd.ps.mem, hd.ps.no, _, _, hd.hdr, .inr ⟨D', T', rfl, ⟨hd.here.rep, hd.here.lnk, hd.here.nodup, hd.el, hsd, hd.mn, h2⟩, rfl, h1⟩⟩, hd.ps.keep, hd.ps.new⟩
  repeat (first | ((with_reducible refine WL.topT ?_ ?_); omega) | ((with_reducible refine WL.topF ?_ ?_); omega) | ((with_reducible refine WL.top64 ?_ ?_); omega) | refine WC.seq ?_ | refine WC.region ?_ | refine WL.nil ?_ | refine WC.skip ?_ | refine WC.exit ?_ | refine WC.ret ?_ | refine WQ.then rfl ?_ | refine WQ.thenExit ?_ | refine WQ.thenRet ?_ | refine WQ.blk ?_ | refine WQ.blkRet ?_ | refine WQ.blkHere rfl ?_ | refine WQ.blkOther rfl ?_ | refine WL.pure rfl rfl rfl rfl ?_ | refine WL.on rfl rfl ?_ | refine WL.off rfl rfl rfl ?_ | refine WL.load rfl rfl rfl rfl rfl rfl (by assumption) ?_ | refine WC.condTrue rfl ?_ | refine WC.condFalse rfl ?_)
  refine WC.block ?_
  refine WC.loop (fun x : DX => [(0, .pointer (some ⟨tb, 0, none⟩)), (6, .int .i64 (G.getD 0)), (7, .bool G.isSome)]) (fun x w' => ∃ st', DW w st tb L w' x st') (fun x => x.D) ⟨D, T1⟩ ⟨rfl, rfl, rfl, trivial⟩ ⟨st1, hdw⟩ ?_
  clear hdw
  rintro ⟨D', T'⟩ wr ⟨st', hdw⟩
  obtain ⟨h0, -, h2⟩ := hdrR hdw.hdr
  obtain ⟨nx, hs1, -⟩ := nodeAt hdw.here.rep hdw.here.lnk
  obtain ⟨-, pv, vr⟩ := hdw.ps.mem _ _ hs1
  have hlf : wr.cell? ⟨blk D' T', 0, none⟩ = some (.bool (D' == 0)) := cellR vr (by omega)
  obtain ⟨C, hC⟩ : ∃ C, cnt D' T' = C := ⟨_, rfl⟩
  have hC8 : C ≤ 8 := by rw [← hC]; exact hdw.mn.le
  have hcl : (ents D' T').length = C := by rw [ents_len, hC]
  have hcr := cntR vr hcl
  cases D' with
  | zero =>
    have hlf' : wr.cell? ⟨blk 0 T', 0, none⟩ = some (.bool true) := hlf
    clear hlf
    by_cases hz : C = 0
    · have hes : els 0 T' = [] := List.length_eq_zero_iff.1 (show List.length T'.2 = 0 by have : List.length T'.2 = C := hC; omega)
      have hL0 : L = [] := by rw [← hdw.el]; exact hes
      subst hL0
      repeat (first | ((with_reducible refine WL.topT ?_ ?_); omega) | ((with_reducible refine WL.topF ?_ ?_); omega) | ((with_reducible refine WL.top64 ?_ ?_); omega) | refine WC.seq ?_ | refine WC.block ?_ | refine WC.region ?_ | refine WL.nil ?_ | refine WC.skip ?_ | refine WC.exit ?_ | refine WC.ret ?_ | refine WQ.then rfl ?_ | refine WQ.thenExit ?_ | refine WQ.thenRet ?_ | refine WQ.blk ?_ | refine WQ.blkRet ?_ | refine WQ.blkHere rfl ?_ | refine WQ.blkOther rfl ?_ | refine WL.pure rfl rfl rfl rfl ?_ | refine WL.on rfl rfl ?_ | refine WL.off rfl rfl rfl ?_ | refine WL.load rfl rfl rfl rfl rfl rfl (by assumption) ?_ | refine WC.condTrue rfl ?_ | refine WC.condFalse rfl ?_)
      refine WL.store rfl rfl rfl rfl rfl rfl (by kernel_rfl) h0 (hdw.hdr.free 0) ?_
      have hh3 : VBlk treeT (wr.setCell ⟨tb, 0, none⟩ (.pointer none)) tb (trC none 0 1) := hdw.hdr.set 0 _
      have hps3 := hdw.ps.hdr 0 (.pointer none)
      generalize wr.setCell ⟨tb, 0, none⟩ (.pointer none) = w3 at hh3 hps3 ⊢
      repeat (first | ((with_reducible refine WL.topT ?_ ?_); omega) | ((with_reducible refine WL.topF ?_ ?_); omega) | ((with_reducible refine WL.top64 ?_ ?_); omega) | refine WC.seq ?_ | refine WC.block ?_ | refine WC.region ?_ | refine WL.nil ?_ | refine WC.skip ?_ | refine WC.exit ?_ | refine WC.ret ?_ | refine WQ.then rfl ?_ | refine WQ.thenExit ?_ | refine WQ.thenRet ?_ | refine WQ.blk ?_ | refine WQ.blkRet ?_ | refine WQ.blkHere rfl ?_ | refine WQ.blkOther rfl ?_ | refine WL.pure rfl rfl rfl rfl ?_ | refine WL.on rfl rfl ?_ | refine WL.off rfl rfl rfl ?_ | refine WC.condTrue rfl ?_ | refine WC.condFalse rfl ?_)
      refine WL.store rfl rfl rfl rfl rfl rfl (by kernel_rfl) (hh3.cell 2 (by simp [trC])) (hh3.free 2) ?_
      have hh4 : VBlk treeT (w3.setCell ⟨tb, 2, none⟩ (.int .i64 0)) tb (trC none 0 0) := hh3.set 2 _
      have hps4 := hps3.hdr 2 (.int .i64 0)
      generalize w3.setCell ⟨tb, 2, none⟩ (.int .i64 0) = w4 at hh4 hps4 ⊢
      repeat (first | ((with_reducible refine WL.topT ?_ ?_); omega) | ((with_reducible refine WL.topF ?_ ?_); omega) | ((with_reducible refine WL.top64 ?_ ?_); omega) | refine WC.seq ?_ | refine WC.block ?_ | refine WC.region ?_ | refine WL.nil ?_ | refine WC.skip ?_ | refine WC.exit ?_ | refine WC.ret ?_ | refine WQ.then rfl ?_ | refine WQ.thenExit ?_ | refine WQ.thenRet ?_ | refine WQ.blk ?_ | refine WQ.blkRet ?_ | refine WQ.blkHere rfl ?_ | refine WQ.blkOther rfl ?_ | refine WL.pure rfl rfl rfl rfl ?_ | refine WL.on rfl rfl ?_ | refine WL.off rfl rfl rfl ?_ | refine WC.condTrue rfl ?_ | refine WC.condFalse rfl ?_)
      exact WQ.ret2 rfl rfl rfl ⟨st', rfl, ⟨hps4.mem, hps4.no, none, 0, hh4, .inl ⟨rfl, rfl, rfl⟩⟩, hps4.keep, hps4.new⟩
    · repeat (first | ((with_reducible refine WL.topT ?_ ?_); omega) | ((with_reducible refine WL.topF ?_ ?_); omega) | ((with_reducible refine WL.top64 ?_ ?_); omega) | refine WC.seq ?_ | refine WC.block ?_ | refine WC.region ?_ | refine WL.nil ?_ | refine WC.skip ?_ | refine WC.exit ?_ | refine WC.ret ?_ | refine WQ.then rfl ?_ | refine WQ.thenExit ?_ | refine WQ.thenRet ?_ | refine WQ.blk ?_ | refine WQ.blkRet ?_ | refine WQ.blkHere rfl ?_ | refine WQ.blkOther rfl ?_ | refine WL.pure rfl rfl rfl rfl ?_ | refine WL.on rfl rfl ?_ | refine WL.off rfl rfl rfl ?_ | refine WL.load rfl rfl rfl rfl rfl rfl (by assumption) ?_ | refine WC.condTrue rfl ?_ | refine WC.condFalse rfl ?_)
      exact WQ.ret2 rfl rfl rfl (hdone hdw (.inl rfl) (by rw [hC]; omega))
  | succ D' =>
    have hlf' : wr.cell? ⟨blk (D' + 1) T', 0, none⟩ = some (.bool false) := hlf
    clear hlf
    have hC1 : 1 ≤ C := by rcases hdw.one with e | e; cases e; rw [hC] at e; exact e
    by_cases hz : C = 1
    · obtain ⟨b, ks⟩ := T'
      obtain ⟨s, rfl⟩ : ∃ s, ks = [s] := List.length_eq_one_iff.1 (show ks.length = 1 by have : ks.length = C := hC; omega)
      have hh : At st' (D' + 1) (mkS b ([] ++ s :: [])) none := hdw.here
      have hsub := At_sub hh
      have hsm : 4 ≤ cnt D' s ∧ Mn D' s := hdw.mn.2 s (List.Mem.head _)
      have hkd := kidR vr (i := 0) (q := blk D' s) (by omega) rfl
      have hkd' : wr.cell? ⟨blk (D' + 1) (b, [s]), 18, none⟩ = some (.pointer (some ⟨blk D' s, 0, none⟩)) := hkd
      have hbk : (bks (D' + 1) (mkS b [s])).length = (bks D' s).length + 1 := by rw [bks_mkS]; simp
      have hbk' : (bks (D' + 1) (b, [s])).length = (bks D' s).length + 1 := hbk
      rw [hbk'] at h2
      repeat (first | ((with_reducible refine WL.topT ?_ ?_); omega) | ((with_reducible refine WL.topF ?_ ?_); omega) | ((with_reducible refine WL.top64 ?_ ?_); omega) | refine WC.seq ?_ | refine WC.block ?_ | refine WC.region ?_ | refine WL.nil ?_ | refine WC.skip ?_ | refine WC.exit ?_ | refine WC.ret ?_ | refine WQ.then rfl ?_ | refine WQ.thenExit ?_ | refine WQ.thenRet ?_ | refine WQ.blk ?_ | refine WQ.blkRet ?_ | refine WQ.blkHere rfl ?_ | refine WQ.blkOther rfl ?_ | refine WL.pure rfl rfl rfl rfl ?_ | refine WL.on rfl rfl ?_ | refine WL.off rfl rfl rfl ?_ | refine WL.load rfl rfl rfl rfl rfl rfl (by assumption) ?_ | refine WC.condTrue rfl ?_ | refine WC.condFalse rfl ?_)
      refine WL.idxA 0 18 rfl rfl rfl rfl rfl rfl rfl rfl (by omega) (by omega) ?_
      refine WL.load rfl rfl rfl rfl rfl rfl hkd' ?_
      repeat (first | ((with_reducible refine WL.topT ?_ ?_); omega) | ((with_reducible refine WL.topF ?_ ?_); omega) | ((with_reducible refine WL.top64 ?_ ?_); omega) | refine WC.seq ?_ | refine WC.block ?_ | refine WC.region ?_ | refine WL.nil ?_ | refine WC.skip ?_ | refine WC.exit ?_ | refine WC.ret ?_ | refine WQ.then rfl ?_ | refine WQ.thenExit ?_ | refine WQ.thenRet ?_ | refine WQ.blk ?_ | refine WQ.blkRet ?_ | refine WQ.blkHere rfl ?_ | refine WQ.blkOther rfl ?_ | refine WL.pure rfl rfl rfl rfl ?_ | refine WL.on rfl rfl ?_ | refine WL.off rfl rfl rfl ?_ | refine WC.condTrue rfl ?_ | refine WC.condFalse rfl ?_)
      refine WL.store rfl rfl rfl rfl rfl rfl (by kernel_rfl) h0 (hdw.hdr.free 0) ?_
      have hh3 : VBlk treeT (wr.setCell ⟨tb, 0, none⟩ (.pointer (some ⟨blk D' s, 0, none⟩))) tb (trC (some (blk D' s)) L.length ((bks D' s).length + 1)) := by
        have := hdw.hdr.set 0 (.pointer (some ⟨blk D' s, 0, none⟩))
        rw [hbk'] at this
        exact this
      have hps3 := hdw.ps.hdr 0 (.pointer (some ⟨blk D' s, 0, none⟩))
      generalize wr.setCell ⟨tb, 0, none⟩ (.pointer (some ⟨blk D' s, 0, none⟩)) = w3 at hh3 hps3 ⊢
      clear h0 h2 hcr
      obtain ⟨-, -, h2⟩ := hdrR hh3
      have hsz : (bks D' s).length ≤ L.length + 1 := by
        have := (Tre.few hsm.2 (.inr (by omega))).1
        have he : els D' s = L := by have := hdw.el; simpa [els] using this
        rwa [he] at this
      have hLl : L.length ≤ l.length := by have := delL_length (k := k) hsl; rw [hL] at this; omega
      repeat (first | ((with_reducible refine WL.topT ?_ ?_); omega) | ((with_reducible refine WL.topF ?_ ?_); omega) | ((with_reducible refine WL.top64 ?_ ?_); omega) | refine WC.seq ?_ | refine WC.block ?_ | refine WC.region ?_ | refine WL.nil ?_ | refine WC.skip ?_ | refine WC.exit ?_ | refine WC.ret ?_ | refine WQ.then rfl ?_ | refine WQ.thenExit ?_ | refine WQ.thenRet ?_ | refine WQ.blk ?_ | refine WQ.blkRet ?_ | refine WQ.blkHere rfl ?_ | refine WQ.blkOther rfl ?_ | refine WL.pure rfl rfl rfl rfl ?_ | refine WL.on rfl rfl ?_ | refine WL.off rfl rfl rfl ?_ | refine WL.load rfl rfl rfl rfl rfl rfl (by assumption) ?_ | refine WC.condTrue rfl ?_ | refine WC.condFalse rfl ?_)
      refine WL.store rfl rfl rfl rfl rfl rfl (by kernel_rfl) h2 (hh3.free 2) ?_
      have hh4 : VBlk treeT (w3.setCell ⟨tb, 2, none⟩ (.int .i64 ((((bks D' s).length + 1 : Nat) : Int) - 1))) tb (trC (some (blk D' s)) L.length (bks D' s).length) := by
        have := hh3.set 2 (.int .i64 ((((bks D' s).length + 1 : Nat) : Int) - 1))
        rw [show ((((bks D' s).length + 1 : Nat) : Int) - 1) = ((bks D' s).length : Int) by omega] at this ⊢
        exact this
      have hps4 := hps3.hdr 2 (.int .i64 ((((bks D' s).length + 1 : Nat) : Int) - 1))
      generalize w3.setCell ⟨tb, 2, none⟩ (.int .i64 ((((bks D' s).length + 1 : Nat) : Int) - 1)) = w4 at hh4 hps4 ⊢
      repeat (first | ((with_reducible refine WL.topT ?_ ?_); omega) | ((with_reducible refine WL.topF ?_ ?_); omega) | ((with_reducible refine WL.top64 ?_ ?_); omega) | refine WC.seq ?_ | refine WC.block ?_ | refine WC.region ?_ | refine WL.nil ?_ | refine WC.skip ?_ | refine WC.exit ?_ | refine WC.ret ?_ | refine WQ.then rfl ?_ | refine WQ.thenExit ?_ | refine WQ.thenRet ?_ | refine WQ.blk ?_ | refine WQ.blkRet ?_ | refine WQ.blkHere rfl ?_ | refine WQ.blkOther rfl ?_ | refine WL.pure rfl rfl rfl rfl ?_ | refine WL.on rfl rfl ?_ | refine WL.off rfl rfl rfl ?_ | refine WC.condTrue rfl ?_ | refine WC.condFalse rfl ?_)
      refine WQ.again ⟨D', s⟩ ⟨rfl, rfl, rfl, trivial⟩ ⟨st', hps4, hsub, ?_, hsm.2, .inr (by show 1 ≤ cnt D' s; omega), hh4⟩ (by show D' < D' + 1; omega)
      have := hdw.el
      simpa [els] using this
    · repeat (first | ((with_reducible refine WL.topT ?_ ?_); omega) | ((with_reducible refine WL.topF ?_ ?_); omega) | ((with_reducible refine WL.top64 ?_ ?_); omega) | refine WC.seq ?_ | refine WC.block ?_ | refine WC.region ?_ | refine WL.nil ?_ | refine WC.skip ?_ | refine WC.exit ?_ | refine WC.ret ?_ | refine WQ.then rfl ?_ | refine WQ.thenExit ?_ | refine WQ.thenRet ?_ | refine WQ.blk ?_ | refine WQ.blkRet ?_ | refine WQ.blkHere rfl ?_ | refine WQ.blkOther rfl ?_ | refine WL.pure rfl rfl rfl rfl ?_ | refine WL.on rfl rfl ?_ | refine WL.off rfl rfl rfl ?_ | refine WL.load rfl rfl rfl rfl rfl rfl (by assumption) ?_ | refine WC.condTrue rfl ?_ | refine WC.condFalse rfl ?_)
      exact WQ.ret2 rfl rfl rfl (hdone hdw (.inr (by rw [hC]; omega)) (by rw [hC]; omega))
end K
end Go.Proofs.Ytilmfnlaenneeaa

/- Trees (chapter 13): New, Len, Shape; shaped; known. -/
namespace Go.Proofs.Ytilmfnlaenneeaa
open Go.RowKit
namespace K
open Tre
theorem built_tree : Try.prog.built treeT [] = some (trC none 0 0).toArray := by kernel_rfl
def st0 : St := fun _ => none
theorem tnew_any {w : World} : Calls Try.prog 10 #[] w fun e w' => ∃ tb, e = .returned (.pointer (some ⟨tb, 0, none⟩)) ∧ IsT w' st0 tb [] ∧ Below w.heap.size w w' ∧ w.heap.size ≤ tb := by
  refine enter (args := []) Try.func10 rfl Try.ntmps10 rfl ?_
  repeat (first | ((with_reducible refine WL.topT ?_ ?_); omega) | ((with_reducible refine WL.topF ?_ ?_); omega) | ((with_reducible refine WL.top64 ?_ ?_); omega) | refine WC.seq ?_ | refine WC.block ?_ | refine WC.region ?_ | refine WL.nil ?_ | refine WC.skip ?_ | refine WC.exit ?_ | refine WC.ret ?_ | refine WQ.then rfl ?_ | refine WQ.thenExit ?_ | refine WQ.thenRet ?_ | refine WQ.blk ?_ | refine WQ.blkRet ?_ | refine WQ.blkHere rfl ?_ | refine WQ.blkOther rfl ?_ | refine WL.pure rfl rfl rfl rfl ?_ | refine WL.on rfl rfl ?_ | refine WL.off rfl rfl rfl ?_ | refine WC.condTrue rfl ?_ | refine WC.condFalse rfl ?_)
  refine WL.build (trC none 0 0) rfl rfl rfl rfl rfl built_tree ?_
  refine WL.box rfl rfl rfl rfl rfl fun g w1 hf0 => ?_
  have hf : Fresh w g w1 treeT (trC none 0 0) := hf0
  clear hf0
  repeat (first | ((with_reducible refine WL.topT ?_ ?_); omega) | ((with_reducible refine WL.topF ?_ ?_); omega) | ((with_reducible refine WL.top64 ?_ ?_); omega) | refine WC.seq ?_ | refine WC.block ?_ | refine WC.region ?_ | refine WL.nil ?_ | refine WC.skip ?_ | refine WC.exit ?_ | refine WC.ret ?_ | refine WQ.then rfl ?_ | refine WQ.thenExit ?_ | refine WQ.thenRet ?_ | refine WQ.blk ?_ | refine WQ.blkRet ?_ | refine WQ.blkHere rfl ?_ | refine WQ.blkOther rfl ?_ | refine WL.pure rfl rfl rfl rfl ?_ | refine WL.on rfl rfl ?_ | refine WL.off rfl rfl rfl ?_ | refine WC.condTrue rfl ?_ | refine WC.condFalse rfl ?_)
  exact WQ.ret1 rfl rfl ⟨g, rfl, ⟨fun b nd h => (by cases h), rfl, none, 0, hf.blk, .inl ⟨rfl, rfl, rfl⟩⟩, hf.below, by rw [hf.eq]; exact Nat.le_refl _⟩
theorem tlen_any {w : World} {st : St} {tb : Nat} {l : List KV} (h : IsT w st tb l) : Calls Try.prog 17 #[.pointer (some ⟨tb, 0, none⟩)] w fun e w' => e = .returned (.int .i64 l.length) ∧ w' = w := by
  refine enter (args := [.pointer (some ⟨tb, 0, none⟩)]) Try.func17 rfl Try.ntmps17 rfl ?_
  obtain ⟨-, -, root, nn, ht, -⟩ := h
  have h1 : w.cell? ⟨tb, 1, none⟩ = some (.int .i64 l.length) := ht.cell 1 (by simp [trC])
  repeat (first | ((with_reducible refine WL.topT ?_ ?_); omega) | ((with_reducible refine WL.topF ?_ ?_); omega) | ((with_reducible refine WL.top64 ?_ ?_); omega) | refine WC.seq ?_ | refine WC.block ?_ | refine WC.region ?_ | refine WL.nil ?_ | refine WC.skip ?_ | refine WC.exit ?_ | refine WC.ret ?_ | refine WQ.then rfl ?_ | refine WQ.thenExit ?_ | refine WQ.thenRet ?_ | refine WQ.blk ?_ | refine WQ.blkRet ?_ | refine WQ.blkHere rfl ?_ | refine WQ.blkOther rfl ?_ | refine WL.pure rfl rfl rfl rfl ?_ | refine WL.on rfl rfl ?_ | refine WL.off rfl rfl rfl ?_ | refine WC.condTrue rfl ?_ | refine WC.condFalse rfl ?_)
  refine WL.nilP rfl rfl rfl rfl rfl rfl (by kernel_rfl) ?_
  repeat (first | ((with_reducible refine WL.topT ?_ ?_); omega) | ((with_reducible refine WL.topF ?_ ?_); omega) | ((with_reducible refine WL.top64 ?_ ?_); omega) | refine WC.seq ?_ | refine WC.block ?_ | refine WC.region ?_ | refine WL.nil ?_ | refine WC.skip ?_ | refine WC.exit ?_ | refine WC.ret ?_ | refine WQ.then rfl ?_ | refine WQ.thenExit ?_ | refine WQ.thenRet ?_ | refine WQ.blk ?_ | refine WQ.blkRet ?_ | refine WQ.blkHere rfl ?_ | refine WQ.blkOther rfl ?_ | refine WL.pure rfl rfl rfl rfl ?_ | refine WL.on rfl rfl ?_ | refine WL.off rfl rfl rfl ?_ | refine WL.load rfl rfl rfl rfl rfl rfl (by assumption) ?_ | refine WC.condTrue rfl ?_ | refine WC.condFalse rfl ?_)
  exact WQ.ret1 rfl rfl ⟨rfl, rfl⟩
/-- How deep, and how many nodes. -/
def Shp (l : List KV) (dp nn : Nat) : Prop := (l = [] ∧ dp = 0 ∧ nn = 0) ∨ (l ≠ [] ∧ 1 ≤ dp ∧ 1 ≤ nn ∧ nn ≤ l.length ∧ 2 ^ (dp - 1) ≤ l.length)
theorem Good_many {st : St} {D : Nat} {T : Tr D} {l : List KV} (h : Tre.Good st D T l) (h1 : 1 ≤ cnt D T) : 2 ^ D ≤ l.length := by
  have he := h.el
  rw [← he]
  cases D with
  | zero => exact h1
  | succ d =>
    have h2 : 2 ≤ cnt (d + 1) T := by rcases h.root with e | e; cases e; exact e
    obtain ⟨b, ks⟩ := T
    have h2' : 2 ≤ ks.length := h2
    have hk : ∀ s ∈ ks, 4 ≤ cnt d s ∧ Mn d s := h.mn.2
    have key : ∀ q : List (Tr d), (∀ s ∈ q, 4 ≤ cnt d s ∧ Mn d s) → q.length * 4 ^ (d + 1) ≤ (q.flatMap (els d)).length := by
      intro q
      induction q with
      | nil => intro _; simp
      | cons s q ih =>
        intro hl
        have h1 := ih fun x hx => hl x (by simp [hx])
        have h2 := hl s (by simp)
        have h3 := els_many h2.2 h2.1
        simp only [List.flatMap_cons, List.length_append, List.length_cons, Nat.succ_mul]
        omega
    have h3 := key ks hk
    have h4 : 2 * 4 ^ (d + 1) ≤ ks.length * 4 ^ (d + 1) := Nat.mul_le_mul_right _ h2'
    have h5 : 2 ^ (d + 1) ≤ 4 ^ (d + 1) := Nat.pow_le_pow_left (by omega) _
    show 2 ^ (d + 1) ≤ (ks.flatMap (els d)).length
    omega
structure SX where
  o : Option Nat
  dp : Nat
  r : Nat
set_option maxRecDepth 20000 in
set_option maxHeartbeats 2000000 in
theorem tshape_any {w : World} {st : St} {tb : Nat} {l : List KV} (h : IsT w st tb l) (hl : l.length < 1000000000) : Calls Try.prog 23 #[.pointer (some ⟨tb, 0, none⟩)] w fun e w' => ∃ dp nn : Nat, e = .returned (.tuple #[.int .i64 dp, .int .i64 nn]) ∧ Shp l dp nn ∧ Below w.heap.size w w' := by
  refine enter (args := [.pointer (some ⟨tb, 0, none⟩)]) Try.func23 rfl Try.ntmps23 rfl ?_
  obtain ⟨hm, htb, root, nn, ht, hok⟩ := h
  have h0 : w.cell? ⟨tb, 0, none⟩ = some (ptrV root) := ht.cell 0 (by simp [trC])
  have h2 : w.cell? ⟨tb, 2, none⟩ = some (.int .i64 nn) := ht.cell 2 (by simp [trC])
  obtain ⟨X, hX1, hX2⟩ : ∃ X : Nat, X < 1000000000 ∧ ((root = none ∧ X = 0 ∧ Shp l 0 nn) ∨ ∃ D T, root = some (blk D T) ∧ Tre.Good st D T l ∧ X = D + 1 ∧ Shp l (D + 1) nn) := by
    rcases hok with ⟨h1, rfl, rfl⟩ | ⟨D, T, h1, hg, rfl, hc⟩
    · exact ⟨0, by omega, .inl ⟨h1, rfl, .inl ⟨rfl, rfl, rfl⟩⟩⟩
    · have hmany := Good_many hg hc
      have hlt : D < 2 ^ D := Nat.lt_two_pow_self
      refine ⟨D + 1, by omega, .inr ⟨D, T, h1, hg, rfl, .inr ⟨?_, by omega, ?_, ?_, by simpa using hmany⟩⟩⟩
      · intro e; rw [e] at hmany; simp at hmany
      · exact List.length_pos_iff.2 (List.ne_nil_of_mem (blk_mem D T))
      · have := (Tre.few hg.mn hg.root).2 hc; rwa [hg.el] at this
  have hshp : Shp l X nn := by
    rcases hX2 with ⟨-, rfl, h⟩ | ⟨D, T, -, -, rfl, h⟩ <;> exact h
  repeat (first | ((with_reducible refine WL.topT ?_ ?_); omega) | ((with_reducible refine WL.topF ?_ ?_); omega) | ((with_reducible refine WL.top64 ?_ ?_); omega) | refine WC.seq ?_ | refine WC.block ?_ | refine WC.region ?_ | refine WL.nil ?_ | refine WC.skip ?_ | refine WC.exit ?_ | refine WC.ret ?_ | refine WQ.then rfl ?_ | refine WQ.thenExit ?_ | refine WQ.thenRet ?_ | refine WQ.blk ?_ | refine WQ.blkRet ?_ | refine WQ.blkHere rfl ?_ | refine WQ.blkOther rfl ?_ | refine WL.pure rfl rfl rfl rfl ?_ | refine WL.on rfl rfl ?_ | refine WL.off rfl rfl rfl ?_ | refine WC.condTrue rfl ?_ | refine WC.condFalse rfl ?_)
  refine WL.nilP rfl rfl rfl rfl rfl rfl (by kernel_rfl) ?_
  repeat (first | ((with_reducible refine WL.topT ?_ ?_); omega) | ((with_reducible refine WL.topF ?_ ?_); omega) | ((with_reducible refine WL.top64 ?_ ?_); omega) | refine WC.seq ?_ | refine WC.block ?_ | refine WC.region ?_ | refine WL.nil ?_ | refine WC.skip ?_ | refine WC.exit ?_ | refine WC.ret ?_ | refine WQ.then rfl ?_ | refine WQ.thenExit ?_ | refine WQ.thenRet ?_ | refine WQ.blk ?_ | refine WQ.blkRet ?_ | refine WQ.blkHere rfl ?_ | refine WQ.blkOther rfl ?_ | refine WL.pure rfl rfl rfl rfl ?_ | refine WL.on rfl rfl ?_ | refine WL.off rfl rfl rfl ?_ | refine WL.load rfl rfl rfl rfl rfl rfl (by assumption) ?_ | refine WC.condTrue rfl ?_ | refine WC.condFalse rfl ?_)
  refine WC.loop (fun x : SX => [(0, .pointer (some ⟨tb, 0, none⟩)), (2, .int .i64 x.dp), (4, ptrV x.o)])
    (fun x w' => w' = w ∧ x.dp + x.r = X ∧ ((x.o = none ∧ x.r = 0) ∨ ∃ d t nx, x.o = some (blk d t) ∧ RepI d st t ∧ Lnk st (lvs d t) nx ∧ (d = 0 ∨ 1 ≤ cnt d t) ∧ Mn d t ∧ x.r = d + 1)) (fun x => x.r) ⟨root, 0, X⟩ ⟨rfl, rfl, rfl, trivial⟩ ⟨rfl, Nat.zero_add _, ?_⟩ ?_
  · rcases hX2 with ⟨h1, h2, -⟩ | ⟨D, T, h1, hg, h2, -⟩
    · exact .inl ⟨h1, h2⟩
    · exact .inr ⟨D, T, none, h1, hg.rep, hg.lnk, hg.root.imp id fun h => by omega, hg.mn, h2⟩
  rintro ⟨o, dp, r⟩ wr ⟨hw, hdp, hx⟩
  subst hw
  simp only at hdp hx
  rcases hx with ⟨rfl, rfl⟩ | ⟨d, t, nx, rfl, hr, hln, hc, hmn, rfl⟩
  · obtain rfl : dp = X := by omega
    change WC _ _ _ [(0, .pointer (some ⟨tb, 0, none⟩)), (2, .int .i64 dp), (4, .pointer none)] wr
    repeat (first | ((with_reducible refine WL.topT ?_ ?_); omega) | ((with_reducible refine WL.topF ?_ ?_); omega) | ((with_reducible refine WL.top64 ?_ ?_); omega) | refine WC.seq ?_ | refine WC.block ?_ | refine WC.region ?_ | refine WL.nil ?_ | refine WC.skip ?_ | refine WC.exit ?_ | refine WC.ret ?_ | refine WQ.then rfl ?_ | refine WQ.thenExit ?_ | refine WQ.thenRet ?_ | refine WQ.blk ?_ | refine WQ.blkRet ?_ | refine WQ.blkHere rfl ?_ | refine WQ.blkOther rfl ?_ | refine WL.pure rfl rfl rfl rfl ?_ | refine WL.on rfl rfl ?_ | refine WL.off rfl rfl rfl ?_ | refine WC.condTrue rfl ?_ | refine WC.condFalse rfl ?_)
    refine WL.notNilP rfl rfl rfl rfl rfl rfl (by kernel_rfl) ?_
    repeat (first | ((with_reducible refine WL.topT ?_ ?_); omega) | ((with_reducible refine WL.topF ?_ ?_); omega) | ((with_reducible refine WL.top64 ?_ ?_); omega) | refine WC.seq ?_ | refine WC.block ?_ | refine WC.region ?_ | refine WL.nil ?_ | refine WC.skip ?_ | refine WC.exit ?_ | refine WC.ret ?_ | refine WQ.then rfl ?_ | refine WQ.thenExit ?_ | refine WQ.thenRet ?_ | refine WQ.blk ?_ | refine WQ.blkRet ?_ | refine WQ.blkHere rfl ?_ | refine WQ.blkOther rfl ?_ | refine WL.pure rfl rfl rfl rfl ?_ | refine WL.on rfl rfl ?_ | refine WL.off rfl rfl rfl ?_ | refine WC.condTrue rfl ?_ | refine WC.condFalse rfl ?_)
    refine WC.drawn 6 (fun wx => wx.heap = wr.heap) fun w2 hd => ?_
    have hS : w2.heap = wr.heap := hd.heap
    have hB := hd.below wr.heap.size
    clear hd
    (((first | refine WD.free 0 rfl (by kernel_rfl) rfl rfl (fun _ _ _ _ _ h => h) rfl rfl (.inr hS) ?_ | refine WD.skip 0 rfl (by kernel_rfl) rfl rfl (fun _ _ _ _ _ h => h) rfl (.inr hS) ?_); try (first | ((with_reducible refine WD.topT ?_ ?_); omega) | ((with_reducible refine WD.topF ?_ ?_); omega) | ((with_reducible refine WD.top64 ?_ ?_); omega))); ((first | refine WD.free 1 rfl (by kernel_rfl) rfl rfl (fun _ _ _ _ _ h => h) rfl rfl (.inr hS) ?_ | refine WD.skip 1 rfl (by kernel_rfl) rfl rfl (fun _ _ _ _ _ h => h) rfl (.inr hS) ?_); try (first | ((with_reducible refine WD.topT ?_ ?_); omega) | ((with_reducible refine WD.topF ?_ ?_); omega) | ((with_reducible refine WD.top64 ?_ ?_); omega))); ((first | refine WD.free 2 rfl (by kernel_rfl) rfl rfl (fun _ _ _ _ _ h => h) rfl rfl (.inr hS) ?_ | refine WD.skip 2 rfl (by kernel_rfl) rfl rfl (fun _ _ _ _ _ h => h) rfl (.inr hS) ?_); try (first | ((with_reducible refine WD.topT ?_ ?_); omega) | ((with_reducible refine WD.topF ?_ ?_); omega) | ((with_reducible refine WD.top64 ?_ ?_); omega))); ((first | refine WD.free 3 rfl (by kernel_rfl) rfl rfl (fun _ _ _ _ _ h => h) rfl rfl (.inr hS) ?_ | refine WD.skip 3 rfl (by kernel_rfl) rfl rfl (fun _ _ _ _ _ h => h) rfl (.inr hS) ?_); try (first | ((with_reducible refine WD.topT ?_ ?_); omega) | ((with_reducible refine WD.topF ?_ ?_); omega) | ((with_reducible refine WD.top64 ?_ ?_); omega))))
    refine WD.load 4 [6] rfl (by kernel_rfl) rfl rfl (fun _ _ _ _ _ h => h) rfl rfl rfl rfl (fun wx hx => (heap_cell hx _).trans h2) hS ?_
    (((first | refine WD.free 5 rfl (by kernel_rfl) rfl rfl (fun _ _ _ _ _ h => h) rfl rfl (.inr hS) ?_ | refine WD.skip 5 rfl (by kernel_rfl) rfl rfl (fun _ _ _ _ _ h => h) rfl (.inr hS) ?_); try (first | ((with_reducible refine WD.topT ?_ ?_); omega) | ((with_reducible refine WD.topF ?_ ?_); omega) | ((with_reducible refine WD.top64 ?_ ?_); omega))))
    refine WD.one 6 (by kernel_rfl) rfl ?_
    refine WL.pure rfl rfl rfl rfl ?_
    refine WL.nil (WQ.dk (.inl rfl) ?_)
    refine WD.done (by kernel_rfl) ?_
    repeat (first | ((with_reducible refine WL.topT ?_ ?_); omega) | ((with_reducible refine WL.topF ?_ ?_); omega) | ((with_reducible refine WL.top64 ?_ ?_); omega) | refine WC.seq ?_ | refine WC.block ?_ | refine WC.region ?_ | refine WL.nil ?_ | refine WC.skip ?_ | refine WC.exit ?_ | refine WC.ret ?_ | refine WQ.then rfl ?_ | refine WQ.thenExit ?_ | refine WQ.thenRet ?_ | refine WQ.blk ?_ | refine WQ.blkRet ?_ | refine WQ.blkHere rfl ?_ | refine WQ.blkOther rfl ?_ | refine WL.pure rfl rfl rfl rfl ?_ | refine WL.on rfl rfl ?_ | refine WL.off rfl rfl rfl ?_ | refine WC.condTrue rfl ?_ | refine WC.condFalse rfl ?_)
    exact WQ.ret2 rfl rfl rfl ⟨dp, nn, rfl, hshp, hB⟩
  · change WC _ _ _ [(0, .pointer (some ⟨tb, 0, none⟩)), (2, .int .i64 dp), (4, .pointer (some ⟨blk d t, 0, none⟩))] wr
    obtain ⟨nx', hs1, -⟩ := nodeAt hr hln
    obtain ⟨-, pv, vb⟩ := hm _ _ hs1
    repeat (first | ((with_reducible refine WL.topT ?_ ?_); omega) | ((with_reducible refine WL.topF ?_ ?_); omega) | ((with_reducible refine WL.top64 ?_ ?_); omega) | refine WC.seq ?_ | refine WC.block ?_ | refine WC.region ?_ | refine WL.nil ?_ | refine WC.skip ?_ | refine WC.exit ?_ | refine WC.ret ?_ | refine WQ.then rfl ?_ | refine WQ.thenExit ?_ | refine WQ.thenRet ?_ | refine WQ.blk ?_ | refine WQ.blkRet ?_ | refine WQ.blkHere rfl ?_ | refine WQ.blkOther rfl ?_ | refine WL.pure rfl rfl rfl rfl ?_ | refine WL.on rfl rfl ?_ | refine WL.off rfl rfl rfl ?_ | refine WC.condTrue rfl ?_ | refine WC.condFalse rfl ?_)
    refine WL.notNilP rfl rfl rfl rfl rfl rfl (by kernel_rfl) ?_
    cases d with
    | zero =>
      have hk : wr.cell? ⟨blk 0 t, 18, none⟩ = some (.pointer none) := by
        rw [cellR vb (j := 18) (by omega), ndF_kid _ _ (i := 0) (by omega)]
        obtain ⟨b, es⟩ := t
        cases es <;> rfl
      repeat (first | ((with_reducible refine WL.topT ?_ ?_); omega) | ((with_reducible refine WL.topF ?_ ?_); omega) | ((with_reducible refine WL.top64 ?_ ?_); omega) | refine WC.seq ?_ | refine WC.block ?_ | refine WC.region ?_ | refine WL.nil ?_ | refine WC.skip ?_ | refine WC.exit ?_ | refine WC.ret ?_ | refine WQ.then rfl ?_ | refine WQ.thenExit ?_ | refine WQ.thenRet ?_ | refine WQ.blk ?_ | refine WQ.blkRet ?_ | refine WQ.blkHere rfl ?_ | refine WQ.blkOther rfl ?_ | refine WL.pure rfl rfl rfl rfl ?_ | refine WL.on rfl rfl ?_ | refine WL.off rfl rfl rfl ?_ | refine WC.condTrue rfl ?_ | refine WC.condFalse rfl ?_)
      refine WL.idxA 0 18 rfl rfl rfl rfl rfl rfl rfl rfl (by omega) (by omega) ?_
      refine WL.load rfl rfl rfl rfl rfl rfl hk ?_
      repeat (first | ((with_reducible refine WL.topT ?_ ?_); omega) | ((with_reducible refine WL.topF ?_ ?_); omega) | ((with_reducible refine WL.top64 ?_ ?_); omega) | refine WC.seq ?_ | refine WC.block ?_ | refine WC.region ?_ | refine WL.nil ?_ | refine WC.skip ?_ | refine WC.exit ?_ | refine WC.ret ?_ | refine WQ.then rfl ?_ | refine WQ.thenExit ?_ | refine WQ.thenRet ?_ | refine WQ.blk ?_ | refine WQ.blkRet ?_ | refine WQ.blkHere rfl ?_ | refine WQ.blkOther rfl ?_ | refine WL.pure rfl rfl rfl rfl ?_ | refine WL.on rfl rfl ?_ | refine WL.off rfl rfl rfl ?_ | refine WC.condTrue rfl ?_ | refine WC.condFalse rfl ?_)
      refine WQ.again ⟨none, dp + 1, 0⟩ ⟨rfl, rfl, rfl, trivial⟩ ⟨rfl, by show dp + 1 + 0 = X; omega, .inl ⟨rfl, rfl⟩⟩ (by show 0 < 0 + 1; omega)
    | succ d =>
      obtain ⟨b, ks⟩ := t
      cases ks with
      | nil => rcases hc with e | e; cases e; simp [cnt] at e
      | cons s ks =>
        have hsm : 4 ≤ cnt d s ∧ Mn d s := hmn.2 s (List.Mem.head _)
        have hk : wr.cell? ⟨blk (d + 1) (b, s :: ks), 18, none⟩ = some (.pointer (some ⟨blk d s, 0, none⟩)) := kidR vb (i := 0) (q := blk d s) (by omega) rfl
        obtain ⟨nxs, hls⟩ := Lnk_mem (l := s :: ks) hln s (by simp)
        repeat (first | ((with_reducible refine WL.topT ?_ ?_); omega) | ((with_reducible refine WL.topF ?_ ?_); omega) | ((with_reducible refine WL.top64 ?_ ?_); omega) | refine WC.seq ?_ | refine WC.block ?_ | refine WC.region ?_ | refine WL.nil ?_ | refine WC.skip ?_ | refine WC.exit ?_ | refine WC.ret ?_ | refine WQ.then rfl ?_ | refine WQ.thenExit ?_ | refine WQ.thenRet ?_ | refine WQ.blk ?_ | refine WQ.blkRet ?_ | refine WQ.blkHere rfl ?_ | refine WQ.blkOther rfl ?_ | refine WL.pure rfl rfl rfl rfl ?_ | refine WL.on rfl rfl ?_ | refine WL.off rfl rfl rfl ?_ | refine WC.condTrue rfl ?_ | refine WC.condFalse rfl ?_)
        refine WL.idxA 0 18 rfl rfl rfl rfl rfl rfl rfl rfl (by omega) (by omega) ?_
        refine WL.load rfl rfl rfl rfl rfl rfl hk ?_
        repeat (first | ((with_reducible refine WL.topT ?_ ?_); omega) | ((with_reducible refine WL.topF ?_ ?_); omega) | ((with_reducible refine WL.top64 ?_ ?_); omega) | refine WC.seq ?_ | refine WC.block ?_ | refine WC.region ?_ | refine WL.nil ?_ | refine WC.skip ?_ | refine WC.exit ?_ | refine WC.ret ?_ | refine WQ.then rfl ?_ | refine WQ.thenExit ?_ | refine WQ.thenRet ?_ | refine WQ.blk ?_ | refine WQ.blkRet ?_ | refine WQ.blkHere rfl ?_ | refine WQ.blkOther rfl ?_ | refine WL.pure rfl rfl rfl rfl ?_ | refine WL.on rfl rfl ?_ | refine WL.off rfl rfl rfl ?_ | refine WC.condTrue rfl ?_ | refine WC.condFalse rfl ?_)
        refine WQ.again ⟨some (blk d s), dp + 1, d + 1⟩ ⟨rfl, rfl, rfl, trivial⟩ ⟨rfl, by show dp + 1 + (d + 1) = X; omega, .inr ⟨d, s, nxs, rfl, hr.2 s (List.Mem.head _), hls, .inr (by omega), hsm.2, rfl⟩⟩ (by show d + 1 < d + 1 + 1; omega)
def digs : Nat → Nat → Nat
  | 0, _ => 0
  | f + 1, n => if n = 0 then 0 else digs f (n / 2) + 1
theorem digs_ge : ∀ (f n d : Nat), n < 2 ^ f → 2 ^ d ≤ n → d + 1 ≤ digs f n
  | 0, n, d, h, h2 => by have : 0 < 2 ^ d := Nat.two_pow_pos d; simp at h; omega
  | f + 1, n, d, h, h2 => by
    have hp : 0 < 2 ^ d := Nat.two_pow_pos d
    unfold digs
    rw [if_neg (by omega)]
    cases d with
    | zero => omega
    | succ d =>
      have := digs_ge f (n / 2) d (by rw [Nat.pow_succ] at h; omega) (by rw [Nat.pow_succ] at h2; omega)
      omega
set_option maxRecDepth 20000 in
set_option maxHeartbeats 2000000 in
theorem shaped_any {w : World} {st : St} {tb : Nat} {l : List KV} (h : IsT w st tb l) (hl : l.length < 1000000000) : Calls Try.prog 15 #[.pointer (some ⟨tb, 0, none⟩)] w fun e w' => e = .returned (.bool true) ∧ Below w.heap.size w w' := by
  refine enter (args := [.pointer (some ⟨tb, 0, none⟩)]) Try.func15 rfl Try.ntmps15 rfl ?_
  repeat (first | ((with_reducible refine WL.topT ?_ ?_); omega) | ((with_reducible refine WL.topF ?_ ?_); omega) | ((with_reducible refine WL.top64 ?_ ?_); omega) | refine WC.seq ?_ | refine WC.block ?_ | refine WC.region ?_ | refine WL.nil ?_ | refine WC.skip ?_ | refine WC.exit ?_ | refine WC.ret ?_ | refine WQ.then rfl ?_ | refine WQ.thenExit ?_ | refine WQ.thenRet ?_ | refine WQ.blk ?_ | refine WQ.blkRet ?_ | refine WQ.blkHere rfl ?_ | refine WQ.blkOther rfl ?_ | refine WL.pure rfl rfl rfl rfl ?_ | refine WL.on rfl rfl ?_ | refine WL.off rfl rfl rfl ?_ | refine WC.condTrue rfl ?_ | refine WC.condFalse rfl ?_)
  refine WL.call rfl rfl rfl rfl rfl Try.func23 rfl (by kernel_rfl) (tshape_any h hl) ?_
  rintro _ w1 ⟨dp, nn, rfl, hs, hb1⟩
  refine ⟨_, rfl, ?_⟩
  replace h := h.below hb1
  repeat (first | ((with_reducible refine WL.topT ?_ ?_); omega) | ((with_reducible refine WL.topF ?_ ?_); omega) | ((with_reducible refine WL.top64 ?_ ?_); omega) | refine WC.seq ?_ | refine WC.block ?_ | refine WC.region ?_ | refine WL.nil ?_ | refine WC.skip ?_ | refine WC.exit ?_ | refine WC.ret ?_ | refine WQ.then rfl ?_ | refine WQ.thenExit ?_ | refine WQ.thenRet ?_ | refine WQ.blk ?_ | refine WQ.blkRet ?_ | refine WQ.blkHere rfl ?_ | refine WQ.blkOther rfl ?_ | refine WL.pure rfl rfl rfl rfl ?_ | refine WL.on rfl rfl ?_ | refine WL.off rfl rfl rfl ?_ | refine WC.condTrue rfl ?_ | refine WC.condFalse rfl ?_)
  refine WL.call rfl rfl rfl rfl rfl Try.func17 rfl (by kernel_rfl) (tlen_any h) ?_
  rintro _ w2 ⟨rfl, hw⟩
  subst hw
  refine ⟨_, rfl, ?_⟩
  repeat (first | ((with_reducible refine WL.topT ?_ ?_); omega) | ((with_reducible refine WL.topF ?_ ?_); omega) | ((with_reducible refine WL.top64 ?_ ?_); omega) | refine WC.seq ?_ | refine WC.block ?_ | refine WC.region ?_ | refine WL.nil ?_ | refine WC.skip ?_ | refine WC.exit ?_ | refine WC.ret ?_ | refine WQ.then rfl ?_ | refine WQ.thenExit ?_ | refine WQ.thenRet ?_ | refine WQ.blk ?_ | refine WQ.blkRet ?_ | refine WQ.blkHere rfl ?_ | refine WQ.blkOther rfl ?_ | refine WL.pure rfl rfl rfl rfl ?_ | refine WL.on rfl rfl ?_ | refine WL.off rfl rfl rfl ?_ | refine WC.condTrue rfl ?_ | refine WC.condFalse rfl ?_)
  obtain ⟨R, hR⟩ : ∃ R, digs 30 l.length = R := ⟨_, rfl⟩
  have hR30 : ∀ f n, digs f n ≤ f := by
    intro f
    induction f with
    | zero => intro n; exact Nat.le_refl _
    | succ f ih => intro n; unfold digs; split; omega; have := ih (n / 2); omega
  refine WC.loop (fun x : Nat × Nat => [(0, .pointer (some ⟨tb, 0, none⟩)), (3, .int .i64 dp), (4, .int .i64 nn), (5, .int .i64 x.1), (6, .int .i64 x.2)])
    (fun x w' => w' = w2 ∧ x.1 + digs (30 - x.1) x.2 = R ∧ x.1 ≤ 30 ∧ x.2 < 2 ^ (30 - x.1) ∧ x.2 ≤ l.length) (fun x => x.2) (0, l.length) ⟨rfl, rfl, rfl, rfl, rfl, trivial⟩ ⟨rfl, by simpa using hR, by simp, by show l.length < 2 ^ 30; omega, Nat.le_refl _⟩ ?_
  rintro ⟨c, x⟩ wr ⟨hw, hc, hc30, hx, hxl⟩
  subst hw
  simp only at hc hc30 hx hxl
  by_cases hx0 : x = 0
  · subst hx0
    have hcR : c = R := by
      have : digs (30 - c) 0 = 0 := by cases 30 - c <;> rfl
      omega
    subst hcR
    have hdp : dp ≤ c ∧ nn ≤ l.length ∧ (0 < dp ↔ 0 < l.length) ∧ (0 < nn ↔ 0 < l.length) := by
      rcases hs with ⟨rfl, rfl, rfl⟩ | ⟨h1, h2, h3, h4, h5⟩
      · simp
      · have := digs_ge 30 l.length (dp - 1) (by omega) h5
        have hp := List.length_pos_iff.2 h1
        omega
    have tl := tlen_any h
    by_cases hl0 : 0 < l.length
    · repeat (first | ((with_reducible refine WL.topT ?_ ?_); omega) | ((with_reducible refine WL.topF ?_ ?_); omega) | ((with_reducible refine WL.top64 ?_ ?_); omega) | refine WC.seq ?_ | refine WC.block ?_ | refine WC.region ?_ | refine WL.nil ?_ | refine WC.skip ?_ | refine WC.exit ?_ | refine WC.ret ?_ | refine WQ.then rfl ?_ | refine WQ.thenExit ?_ | refine WQ.thenRet ?_ | refine WQ.blk ?_ | refine WQ.blkRet ?_ | refine WQ.blkHere rfl ?_ | refine WQ.blkOther rfl ?_ | refine WL.pure rfl rfl rfl rfl ?_ | refine WL.on rfl rfl ?_ | refine WL.off rfl rfl rfl ?_ | refine WC.condTrue rfl ?_ | refine WC.condFalse rfl ?_)
      refine WL.call rfl rfl rfl rfl rfl Try.func17 rfl (by kernel_rfl) tl ?_
      rintro _ _ ⟨rfl, rfl⟩
      refine ⟨_, rfl, ?_⟩
      repeat (first | ((with_reducible refine WL.topT ?_ ?_); omega) | ((with_reducible refine WL.topF ?_ ?_); omega) | ((with_reducible refine WL.top64 ?_ ?_); omega) | refine WC.seq ?_ | refine WC.block ?_ | refine WC.region ?_ | refine WL.nil ?_ | refine WC.skip ?_ | refine WC.exit ?_ | refine WC.ret ?_ | refine WQ.then rfl ?_ | refine WQ.thenExit ?_ | refine WQ.thenRet ?_ | refine WQ.blk ?_ | refine WQ.blkRet ?_ | refine WQ.blkHere rfl ?_ | refine WQ.blkOther rfl ?_ | refine WL.pure rfl rfl rfl rfl ?_ | refine WL.on rfl rfl ?_ | refine WL.off rfl rfl rfl ?_ | refine WC.condTrue rfl ?_ | refine WC.condFalse rfl ?_)
      refine WL.call rfl rfl rfl rfl rfl Try.func17 rfl (by kernel_rfl) tl ?_
      rintro _ _ ⟨rfl, rfl⟩
      refine ⟨_, rfl, ?_⟩
      repeat (first | ((with_reducible refine WL.topT ?_ ?_); omega) | ((with_reducible refine WL.topF ?_ ?_); omega) | ((with_reducible refine WL.top64 ?_ ?_); omega) | refine WC.seq ?_ | refine WC.block ?_ | refine WC.region ?_ | refine WL.nil ?_ | refine WC.skip ?_ | refine WC.exit ?_ | refine WC.ret ?_ | refine WQ.then rfl ?_ | refine WQ.thenExit ?_ | refine WQ.thenRet ?_ | refine WQ.blk ?_ | refine WQ.blkRet ?_ | refine WQ.blkHere rfl ?_ | refine WQ.blkOther rfl ?_ | refine WL.pure rfl rfl rfl rfl ?_ | refine WL.on rfl rfl ?_ | refine WL.off rfl rfl rfl ?_ | refine WC.condTrue rfl ?_ | refine WC.condFalse rfl ?_)
      refine WL.call rfl rfl rfl rfl rfl Try.func17 rfl (by kernel_rfl) tl ?_
      rintro _ _ ⟨rfl, rfl⟩
      refine ⟨_, rfl, ?_⟩
      repeat (first | ((with_reducible refine WL.topT ?_ ?_); omega) | ((with_reducible refine WL.topF ?_ ?_); omega) | ((with_reducible refine WL.top64 ?_ ?_); omega) | refine WC.seq ?_ | refine WC.block ?_ | refine WC.region ?_ | refine WL.nil ?_ | refine WC.skip ?_ | refine WC.exit ?_ | refine WC.ret ?_ | refine WQ.then rfl ?_ | refine WQ.thenExit ?_ | refine WQ.thenRet ?_ | refine WQ.blk ?_ | refine WQ.blkRet ?_ | refine WQ.blkHere rfl ?_ | refine WQ.blkOther rfl ?_ | refine WL.pure rfl rfl rfl rfl ?_ | refine WL.on rfl rfl ?_ | refine WL.off rfl rfl rfl ?_ | refine WC.condTrue rfl ?_ | refine WC.condFalse rfl ?_)
      exact WQ.ret1 rfl rfl ⟨rfl, hb1⟩
    · repeat (first | ((with_reducible refine WL.topT ?_ ?_); omega) | ((with_reducible refine WL.topF ?_ ?_); omega) | ((with_reducible refine WL.top64 ?_ ?_); omega) | refine WC.seq ?_ | refine WC.block ?_ | refine WC.region ?_ | refine WL.nil ?_ | refine WC.skip ?_ | refine WC.exit ?_ | refine WC.ret ?_ | refine WQ.then rfl ?_ | refine WQ.thenExit ?_ | refine WQ.thenRet ?_ | refine WQ.blk ?_ | refine WQ.blkRet ?_ | refine WQ.blkHere rfl ?_ | refine WQ.blkOther rfl ?_ | refine WL.pure rfl rfl rfl rfl ?_ | refine WL.on rfl rfl ?_ | refine WL.off rfl rfl rfl ?_ | refine WC.condTrue rfl ?_ | refine WC.condFalse rfl ?_)
      refine WL.call rfl rfl rfl rfl rfl Try.func17 rfl (by kernel_rfl) tl ?_
      rintro _ _ ⟨rfl, rfl⟩
      refine ⟨_, rfl, ?_⟩
      repeat (first | ((with_reducible refine WL.topT ?_ ?_); omega) | ((with_reducible refine WL.topF ?_ ?_); omega) | ((with_reducible refine WL.top64 ?_ ?_); omega) | refine WC.seq ?_ | refine WC.block ?_ | refine WC.region ?_ | refine WL.nil ?_ | refine WC.skip ?_ | refine WC.exit ?_ | refine WC.ret ?_ | refine WQ.then rfl ?_ | refine WQ.thenExit ?_ | refine WQ.thenRet ?_ | refine WQ.blk ?_ | refine WQ.blkRet ?_ | refine WQ.blkHere rfl ?_ | refine WQ.blkOther rfl ?_ | refine WL.pure rfl rfl rfl rfl ?_ | refine WL.on rfl rfl ?_ | refine WL.off rfl rfl rfl ?_ | refine WC.condTrue rfl ?_ | refine WC.condFalse rfl ?_)
      refine WL.call rfl rfl rfl rfl rfl Try.func17 rfl (by kernel_rfl) tl ?_
      rintro _ _ ⟨rfl, rfl⟩
      refine ⟨_, rfl, ?_⟩
      repeat (first | ((with_reducible refine WL.topT ?_ ?_); omega) | ((with_reducible refine WL.topF ?_ ?_); omega) | ((with_reducible refine WL.top64 ?_ ?_); omega) | refine WC.seq ?_ | refine WC.block ?_ | refine WC.region ?_ | refine WL.nil ?_ | refine WC.skip ?_ | refine WC.exit ?_ | refine WC.ret ?_ | refine WQ.then rfl ?_ | refine WQ.thenExit ?_ | refine WQ.thenRet ?_ | refine WQ.blk ?_ | refine WQ.blkRet ?_ | refine WQ.blkHere rfl ?_ | refine WQ.blkOther rfl ?_ | refine WL.pure rfl rfl rfl rfl ?_ | refine WL.on rfl rfl ?_ | refine WL.off rfl rfl rfl ?_ | refine WC.condTrue rfl ?_ | refine WC.condFalse rfl ?_)
      refine WL.call rfl rfl rfl rfl rfl Try.func17 rfl (by kernel_rfl) tl ?_
      rintro _ _ ⟨rfl, rfl⟩
      refine ⟨_, rfl, ?_⟩
      repeat (first | ((with_reducible refine WL.topT ?_ ?_); omega) | ((with_reducible refine WL.topF ?_ ?_); omega) | ((with_reducible refine WL.top64 ?_ ?_); omega) | refine WC.seq ?_ | refine WC.block ?_ | refine WC.region ?_ | refine WL.nil ?_ | refine WC.skip ?_ | refine WC.exit ?_ | refine WC.ret ?_ | refine WQ.then rfl ?_ | refine WQ.thenExit ?_ | refine WQ.thenRet ?_ | refine WQ.blk ?_ | refine WQ.blkRet ?_ | refine WQ.blkHere rfl ?_ | refine WQ.blkOther rfl ?_ | refine WL.pure rfl rfl rfl rfl ?_ | refine WL.on rfl rfl ?_ | refine WL.off rfl rfl rfl ?_ | refine WC.condTrue rfl ?_ | refine WC.condFalse rfl ?_)
      exact WQ.ret1 rfl rfl ⟨rfl, hb1⟩
  · have hlt30 : c < 30 := by
      rcases Nat.lt_or_ge c 30 with h | h
      · exact h
      · rw [show 30 - c = 0 by omega] at hx; simp at hx; omega
    have hq : ((x : Int).tdiv 2) = ((x / 2 : Nat) : Int) := rfl
    repeat (first | ((with_reducible refine WL.topT ?_ ?_); omega) | ((with_reducible refine WL.topF ?_ ?_); omega) | ((with_reducible refine WL.top64 ?_ ?_); omega) | refine WC.seq ?_ | refine WC.block ?_ | refine WC.region ?_ | refine WL.nil ?_ | refine WC.skip ?_ | refine WC.exit ?_ | refine WC.ret ?_ | refine WQ.then rfl ?_ | refine WQ.thenExit ?_ | refine WQ.thenRet ?_ | refine WQ.blk ?_ | refine WQ.blkRet ?_ | refine WQ.blkHere rfl ?_ | refine WQ.blkOther rfl ?_ | refine WL.pure rfl rfl rfl rfl ?_ | refine WL.on rfl rfl ?_ | refine WL.off rfl rfl rfl ?_ | refine WC.condTrue rfl ?_ | refine WC.condFalse rfl ?_)
    refine WQ.as 6 (.int .i64 ((x / 2 : Nat) : Int)) rfl (congrArg (Value.int .i64) (by show IntKind.wrap .i64 ((x : Int).tdiv 2) = _; rw [hq]; exact IntWalk.i64_in _ (by omega))) ?_
    refine WQ.again (c + 1, x / 2) ⟨rfl, rfl, rfl, rfl, rfl, trivial⟩ ⟨rfl, ?_, by show c + 1 ≤ 30; omega, ?_, by show x / 2 ≤ l.length; omega⟩ (by show x / 2 < x; omega)
    · show c + 1 + digs (30 - (c + 1)) (x / 2) = R
      rw [← hc, show 30 - c = (30 - (c + 1)) + 1 by omega]
      conv => rhs; unfold digs
      rw [if_neg hx0]
      omega
    · show x / 2 < 2 ^ (30 - (c + 1))
      rw [show 30 - c = (30 - (c + 1)) + 1 by omega, Nat.pow_succ] at hx
      omega
end K
end Go.Proofs.Ytilmfnlaenneeaa

/- Trees (chapter 13): leaf, Get, all. -/
namespace Go.Proofs.Ytilmfnlaenneeaa
open Go.RowKit
namespace K
open Tre
/-- Where a text would stand: a leaf, what lies ahead and behind. -/
structure LeafAt (st : St) (k : Ky) (l : List KV) (A : List (Nat × List KV)) (b : Nat) (es : List KV) (B : List (Nat × List KV)) : Prop where
  lnk : Lnk st (A ++ (b, es) :: B) none
  el : l = A.flatMap Prod.snd ++ (es ++ B.flatMap Prod.snd)
  lo : Lo (A.flatMap Prod.snd) k
  hi : Hi (B.flatMap Prod.snd) k
structure LX where
  A : List (Nat × List KV)
  d : Nat
  t : Tr d
  B : List (Nat × List KV)
theorem els_flat {d : Nat} (l : List (Tr d)) : (l.flatMap (lvs d)).flatMap Prod.snd = l.flatMap (els d) := by
  rw [List.flatMap_assoc]
  exact congrArg (fun f => List.flatMap f l) (funext fun s => (els_lvs d s).symm)
set_option maxRecDepth 20000 in
set_option maxHeartbeats 4000000 in
theorem tleaf_any {w : World} {st : St} {tb : Nat} {l : List KV} (h : IsT w st tb l) (k : Ky) : Calls Try.prog 36 #[.pointer (some ⟨tb, 0, none⟩), .string k] w fun e w' => Below w.heap.size w w' ∧
    ((e = .returned (.pointer none) ∧ l = []) ∨ ∃ A b es B, e = .returned (.pointer (some ⟨b, 0, none⟩)) ∧ LeafAt st k l A b es B) := by
  refine enter (args := [.pointer (some ⟨tb, 0, none⟩), .string k]) Try.func36 rfl Try.ntmps36 rfl ?_
  obtain ⟨hm, htb, root, nn, ht, hok⟩ := h
  have hsl := hok.srt
  have h0 : w.cell? ⟨tb, 0, none⟩ = some (ptrV root) := ht.cell 0 (by simp [trC])
  repeat (first | ((with_reducible refine WL.topT ?_ ?_); omega) | ((with_reducible refine WL.topF ?_ ?_); omega) | ((with_reducible refine WL.top64 ?_ ?_); omega) | refine WC.seq ?_ | refine WC.block ?_ | refine WC.region ?_ | refine WL.nil ?_ | refine WC.skip ?_ | refine WC.exit ?_ | refine WC.ret ?_ | refine WQ.then rfl ?_ | refine WQ.thenExit ?_ | refine WQ.thenRet ?_ | refine WQ.blk ?_ | refine WQ.blkRet ?_ | refine WQ.blkHere rfl ?_ | refine WQ.blkOther rfl ?_ | refine WL.pure rfl rfl rfl rfl ?_ | refine WL.on rfl rfl ?_ | refine WL.off rfl rfl rfl ?_ | refine WC.condTrue rfl ?_ | refine WC.condFalse rfl ?_)
  refine WL.nilP rfl rfl rfl rfl rfl rfl (by kernel_rfl) ?_
  repeat (first | ((with_reducible refine WL.topT ?_ ?_); omega) | ((with_reducible refine WL.topF ?_ ?_); omega) | ((with_reducible refine WL.top64 ?_ ?_); omega) | refine WC.seq ?_ | refine WC.block ?_ | refine WC.region ?_ | refine WL.nil ?_ | refine WC.skip ?_ | refine WC.exit ?_ | refine WC.ret ?_ | refine WQ.then rfl ?_ | refine WQ.thenExit ?_ | refine WQ.thenRet ?_ | refine WQ.blk ?_ | refine WQ.blkRet ?_ | refine WQ.blkHere rfl ?_ | refine WQ.blkOther rfl ?_ | refine WL.pure rfl rfl rfl rfl ?_ | refine WL.on rfl rfl ?_ | refine WL.off rfl rfl rfl ?_ | refine WL.load rfl rfl rfl rfl rfl rfl (by assumption) ?_ | refine WC.condTrue rfl ?_ | refine WC.condFalse rfl ?_)
  refine WL.as 12 (.pointer (root.map fun b => ⟨b, 0, none⟩)) rfl (by cases root <;> rfl) ?_
  refine WL.nilP rfl rfl rfl rfl rfl rfl (by kernel_rfl) ?_
  rcases hok with ⟨rfl, rfl, rfl⟩ | ⟨D, T, rfl, hg, rfl, hc1⟩
  · repeat (first | ((with_reducible refine WL.topT ?_ ?_); omega) | ((with_reducible refine WL.topF ?_ ?_); omega) | ((with_reducible refine WL.top64 ?_ ?_); omega) | refine WC.seq ?_ | refine WC.block ?_ | refine WC.region ?_ | refine WL.nil ?_ | refine WC.skip ?_ | refine WC.exit ?_ | refine WC.ret ?_ | refine WQ.then rfl ?_ | refine WQ.thenExit ?_ | refine WQ.thenRet ?_ | refine WQ.blk ?_ | refine WQ.blkRet ?_ | refine WQ.blkHere rfl ?_ | refine WQ.blkOther rfl ?_ | refine WL.pure rfl rfl rfl rfl ?_ | refine WL.on rfl rfl ?_ | refine WL.off rfl rfl rfl ?_ | refine WC.condTrue rfl ?_ | refine WC.condFalse rfl ?_)
    exact WQ.ret1 rfl rfl ⟨Below.refl _ _, .inl ⟨rfl, rfl⟩⟩
  clear h0
  have h0 := (hdrR ht).1
  repeat (first | ((with_reducible refine WL.topT ?_ ?_); omega) | ((with_reducible refine WL.topF ?_ ?_); omega) | ((with_reducible refine WL.top64 ?_ ?_); omega) | refine WC.seq ?_ | refine WC.block ?_ | refine WC.region ?_ | refine WL.nil ?_ | refine WC.skip ?_ | refine WC.exit ?_ | refine WC.ret ?_ | refine WQ.then rfl ?_ | refine WQ.thenExit ?_ | refine WQ.thenRet ?_ | refine WQ.blk ?_ | refine WQ.blkRet ?_ | refine WQ.blkHere rfl ?_ | refine WQ.blkOther rfl ?_ | refine WL.pure rfl rfl rfl rfl ?_ | refine WL.on rfl rfl ?_ | refine WL.off rfl rfl rfl ?_ | refine WL.load rfl rfl rfl rfl rfl rfl (by assumption) ?_ | refine WC.condTrue rfl ?_ | refine WC.condFalse rfl ?_)
  refine WC.loop (fun x : LX => [(0, .pointer (some ⟨tb, 0, none⟩)), (1, .string k), (5, .pointer (some ⟨blk x.d x.t, 0, none⟩))])
    (fun x w' => Below w.heap.size w w' ∧ Lnk st (x.A ++ lvs x.d x.t ++ x.B) none ∧ l = x.A.flatMap Prod.snd ++ (els x.d x.t ++ x.B.flatMap Prod.snd) ∧ Lo (x.A.flatMap Prod.snd) k ∧ Hi (x.B.flatMap Prod.snd) k ∧ RepI x.d st x.t ∧ Mn x.d x.t ∧ (x.d = 0 ∨ 2 ≤ cnt x.d x.t)) (fun x => x.d) ⟨[], D, T, []⟩ ⟨rfl, rfl, rfl, trivial⟩
    ⟨Below.refl _ _, by simpa using hg.lnk, by simpa using hg.el.symm, Lo.nil, Hi.nil, hg.rep, hg.mn, hg.root⟩ ?_
  rintro ⟨A, d, t, B⟩ wr ⟨hb, hln, hel, hlo, hhi, hr, hmn, hc⟩
  simp only at hln hel hlo hhi hr hmn hc
  have hmr := hm.below hb
  cases d with
  | zero =>
    obtain ⟨b, es⟩ := t
    change WC _ _ _ [(0, .pointer (some ⟨tb, 0, none⟩)), (1, .string k), (5, .pointer (some ⟨b, 0, none⟩))] wr
    have hln' : Lnk st (A ++ (b, es) :: B) none := by
      have : A ++ lvs 0 (b, es) ++ B = A ++ (b, es) :: B := by simp [lvs]
      rw [this] at hln; exact hln
    have hs1 : st b = some ⟨true, leafE es, Tre.hd B none⟩ := (Lnk.app.1 hln').2.1
    obtain ⟨-, pv, vb⟩ := hmr _ _ hs1
    have l0 : wr.cell? ⟨b, 0, none⟩ = some (.bool true) := cellR vb (by omega)
    repeat (first | ((with_reducible refine WL.topT ?_ ?_); omega) | ((with_reducible refine WL.topF ?_ ?_); omega) | ((with_reducible refine WL.top64 ?_ ?_); omega) | refine WC.seq ?_ | refine WC.block ?_ | refine WC.region ?_ | refine WL.nil ?_ | refine WC.skip ?_ | refine WC.exit ?_ | refine WC.ret ?_ | refine WQ.then rfl ?_ | refine WQ.thenExit ?_ | refine WQ.thenRet ?_ | refine WQ.blk ?_ | refine WQ.blkRet ?_ | refine WQ.blkHere rfl ?_ | refine WQ.blkOther rfl ?_ | refine WL.pure rfl rfl rfl rfl ?_ | refine WL.on rfl rfl ?_ | refine WL.off rfl rfl rfl ?_ | refine WL.load rfl rfl rfl rfl rfl rfl (by assumption) ?_ | refine WC.condTrue rfl ?_ | refine WC.condFalse rfl ?_)
    exact WQ.ret1 rfl rfl ⟨hb, .inr ⟨A, b, es, B, rfl, ⟨hln', hel, hlo, hhi⟩⟩⟩
  | succ d =>
    obtain ⟨b, ks⟩ := t
    change WC _ _ _ [(0, .pointer (some ⟨tb, 0, none⟩)), (1, .string k), (5, .pointer (some ⟨b, 0, none⟩))] wr
    have h2 : 2 ≤ ks.length := by rcases hc with e | e; cases e; exact e
    obtain ⟨hk8, hks⟩ : ks.length ≤ 8 ∧ ∀ s ∈ ks, 4 ≤ cnt d s ∧ Mn d s := hmn
    have hss : Srt (ks.flatMap (els d)) := by
      rw [hel] at hsl
      exact (srt_app.1 (srt_app.1 hsl).2.1).1
    have hs1 : st b = some ⟨false, ks.map (kidE d), none⟩ := hr.1
    obtain ⟨-, pv, vb⟩ := hmr _ _ hs1
    have l0 : wr.cell? ⟨b, 0, none⟩ = some (.bool false) := cellR vb (by omega)
    have hml : ∀ q : List (Tr d), (q.map (kidE d)).length = q.length := fun q => List.length_map ..
    obtain ⟨kl0, s, kr, hke, hki, hlo2, hhi2, -⟩ := kid_cut (k := k) (fun x hx => els_ne (hks x hx).2 (by have := (hks x hx).1; omega)) hss (fun e => by rw [e] at h2; simp at h2)
    have hl8 : kl0.length < 8 := by rw [hke] at hk8; simp only [List.length_append, List.length_cons] at hk8; omega
    have hkd := kidR vb (i := kl0.length) (q := blk d s) (by omega) (by show ((ks.map (kidE d)).getD kl0.length noE).kid = _; rw [hke, kid_at]; rfl)
    repeat (first | ((with_reducible refine WL.topT ?_ ?_); omega) | ((with_reducible refine WL.topF ?_ ?_); omega) | ((with_reducible refine WL.top64 ?_ ?_); omega) | refine WC.seq ?_ | refine WC.block ?_ | refine WC.region ?_ | refine WL.nil ?_ | refine WC.skip ?_ | refine WC.exit ?_ | refine WC.ret ?_ | refine WQ.then rfl ?_ | refine WQ.thenExit ?_ | refine WQ.thenRet ?_ | refine WQ.blk ?_ | refine WQ.blkRet ?_ | refine WQ.blkHere rfl ?_ | refine WQ.blkOther rfl ?_ | refine WL.pure rfl rfl rfl rfl ?_ | refine WL.on rfl rfl ?_ | refine WL.off rfl rfl rfl ?_ | refine WL.load rfl rfl rfl rfl rfl rfl (by assumption) ?_ | refine WC.condTrue rfl ?_ | refine WC.condFalse rfl ?_)
    refine WC.drawn 8 (fun wx => wx.heap = wr.heap) fun w2 hd => ?_
    have hS : w2.heap = wr.heap := hd.heap
    have hb2 : Below w.heap.size w w2 := hb.trans (hd.below _)
    have vb2 := vb.below (hd.below _) vb.lt
    clear hd
    (((first | refine WD.free 0 rfl (by kernel_rfl) rfl rfl (fun _ _ _ _ _ h => h) rfl rfl (.inr hS) ?_ | refine WD.skip 0 rfl (by kernel_rfl) rfl rfl (fun _ _ _ _ _ h => h) rfl (.inr hS) ?_); try (first | ((with_reducible refine WD.topT ?_ ?_); omega) | ((with_reducible refine WD.topF ?_ ?_); omega) | ((with_reducible refine WD.top64 ?_ ?_); omega))); ((first | refine WD.free 1 rfl (by kernel_rfl) rfl rfl (fun _ _ _ _ _ h => h) rfl rfl (.inr hS) ?_ | refine WD.skip 1 rfl (by kernel_rfl) rfl rfl (fun _ _ _ _ _ h => h) rfl (.inr hS) ?_); try (first | ((with_reducible refine WD.topT ?_ ?_); omega) | ((with_reducible refine WD.topF ?_ ?_); omega) | ((with_reducible refine WD.top64 ?_ ?_); omega))); ((first | refine WD.free 2 rfl (by kernel_rfl) rfl rfl (fun _ _ _ _ _ h => h) rfl rfl (.inr hS) ?_ | refine WD.skip 2 rfl (by kernel_rfl) rfl rfl (fun _ _ _ _ _ h => h) rfl (.inr hS) ?_); try (first | ((with_reducible refine WD.topT ?_ ?_); omega) | ((with_reducible refine WD.topF ?_ ?_); omega) | ((with_reducible refine WD.top64 ?_ ?_); omega))); ((first | refine WD.free 4 rfl (by kernel_rfl) rfl rfl (fun _ _ _ _ _ h => h) rfl rfl (.inr hS) ?_ | refine WD.skip 4 rfl (by kernel_rfl) rfl rfl (fun _ _ _ _ _ h => h) rfl (.inr hS) ?_); try (first | ((with_reducible refine WD.topT ?_ ?_); omega) | ((with_reducible refine WD.topF ?_ ?_); omega) | ((with_reducible refine WD.top64 ?_ ?_); omega))); ((first | refine WD.free 5 rfl (by kernel_rfl) rfl rfl (fun _ _ _ _ _ h => h) rfl rfl (.inr hS) ?_ | refine WD.skip 5 rfl (by kernel_rfl) rfl rfl (fun _ _ _ _ _ h => h) rfl (.inr hS) ?_); try (first | ((with_reducible refine WD.topT ?_ ?_); omega) | ((with_reducible refine WD.topF ?_ ?_); omega) | ((with_reducible refine WD.top64 ?_ ?_); omega))))
    refine WD.one 3 (by kernel_rfl) rfl ?_
    refine WL.call rfl rfl rfl rfl rfl Try.func26 rfl (by kernel_rfl) (kid_any (key := k) vb2 (by show (ks.map (kidE d)).length ≤ 8; rw [hml]; omega) (by show 1 ≤ (ks.map (kidE d)).length; rw [hml]; omega)) ?_
    rintro _ w3 ⟨rfl, hw3⟩
    subst hw3
    refine ⟨_, rfl, ?_⟩
    simp only [keys_kid, hml]
    rw [← hki]
    refine WL.nil (WQ.dk (.inr hS) ?_)
    refine WD.idxA 6 kl0.length (18 + kl0.length) rfl (by kernel_rfl) rfl rfl (fun _ _ _ _ _ h => h) rfl rfl rfl rfl rfl rfl (by omega) (by omega) (.inr hS) ?_
    refine WD.load 7 [8] rfl (by kernel_rfl) rfl rfl (fun _ _ _ _ _ h => h) rfl rfl rfl rfl (fun wx hx => (heap_cell hx _).trans hkd) hS ?_
    refine WD.one 8 (by kernel_rfl) rfl ?_
    refine WL.pure rfl rfl rfl rfl ?_
    refine WL.nil (WQ.dk (.inl rfl) ?_)
    refine WD.done (by kernel_rfl) ?_
    repeat (first | ((with_reducible refine WL.topT ?_ ?_); omega) | ((with_reducible refine WL.topF ?_ ?_); omega) | ((with_reducible refine WL.top64 ?_ ?_); omega) | refine WC.seq ?_ | refine WC.block ?_ | refine WC.region ?_ | refine WL.nil ?_ | refine WC.skip ?_ | refine WC.exit ?_ | refine WC.ret ?_ | refine WQ.then rfl ?_ | refine WQ.thenExit ?_ | refine WQ.thenRet ?_ | refine WQ.blk ?_ | refine WQ.blkRet ?_ | refine WQ.blkHere rfl ?_ | refine WQ.blkOther rfl ?_ | refine WL.pure rfl rfl rfl rfl ?_ | refine WL.on rfl rfl ?_ | refine WL.off rfl rfl rfl ?_ | refine WC.condTrue rfl ?_ | refine WC.condFalse rfl ?_)
    have hsm := hks s (by rw [hke]; simp)
    refine WQ.again ⟨A ++ kl0.flatMap (lvs d), d, s, kr.flatMap (lvs d) ++ B⟩ ⟨rfl, rfl, rfl, trivial⟩ ⟨hb2, ?_, ?_, ?_, ?_, hr.2 s (by show List.Mem s ks; rw [hke]; exact (List.mem_append.2 (.inr (List.mem_cons_self ..)) : s ∈ kl0 ++ s :: kr)), hsm.2, .inr (by show 2 ≤ cnt d s; omega)⟩ (by show d < d + 1; omega)
    · have e : A ++ lvs (d + 1) (b, ks) ++ B = A ++ kl0.flatMap (lvs d) ++ lvs d s ++ (kr.flatMap (lvs d) ++ B) := by
        show A ++ List.flatMap (lvs d) ks ++ B = _
        rw [hke, List.flatMap_append, List.flatMap_cons]
        simp only [List.append_assoc]
      rw [e] at hln
      exact hln
    · show l = (A ++ kl0.flatMap (lvs d)).flatMap Prod.snd ++ (els d s ++ (kr.flatMap (lvs d) ++ B).flatMap Prod.snd)
      have e : els (d + 1) (b, ks) = kl0.flatMap (els d) ++ (els d s ++ kr.flatMap (els d)) := by
        show List.flatMap (els d) ks = _
        rw [hke, List.flatMap_append, List.flatMap_cons]
      rw [hel, e, List.flatMap_append, List.flatMap_append, els_flat, els_flat]
      simp only [List.append_assoc]
    · show Lo ((A ++ kl0.flatMap (lvs d)).flatMap Prod.snd) k
      rw [List.flatMap_append, els_flat]
      exact Lo.app.2 ⟨hlo, hlo2⟩
    · show Hi ((kr.flatMap (lvs d) ++ B).flatMap Prod.snd) k
      rw [List.flatMap_append, els_flat]
      exact Hi.app.2 ⟨hhi2, hhi⟩
set_option maxHeartbeats 2000000 in
theorem tget_any {w : World} {st : St} {tb : Nat} {l : List KV} (h : IsT w st tb l) (k : Ky) : Calls Try.prog 22 #[.pointer (some ⟨tb, 0, none⟩), .string k] w fun e w' => e = .returned (.tuple #[.int .i64 ((getL k l).getD 0), .bool (getL k l).isSome]) ∧ Below w.heap.size w w' := by
  refine enter (args := [.pointer (some ⟨tb, 0, none⟩), .string k]) Try.func22 rfl Try.ntmps22 rfl ?_
  have hsl : Srt l := by obtain ⟨-, -, _, _, -, hh⟩ := h; exact hh.srt
  repeat (first | ((with_reducible refine WL.topT ?_ ?_); omega) | ((with_reducible refine WL.topF ?_ ?_); omega) | ((with_reducible refine WL.top64 ?_ ?_); omega) | refine WC.seq ?_ | refine WC.block ?_ | refine WC.region ?_ | refine WL.nil ?_ | refine WC.skip ?_ | refine WC.exit ?_ | refine WC.ret ?_ | refine WQ.then rfl ?_ | refine WQ.thenExit ?_ | refine WQ.thenRet ?_ | refine WQ.blk ?_ | refine WQ.blkRet ?_ | refine WQ.blkHere rfl ?_ | refine WQ.blkOther rfl ?_ | refine WL.pure rfl rfl rfl rfl ?_ | refine WL.on rfl rfl ?_ | refine WL.off rfl rfl rfl ?_ | refine WC.condTrue rfl ?_ | refine WC.condFalse rfl ?_)
  refine WL.call rfl rfl rfl rfl rfl Try.func36 rfl (by kernel_rfl) (tleaf_any h k) ?_
  rintro _ w1 ⟨hb, ⟨rfl, rfl⟩ | ⟨A, b, es, B, rfl, hla⟩⟩
  · refine ⟨_, rfl, ?_⟩
    repeat (first | ((with_reducible refine WL.topT ?_ ?_); omega) | ((with_reducible refine WL.topF ?_ ?_); omega) | ((with_reducible refine WL.top64 ?_ ?_); omega) | refine WC.seq ?_ | refine WC.block ?_ | refine WC.region ?_ | refine WL.nil ?_ | refine WC.skip ?_ | refine WC.exit ?_ | refine WC.ret ?_ | refine WQ.then rfl ?_ | refine WQ.thenExit ?_ | refine WQ.thenRet ?_ | refine WQ.blk ?_ | refine WQ.blkRet ?_ | refine WQ.blkHere rfl ?_ | refine WQ.blkOther rfl ?_ | refine WL.pure rfl rfl rfl rfl ?_ | refine WL.on rfl rfl ?_ | refine WL.off rfl rfl rfl ?_ | refine WC.condTrue rfl ?_ | refine WC.condFalse rfl ?_)
    refine WL.nilP rfl rfl rfl rfl rfl rfl (by kernel_rfl) ?_
    repeat (first | ((with_reducible refine WL.topT ?_ ?_); omega) | ((with_reducible refine WL.topF ?_ ?_); omega) | ((with_reducible refine WL.top64 ?_ ?_); omega) | refine WC.seq ?_ | refine WC.block ?_ | refine WC.region ?_ | refine WL.nil ?_ | refine WC.skip ?_ | refine WC.exit ?_ | refine WC.ret ?_ | refine WQ.then rfl ?_ | refine WQ.thenExit ?_ | refine WQ.thenRet ?_ | refine WQ.blk ?_ | refine WQ.blkRet ?_ | refine WQ.blkHere rfl ?_ | refine WQ.blkOther rfl ?_ | refine WL.pure rfl rfl rfl rfl ?_ | refine WL.on rfl rfl ?_ | refine WL.off rfl rfl rfl ?_ | refine WC.condTrue rfl ?_ | refine WC.condFalse rfl ?_)
    exact WQ.ret2 rfl rfl rfl ⟨rfl, hb⟩
  · refine ⟨_, rfl, ?_⟩
    have hs1 : st b = some ⟨true, leafE es, Tre.hd B none⟩ := (Lnk.app.1 hla.lnk).2.1
    obtain ⟨hl8, pv, vb⟩ := (h.mem.below hb) _ _ hs1
    simp only [leaf_len] at hl8
    have hget : getL k l = getL k es := by rw [hla.el, getL_lo hla.lo, getL_hi hla.hi]
    have hes : Srt es := by
      have := hla.el ▸ hsl
      exact (srt_app.1 (srt_app.1 this).2.1).1
    have hpl := plc_le k (es.map Prod.fst)
    rw [List.length_map] at hpl
    have hat := getL_at (k := k) hes
    rw [hget]
    repeat (first | ((with_reducible refine WL.topT ?_ ?_); omega) | ((with_reducible refine WL.topF ?_ ?_); omega) | ((with_reducible refine WL.top64 ?_ ?_); omega) | refine WC.seq ?_ | refine WC.block ?_ | refine WC.region ?_ | refine WL.nil ?_ | refine WC.skip ?_ | refine WC.exit ?_ | refine WC.ret ?_ | refine WQ.then rfl ?_ | refine WQ.thenExit ?_ | refine WQ.thenRet ?_ | refine WQ.blk ?_ | refine WQ.blkRet ?_ | refine WQ.blkHere rfl ?_ | refine WQ.blkOther rfl ?_ | refine WL.pure rfl rfl rfl rfl ?_ | refine WL.on rfl rfl ?_ | refine WL.off rfl rfl rfl ?_ | refine WC.condTrue rfl ?_ | refine WC.condFalse rfl ?_)
    refine WL.nilP rfl rfl rfl rfl rfl rfl (by kernel_rfl) ?_
    repeat (first | ((with_reducible refine WL.topT ?_ ?_); omega) | ((with_reducible refine WL.topF ?_ ?_); omega) | ((with_reducible refine WL.top64 ?_ ?_); omega) | refine WC.seq ?_ | refine WC.block ?_ | refine WC.region ?_ | refine WL.nil ?_ | refine WC.skip ?_ | refine WC.exit ?_ | refine WC.ret ?_ | refine WQ.then rfl ?_ | refine WQ.thenExit ?_ | refine WQ.thenRet ?_ | refine WQ.blk ?_ | refine WQ.blkRet ?_ | refine WQ.blkHere rfl ?_ | refine WQ.blkOther rfl ?_ | refine WL.pure rfl rfl rfl rfl ?_ | refine WL.on rfl rfl ?_ | refine WL.off rfl rfl rfl ?_ | refine WC.condTrue rfl ?_ | refine WC.condFalse rfl ?_)
    refine WL.call rfl rfl rfl rfl rfl Try.func27 rfl (by kernel_rfl) (place_any (key := k) vb (by show (leafE es).length ≤ 8; rw [leaf_len]; omega)) ?_
    rintro _ w3 ⟨rfl, hw⟩
    subst hw
    refine ⟨_, rfl, ?_⟩
    simp only [keys_leaf]
    generalize plc k (es.map Prod.fst) = p at hpl hat ⊢
    have hcnt := cntR vb (leaf_len es)
    by_cases hpN : p < es.length
    · repeat (first | ((with_reducible refine WL.topT ?_ ?_); omega) | ((with_reducible refine WL.topF ?_ ?_); omega) | ((with_reducible refine WL.top64 ?_ ?_); omega) | refine WC.seq ?_ | refine WC.block ?_ | refine WC.region ?_ | refine WL.nil ?_ | refine WC.skip ?_ | refine WC.exit ?_ | refine WC.ret ?_ | refine WQ.then rfl ?_ | refine WQ.thenExit ?_ | refine WQ.thenRet ?_ | refine WQ.blk ?_ | refine WQ.blkRet ?_ | refine WQ.blkHere rfl ?_ | refine WQ.blkOther rfl ?_ | refine WL.pure rfl rfl rfl rfl ?_ | refine WL.on rfl rfl ?_ | refine WL.off rfl rfl rfl ?_ | refine WL.load rfl rfl rfl rfl rfl rfl (by assumption) ?_ | refine WC.condTrue rfl ?_ | refine WC.condFalse rfl ?_)
      refine WL.idxA p (2 + p) rfl rfl rfl rfl rfl rfl rfl rfl (by omega) (by omega) ?_
      refine WL.on rfl rfl ?_
      have hkp := keyR vb (i := p) (by omega)
      rw [leaf_getD es hpN] at hkp
      refine WL.load rfl rfl rfl rfl rfl rfl hkp ?_
      by_cases hk : es[p].1 = k
      · have hsome : (es.map Prod.fst)[p]? = some k := by simp [hpN, hk]
        rw [if_pos hsome, List.getElem?_eq_getElem hpN] at hat
        have hnp := numR vb (i := p) (by omega)
        rw [leaf_getD es hpN] at hnp
        simp only at hnp
        repeat (first | ((with_reducible refine WL.topT ?_ ?_); omega) | ((with_reducible refine WL.topF ?_ ?_); omega) | ((with_reducible refine WL.top64 ?_ ?_); omega) | refine WC.seq ?_ | refine WC.block ?_ | refine WC.region ?_ | refine WL.nil ?_ | refine WC.skip ?_ | refine WC.exit ?_ | refine WC.ret ?_ | refine WQ.then rfl ?_ | refine WQ.thenExit ?_ | refine WQ.thenRet ?_ | refine WQ.blk ?_ | refine WQ.blkRet ?_ | refine WQ.blkHere rfl ?_ | refine WQ.blkOther rfl ?_ | refine WL.pure rfl rfl rfl rfl ?_ | refine WL.on rfl rfl ?_ | refine WL.off rfl rfl rfl ?_ | refine WC.condTrue rfl ?_ | refine WC.condFalse rfl ?_)
        refine WC.as 31 (.bool true) rfl (by rw [hk]; exact congrArg Value.bool (beq_self_eq_true _)) ?_
        repeat (first | ((with_reducible refine WL.topT ?_ ?_); omega) | ((with_reducible refine WL.topF ?_ ?_); omega) | ((with_reducible refine WL.top64 ?_ ?_); omega) | refine WC.seq ?_ | refine WC.block ?_ | refine WC.region ?_ | refine WL.nil ?_ | refine WC.skip ?_ | refine WC.exit ?_ | refine WC.ret ?_ | refine WQ.then rfl ?_ | refine WQ.thenExit ?_ | refine WQ.thenRet ?_ | refine WQ.blk ?_ | refine WQ.blkRet ?_ | refine WQ.blkHere rfl ?_ | refine WQ.blkOther rfl ?_ | refine WL.pure rfl rfl rfl rfl ?_ | refine WL.on rfl rfl ?_ | refine WL.off rfl rfl rfl ?_ | refine WC.condTrue rfl ?_ | refine WC.condFalse rfl ?_)
        refine WL.idxA p (10 + p) rfl rfl rfl rfl rfl rfl rfl rfl (by omega) (by omega) ?_
        refine WL.load rfl rfl rfl rfl rfl rfl hnp ?_
        repeat (first | ((with_reducible refine WL.topT ?_ ?_); omega) | ((with_reducible refine WL.topF ?_ ?_); omega) | ((with_reducible refine WL.top64 ?_ ?_); omega) | refine WC.seq ?_ | refine WC.block ?_ | refine WC.region ?_ | refine WL.nil ?_ | refine WC.skip ?_ | refine WC.exit ?_ | refine WC.ret ?_ | refine WQ.then rfl ?_ | refine WQ.thenExit ?_ | refine WQ.thenRet ?_ | refine WQ.blk ?_ | refine WQ.blkRet ?_ | refine WQ.blkHere rfl ?_ | refine WQ.blkOther rfl ?_ | refine WL.pure rfl rfl rfl rfl ?_ | refine WL.on rfl rfl ?_ | refine WL.off rfl rfl rfl ?_ | refine WC.condTrue rfl ?_ | refine WC.condFalse rfl ?_)
        exact WQ.ret2 rfl rfl rfl ⟨by rw [hat]; rfl, hb⟩
      · have hsome : ¬ (es.map Prod.fst)[p]? = some k := by simp [hpN, hk]
        rw [if_neg hsome] at hat
        repeat (first | ((with_reducible refine WL.topT ?_ ?_); omega) | ((with_reducible refine WL.topF ?_ ?_); omega) | ((with_reducible refine WL.top64 ?_ ?_); omega) | refine WC.seq ?_ | refine WC.block ?_ | refine WC.region ?_ | refine WL.nil ?_ | refine WC.skip ?_ | refine WC.exit ?_ | refine WC.ret ?_ | refine WQ.then rfl ?_ | refine WQ.thenExit ?_ | refine WQ.thenRet ?_ | refine WQ.blk ?_ | refine WQ.blkRet ?_ | refine WQ.blkHere rfl ?_ | refine WQ.blkOther rfl ?_ | refine WL.pure rfl rfl rfl rfl ?_ | refine WL.on rfl rfl ?_ | refine WL.off rfl rfl rfl ?_ | refine WC.condTrue rfl ?_ | refine WC.condFalse rfl ?_)
        refine WC.as 31 (.bool false) rfl (congrArg Value.bool (beq_eq_false_iff_ne.2 fun e => hk (ky_eq e))) ?_
        repeat (first | ((with_reducible refine WL.topT ?_ ?_); omega) | ((with_reducible refine WL.topF ?_ ?_); omega) | ((with_reducible refine WL.top64 ?_ ?_); omega) | refine WC.seq ?_ | refine WC.block ?_ | refine WC.region ?_ | refine WL.nil ?_ | refine WC.skip ?_ | refine WC.exit ?_ | refine WC.ret ?_ | refine WQ.then rfl ?_ | refine WQ.thenExit ?_ | refine WQ.thenRet ?_ | refine WQ.blk ?_ | refine WQ.blkRet ?_ | refine WQ.blkHere rfl ?_ | refine WQ.blkOther rfl ?_ | refine WL.pure rfl rfl rfl rfl ?_ | refine WL.on rfl rfl ?_ | refine WL.off rfl rfl rfl ?_ | refine WC.condTrue rfl ?_ | refine WC.condFalse rfl ?_)
        exact WQ.ret2 rfl rfl rfl ⟨by rw [hat]; rfl, hb⟩
    · have hsome : ¬ (es.map Prod.fst)[p]? = some k := by rw [List.getElem?_eq_none (by simp; omega)]; simp
      rw [if_neg hsome] at hat
      repeat (first | ((with_reducible refine WL.topT ?_ ?_); omega) | ((with_reducible refine WL.topF ?_ ?_); omega) | ((with_reducible refine WL.top64 ?_ ?_); omega) | refine WC.seq ?_ | refine WC.block ?_ | refine WC.region ?_ | refine WL.nil ?_ | refine WC.skip ?_ | refine WC.exit ?_ | refine WC.ret ?_ | refine WQ.then rfl ?_ | refine WQ.thenExit ?_ | refine WQ.thenRet ?_ | refine WQ.blk ?_ | refine WQ.blkRet ?_ | refine WQ.blkHere rfl ?_ | refine WQ.blkOther rfl ?_ | refine WL.pure rfl rfl rfl rfl ?_ | refine WL.on rfl rfl ?_ | refine WL.off rfl rfl rfl ?_ | refine WL.load rfl rfl rfl rfl rfl rfl (by assumption) ?_ | refine WC.condTrue rfl ?_ | refine WC.condFalse rfl ?_)
      exact WQ.ret2 rfl rfl rfl ⟨by rw [hat]; rfl, hb⟩
end K
end Go.Proofs.Ytilmfnlaenneeaa

/- Trees (chapter 13): all. -/
namespace Go.Proofs.Ytilmfnlaenneeaa
open Go.RowKit
namespace K
open Tre
abbrev pairT : Nat := 67
def noKV : KV := (ByteArray.empty, 0)
def Pp (x : KV) (cs : List Value) : Prop := cs = [.string x.1, .int .i64 x.2]
theorem elemPair : ElemV Try.prog 64 pairT 2 24 := ElemV.mk' (z := .agg #[.string ByteArray.empty, .int .i64 0]) Try.underlying64 (by kernel_rfl) rfl (by omega)
def isE (t : Ky) : Bool := t.toList == (⟨#[]⟩ : ByteArray).toList
/-- Is it in the range? -/
def inR (f t : Ky) (e : KV) : Bool := !kl e.1 f && (isE t || kl e.1 t)
def flt (f t : Ky) (l : List KV) : List KV := l.filter (inR f t)
theorem flt_lo {f t : Ky} {l : List KV} (h : Lo l f) : flt f t l = [] := by
  unfold flt
  rw [List.filter_eq_nil_iff]
  intro e he
  unfold inR
  rw [h e he]
  simp
theorem flt_stop {f t : Ky} {P R : List KV} {e : KV} (hs : Srt (P ++ e :: R)) (ht : isE t = false) (he : kl e.1 t = false) : flt f t (P ++ e :: R) = flt f t P := by
  unfold flt
  rw [List.filter_append]
  have h2 := (srt_app.1 hs).2.1
  have : (e :: R).filter (inR f t) = [] := by
    rw [List.filter_eq_nil_iff]
    intro x hx
    have hx' : kl x.1 t = false := by
      rcases List.mem_cons.1 hx with rfl | hx
      · exact he
      · have := (List.pairwise_cons.1 h2).1 x hx
        exact kl_le_le he (kl_asymm this)
    unfold inR
    rw [ht, hx']
    simp
  rw [this, List.append_nil]
theorem flt_snoc {f t : Ky} {P : List KV} {e : KV} : flt f t (P ++ [e]) = if inR f t e then flt f t P ++ [e] else flt f t P := by
  unfold flt
  rw [List.filter_append]
  cases h : inR f t e <;> simp [h]
theorem flt_len (f t : Ky) (l : List KV) : (flt f t l).length ≤ l.length := List.length_filter_le ..
structure AX where
  pre : List KV
  rem : List (Nat × List KV)
  v : Value
theorem built_pair (s : ByteArray) (n : Int) : Try.prog.built pairT [(0, .string s), (1, .int .i64 n)] = some #[.string s, .int .i64 n] := by kernel_rfl
set_option maxRecDepth 20000 in
set_option maxHeartbeats 8000000 in
theorem tall_any {w : World} {st : St} {tb : Nat} {l : List KV} (h : IsT w st tb l) (f t : Ky) (hl : l.length < 1000000000) : Calls Try.prog 29 #[.pointer (some ⟨tb, 0, none⟩), .string f, .string t] w fun e w' => Below w.heap.size w w' ∧ ∃ v, e = .returned v ∧ OwnE pairT 2 noKV Pp (fun b => w.heap.size ≤ b) w' v (flt f t l) := by
  refine enter (args := [.pointer (some ⟨tb, 0, none⟩), .string f, .string t]) Try.func29 rfl Try.ntmps29 rfl ?_
  have hsl : Srt l := by obtain ⟨-, -, _, _, -, hh⟩ := h; exact hh.srt
  repeat (first | ((with_reducible refine WL.topT ?_ ?_); omega) | ((with_reducible refine WL.topF ?_ ?_); omega) | ((with_reducible refine WL.top64 ?_ ?_); omega) | refine WC.seq ?_ | refine WC.block ?_ | refine WC.region ?_ | refine WL.nil ?_ | refine WC.skip ?_ | refine WC.exit ?_ | refine WC.ret ?_ | refine WQ.then rfl ?_ | refine WQ.thenExit ?_ | refine WQ.thenRet ?_ | refine WQ.blk ?_ | refine WQ.blkRet ?_ | refine WQ.blkHere rfl ?_ | refine WQ.blkOther rfl ?_ | refine WL.pure rfl rfl rfl rfl ?_ | refine WL.on rfl rfl ?_ | refine WL.off rfl rfl rfl ?_ | refine WC.condTrue rfl ?_ | refine WC.condFalse rfl ?_)
  refine WL.call rfl rfl rfl rfl rfl Try.func36 rfl (by kernel_rfl) (tleaf_any h f) ?_
  rintro e1 w1 ⟨hb1, hle⟩
  obtain ⟨pre0, rem0, he0, hl0, hln0, hlo0⟩ : ∃ pre0 rem0, e1 = .returned (ptrV (Tre.hd rem0 none)) ∧ l = pre0 ++ rem0.flatMap Prod.snd ∧ Lnk st rem0 none ∧ Lo pre0 f := by
    rcases hle with ⟨rfl, rfl⟩ | ⟨A, b, es, B, rfl, hla⟩
    · exact ⟨[], [], rfl, rfl, trivial, Lo.nil⟩
    · exact ⟨A.flatMap Prod.snd, (b, es) :: B, rfl, hla.el, (Lnk.app.1 hla.lnk).2, hla.lo⟩
  subst he0
  refine ⟨_, rfl, ?_⟩
  have hm1 := h.mem.below hb1
  repeat (first | ((with_reducible refine WL.topT ?_ ?_); omega) | ((with_reducible refine WL.topF ?_ ?_); omega) | ((with_reducible refine WL.top64 ?_ ?_); omega) | refine WC.seq ?_ | refine WC.block ?_ | refine WC.region ?_ | refine WL.nil ?_ | refine WC.skip ?_ | refine WC.exit ?_ | refine WC.ret ?_ | refine WQ.then rfl ?_ | refine WQ.thenExit ?_ | refine WQ.thenRet ?_ | refine WQ.blk ?_ | refine WQ.blkRet ?_ | refine WQ.blkHere rfl ?_ | refine WQ.blkOther rfl ?_ | refine WL.pure rfl rfl rfl rfl ?_ | refine WL.on rfl rfl ?_ | refine WL.off rfl rfl rfl ?_ | refine WC.condTrue rfl ?_ | refine WC.condFalse rfl ?_)
  refine WC.loop (fun x : AX => [(0, .pointer (some ⟨tb, 0, none⟩)), (1, .string f), (2, .string t), (7, x.v), (8, ptrV (Tre.hd x.rem none))])
    (fun x w' => Below w.heap.size w w' ∧ l = x.pre ++ x.rem.flatMap Prod.snd ∧ Lnk st x.rem none ∧ OwnE pairT 2 noKV Pp (fun b => w.heap.size ≤ b) w' x.v (flt f t x.pre)) (fun x => x.rem.length) ⟨pre0, rem0, .slice none 0 0⟩ ⟨rfl, rfl, rfl, rfl, rfl, trivial⟩
    ⟨hb1, hl0, hln0, by rw [flt_lo hlo0]; exact OwnE.nil _ _ _ _ _ _⟩ ?_
  rintro ⟨pre, rem, v⟩ wr ⟨hb, hel, hln, hown⟩
  simp only at hel hln hown
  cases rem with
  | nil =>
    change WC _ _ _ [(0, .pointer (some ⟨tb, 0, none⟩)), (1, .string f), (2, .string t), (7, v), (8, .pointer none)] wr
    have hel' : l = pre := by simpa using hel
    repeat (first | ((with_reducible refine WL.topT ?_ ?_); omega) | ((with_reducible refine WL.topF ?_ ?_); omega) | ((with_reducible refine WL.top64 ?_ ?_); omega) | refine WC.seq ?_ | refine WC.block ?_ | refine WC.region ?_ | refine WL.nil ?_ | refine WC.skip ?_ | refine WC.exit ?_ | refine WC.ret ?_ | refine WQ.then rfl ?_ | refine WQ.thenExit ?_ | refine WQ.thenRet ?_ | refine WQ.blk ?_ | refine WQ.blkRet ?_ | refine WQ.blkHere rfl ?_ | refine WQ.blkOther rfl ?_ | refine WL.pure rfl rfl rfl rfl ?_ | refine WL.on rfl rfl ?_ | refine WL.off rfl rfl rfl ?_ | refine WC.condTrue rfl ?_ | refine WC.condFalse rfl ?_)
    refine WL.notNilP rfl rfl rfl rfl rfl rfl (by kernel_rfl) ?_
    repeat (first | ((with_reducible refine WL.topT ?_ ?_); omega) | ((with_reducible refine WL.topF ?_ ?_); omega) | ((with_reducible refine WL.top64 ?_ ?_); omega) | refine WC.seq ?_ | refine WC.block ?_ | refine WC.region ?_ | refine WL.nil ?_ | refine WC.skip ?_ | refine WC.exit ?_ | refine WC.ret ?_ | refine WQ.then rfl ?_ | refine WQ.thenExit ?_ | refine WQ.thenRet ?_ | refine WQ.blk ?_ | refine WQ.blkRet ?_ | refine WQ.blkHere rfl ?_ | refine WQ.blkOther rfl ?_ | refine WL.pure rfl rfl rfl rfl ?_ | refine WL.on rfl rfl ?_ | refine WL.off rfl rfl rfl ?_ | refine WC.condTrue rfl ?_ | refine WC.condFalse rfl ?_)
    exact WQ.ret1 rfl rfl ⟨hb, v, rfl, by rw [hel']; exact hown⟩
  | cons x rem =>
    obtain ⟨b, es⟩ := x
    change WC _ _ _ [(0, .pointer (some ⟨tb, 0, none⟩)), (1, .string f), (2, .string t), (7, v), (8, .pointer (some ⟨b, 0, none⟩))] wr
    have hs1 : st b = some ⟨true, leafE es, Tre.hd rem none⟩ := hln.1
    obtain ⟨hl8, pv, vb⟩ := (h.mem.below hb) _ _ hs1
    simp only [leaf_len] at hl8
    have hcnt := cntR vb (leaf_len es)
    have hel' : l = pre ++ es ++ rem.flatMap Prod.snd := by rw [hel, List.flatMap_cons, List.append_assoc]
    have hlen : pre.length + es.length ≤ l.length := by rw [hel']; simp only [List.length_append]; omega
    repeat (first | ((with_reducible refine WL.topT ?_ ?_); omega) | ((with_reducible refine WL.topF ?_ ?_); omega) | ((with_reducible refine WL.top64 ?_ ?_); omega) | refine WC.seq ?_ | refine WC.block ?_ | refine WC.region ?_ | refine WL.nil ?_ | refine WC.skip ?_ | refine WC.exit ?_ | refine WC.ret ?_ | refine WQ.then rfl ?_ | refine WQ.thenExit ?_ | refine WQ.thenRet ?_ | refine WQ.blk ?_ | refine WQ.blkRet ?_ | refine WQ.blkHere rfl ?_ | refine WQ.blkOther rfl ?_ | refine WL.pure rfl rfl rfl rfl ?_ | refine WL.on rfl rfl ?_ | refine WL.off rfl rfl rfl ?_ | refine WC.condTrue rfl ?_ | refine WC.condFalse rfl ?_)
    refine WL.notNilP rfl rfl rfl rfl rfl rfl (by kernel_rfl) ?_
    repeat (first | ((with_reducible refine WL.topT ?_ ?_); omega) | ((with_reducible refine WL.topF ?_ ?_); omega) | ((with_reducible refine WL.top64 ?_ ?_); omega) | refine WC.seq ?_ | refine WC.region ?_ | refine WL.nil ?_ | refine WC.skip ?_ | refine WC.exit ?_ | refine WC.ret ?_ | refine WQ.then rfl ?_ | refine WQ.thenExit ?_ | refine WQ.thenRet ?_ | refine WQ.blk ?_ | refine WQ.blkRet ?_ | refine WQ.blkHere rfl ?_ | refine WQ.blkOther rfl ?_ | refine WL.pure rfl rfl rfl rfl ?_ | refine WL.on rfl rfl ?_ | refine WL.off rfl rfl rfl ?_ | refine WL.load rfl rfl rfl rfl rfl rfl (by assumption) ?_ | refine WC.condTrue rfl ?_ | refine WC.condFalse rfl ?_)
    refine WC.block ?_
    repeat (first | ((with_reducible refine WL.topT ?_ ?_); omega) | ((with_reducible refine WL.topF ?_ ?_); omega) | ((with_reducible refine WL.top64 ?_ ?_); omega) | refine WC.seq ?_ | refine WC.region ?_ | refine WL.nil ?_ | refine WC.skip ?_ | refine WC.exit ?_ | refine WC.ret ?_ | refine WQ.then rfl ?_ | refine WQ.thenExit ?_ | refine WQ.thenRet ?_ | refine WQ.blk ?_ | refine WQ.blkRet ?_ | refine WQ.blkHere rfl ?_ | refine WQ.blkOther rfl ?_ | refine WL.pure rfl rfl rfl rfl ?_ | refine WL.on rfl rfl ?_ | refine WL.off rfl rfl rfl ?_ | refine WL.load rfl rfl rfl rfl rfl rfl (by assumption) ?_ | refine WC.condTrue rfl ?_ | refine WC.condFalse rfl ?_)
    refine WC.block ?_
    refine WC.loop (fun x : Nat × Value => [(0, .pointer (some ⟨tb, 0, none⟩)), (1, .string f), (2, .string t), (7, x.2), (8, .pointer (some ⟨b, 0, none⟩)), (22, .int .i64 es.length), (23, .int .i64 x.1)])
      (fun x w' => Below w.heap.size w w' ∧ x.1 ≤ es.length ∧ VBlk nodeT w' b (rowOf (ndF ⟨true, leafE es, Tre.hd rem none⟩ pv)) ∧ OwnE pairT 2 noKV Pp (fun b => w.heap.size ≤ b) w' x.2 (flt f t (pre ++ es.take x.1))) (fun x => es.length - x.1) (0, v) ⟨rfl, rfl, rfl, rfl, rfl, rfl, rfl, trivial⟩
      ⟨hb, Nat.zero_le _, vb, by simpa using hown⟩ ?_
    clear hb vb hcnt hown hb1 hle hl0 hln0 hlo0 hm1
    rintro ⟨i, u⟩ wq ⟨hb, hi, vb, hown⟩
    simp only at hi hown
    have hbw : b < w.heap.size := h.mem.lt (by rw [hs1]; simp)
    by_cases hlt : i < es.length
    · have hky := keyR vb (i := i) (by omega)
      rw [leaf_getD es hlt] at hky
      have hnm := numR vb (i := i) (by omega)
      rw [leaf_getD es hlt] at hnm
      simp only at hky hnm
      have htk : es.take (i + 1) = es.take i ++ [es[i]] := by rw [List.take_add_one, List.getElem?_eq_getElem hlt]; rfl
      have hsplit : l = (pre ++ es.take i) ++ es[i] :: (es.drop (i + 1) ++ rem.flatMap Prod.snd) := by
        rw [hel']
        conv => lhs; rw [← List.take_append_drop i es, List.drop_eq_getElem_cons hlt]
        simp only [List.append_assoc, List.cons_append]
      generalize es[i] = E at hky hnm htk hsplit
      repeat (first | ((with_reducible refine WL.topT ?_ ?_); omega) | ((with_reducible refine WL.topF ?_ ?_); omega) | ((with_reducible refine WL.top64 ?_ ?_); omega) | refine WC.seq ?_ | refine WC.region ?_ | refine WL.nil ?_ | refine WC.skip ?_ | refine WC.exit ?_ | refine WC.ret ?_ | refine WQ.then rfl ?_ | refine WQ.thenExit ?_ | refine WQ.thenRet ?_ | refine WQ.blk ?_ | refine WQ.blkRet ?_ | refine WQ.blkHere rfl ?_ | refine WQ.blkOther rfl ?_ | refine WL.pure rfl rfl rfl rfl ?_ | refine WL.on rfl rfl ?_ | refine WL.off rfl rfl rfl ?_ | refine WL.load rfl rfl rfl rfl rfl rfl (by assumption) ?_ | refine WC.condTrue rfl ?_ | refine WC.condFalse rfl ?_)
      refine WC.block ?_
      refine WC.seq ?_
      refine WC.region ?_
      refine WL.pure rfl rfl rfl rfl ?_
      refine WL.pure rfl rfl rfl rfl ?_
      refine WL.nil ?_
      refine WQ.then rfl ?_
      refine WC.seq ?_
      refine WC.mid (fun _ : Unit => [(0, .pointer (some ⟨tb, 0, none⟩)), (1, .string f), (2, .string t), (7, u), (8, .pointer (some ⟨b, 0, none⟩)), (9, .int .i64 i), (22, .int .i64 es.length), (23, .int .i64 i)])
        (fun _ w' => w' = wq ∧ (isE t || kl E.1 t) = true) rfl ?_ ?_
      · repeat (first | ((with_reducible refine WL.topT ?_ ?_); omega) | ((with_reducible refine WL.topF ?_ ?_); omega) | ((with_reducible refine WL.top64 ?_ ?_); omega) | refine WC.seq ?_ | refine WC.block ?_ | refine WC.region ?_ | refine WL.nil ?_ | refine WC.skip ?_ | refine WC.exit ?_ | refine WC.ret ?_ | refine WQ.then rfl ?_ | refine WQ.thenExit ?_ | refine WQ.thenRet ?_ | refine WQ.blk ?_ | refine WQ.blkRet ?_ | refine WQ.blkHere rfl ?_ | refine WQ.blkOther rfl ?_ | refine WL.pure rfl rfl rfl rfl ?_ | refine WL.on rfl rfl ?_ | refine WL.off rfl rfl rfl ?_ | refine WC.condTrue rfl ?_ | refine WC.condFalse rfl ?_)
        cases htz : (t.toList == (⟨#[]⟩ : ByteArray).toList) with
        | true =>
          have hin : (isE t || kl E.1 t) = true := by unfold isE; rw [htz]; rfl
          repeat (first | ((with_reducible refine WL.topT ?_ ?_); omega) | ((with_reducible refine WL.topF ?_ ?_); omega) | ((with_reducible refine WL.top64 ?_ ?_); omega) | refine WC.seq ?_ | refine WC.block ?_ | refine WC.region ?_ | refine WL.nil ?_ | refine WC.skip ?_ | refine WC.exit ?_ | refine WC.ret ?_ | refine WQ.then rfl ?_ | refine WQ.thenExit ?_ | refine WQ.thenRet ?_ | refine WQ.blk ?_ | refine WQ.blkRet ?_ | refine WQ.blkHere rfl ?_ | refine WQ.blkOther rfl ?_ | refine WL.pure rfl rfl rfl rfl ?_ | refine WL.on rfl rfl ?_ | refine WL.off rfl rfl rfl ?_ | refine WC.condTrue rfl ?_ | refine WC.condFalse rfl ?_)
          exact WQ.meet () ⟨rfl, rfl, rfl, rfl, rfl, rfl, rfl, rfl, trivial⟩ ⟨rfl, hin⟩
        | false =>
          repeat (first | ((with_reducible refine WL.topT ?_ ?_); omega) | ((with_reducible refine WL.topF ?_ ?_); omega) | ((with_reducible refine WL.top64 ?_ ?_); omega) | refine WC.seq ?_ | refine WC.block ?_ | refine WC.region ?_ | refine WL.nil ?_ | refine WC.skip ?_ | refine WC.exit ?_ | refine WC.ret ?_ | refine WQ.then rfl ?_ | refine WQ.thenExit ?_ | refine WQ.thenRet ?_ | refine WQ.blk ?_ | refine WQ.blkRet ?_ | refine WQ.blkHere rfl ?_ | refine WQ.blkOther rfl ?_ | refine WL.pure rfl rfl rfl rfl ?_ | refine WL.on rfl rfl ?_ | refine WL.off rfl rfl rfl ?_ | refine WC.condTrue rfl ?_ | refine WC.condFalse rfl ?_)
          refine WL.idxA i (2 + i) rfl rfl rfl rfl rfl rfl rfl rfl (by omega) (by omega) ?_
          refine WL.on rfl rfl ?_
          refine WL.load rfl rfl rfl rfl rfl rfl hky ?_
          repeat (first | ((with_reducible refine WL.topT ?_ ?_); omega) | ((with_reducible refine WL.topF ?_ ?_); omega) | ((with_reducible refine WL.top64 ?_ ?_); omega) | refine WC.seq ?_ | refine WC.block ?_ | refine WC.region ?_ | refine WL.nil ?_ | refine WC.skip ?_ | refine WC.exit ?_ | refine WC.ret ?_ | refine WQ.then rfl ?_ | refine WQ.thenExit ?_ | refine WQ.thenRet ?_ | refine WQ.blk ?_ | refine WQ.blkRet ?_ | refine WQ.blkHere rfl ?_ | refine WQ.blkOther rfl ?_ | refine WL.pure rfl rfl rfl rfl ?_ | refine WL.on rfl rfl ?_ | refine WL.off rfl rfl rfl ?_ | refine WC.condTrue rfl ?_ | refine WC.condFalse rfl ?_)
          cases hkt : Op.bytesLess E.1.toList t.toList with
          | true =>
            have hin : (isE t || kl E.1 t) = true := by unfold kl; rw [hkt, Bool.or_true]
            repeat (first | ((with_reducible refine WL.topT ?_ ?_); omega) | ((with_reducible refine WL.topF ?_ ?_); omega) | ((with_reducible refine WL.top64 ?_ ?_); omega) | refine WC.seq ?_ | refine WC.block ?_ | refine WC.region ?_ | refine WL.nil ?_ | refine WC.skip ?_ | refine WC.exit ?_ | refine WC.ret ?_ | refine WQ.then rfl ?_ | refine WQ.thenExit ?_ | refine WQ.thenRet ?_ | refine WQ.blk ?_ | refine WQ.blkRet ?_ | refine WQ.blkHere rfl ?_ | refine WQ.blkOther rfl ?_ | refine WL.pure rfl rfl rfl rfl ?_ | refine WL.on rfl rfl ?_ | refine WL.off rfl rfl rfl ?_ | refine WC.condTrue rfl ?_ | refine WC.condFalse rfl ?_)
            exact WQ.meet () ⟨rfl, rfl, rfl, rfl, rfl, rfl, rfl, rfl, trivial⟩ ⟨rfl, hin⟩
          | false =>
            repeat (first | ((with_reducible refine WL.topT ?_ ?_); omega) | ((with_reducible refine WL.topF ?_ ?_); omega) | ((with_reducible refine WL.top64 ?_ ?_); omega) | refine WC.seq ?_ | refine WC.block ?_ | refine WC.region ?_ | refine WL.nil ?_ | refine WC.skip ?_ | refine WC.exit ?_ | refine WC.ret ?_ | refine WQ.then rfl ?_ | refine WQ.thenExit ?_ | refine WQ.thenRet ?_ | refine WQ.blk ?_ | refine WQ.blkRet ?_ | refine WQ.blkHere rfl ?_ | refine WQ.blkOther rfl ?_ | refine WL.pure rfl rfl rfl rfl ?_ | refine WL.on rfl rfl ?_ | refine WL.off rfl rfl rfl ?_ | refine WC.condTrue rfl ?_ | refine WC.condFalse rfl ?_)
            refine WQ.ret1 rfl rfl ⟨hb, u, rfl, ?_⟩
            have : flt f t l = flt f t (pre ++ es.take i) := by
              rw [hsplit]
              exact flt_stop (by rw [← hsplit]; exact hsl) htz hkt
            rw [this]
            exact hown
      rintro ⟨⟩ wz ⟨hwz, hin⟩
      subst hwz
      repeat (first | ((with_reducible refine WL.topT ?_ ?_); omega) | ((with_reducible refine WL.topF ?_ ?_); omega) | ((with_reducible refine WL.top64 ?_ ?_); omega) | refine WC.seq ?_ | refine WC.block ?_ | refine WC.region ?_ | refine WL.nil ?_ | refine WC.skip ?_ | refine WC.exit ?_ | refine WC.ret ?_ | refine WQ.then rfl ?_ | refine WQ.thenExit ?_ | refine WQ.thenRet ?_ | refine WQ.blk ?_ | refine WQ.blkRet ?_ | refine WQ.blkHere rfl ?_ | refine WQ.blkOther rfl ?_ | refine WL.pure rfl rfl rfl rfl ?_ | refine WL.on rfl rfl ?_ | refine WL.off rfl rfl rfl ?_ | refine WC.condTrue rfl ?_ | refine WC.condFalse rfl ?_)
      refine WL.idxA i (2 + i) rfl rfl rfl rfl rfl rfl rfl rfl (by omega) (by omega) ?_
      refine WL.load rfl rfl rfl rfl rfl rfl hky ?_
      repeat (first | ((with_reducible refine WL.topT ?_ ?_); omega) | ((with_reducible refine WL.topF ?_ ?_); omega) | ((with_reducible refine WL.top64 ?_ ?_); omega) | refine WC.seq ?_ | refine WC.block ?_ | refine WC.region ?_ | refine WL.nil ?_ | refine WC.skip ?_ | refine WC.exit ?_ | refine WC.ret ?_ | refine WQ.then rfl ?_ | refine WQ.thenExit ?_ | refine WQ.thenRet ?_ | refine WQ.blk ?_ | refine WQ.blkRet ?_ | refine WQ.blkHere rfl ?_ | refine WQ.blkOther rfl ?_ | refine WL.pure rfl rfl rfl rfl ?_ | refine WL.on rfl rfl ?_ | refine WL.off rfl rfl rfl ?_ | refine WC.condTrue rfl ?_ | refine WC.condFalse rfl ?_)
      cases hkf : Op.bytesLess E.1.toList f.toList with
      | true =>
        repeat (first | ((with_reducible refine WL.topT ?_ ?_); omega) | ((with_reducible refine WL.topF ?_ ?_); omega) | ((with_reducible refine WL.top64 ?_ ?_); omega) | refine WC.seq ?_ | refine WC.block ?_ | refine WC.region ?_ | refine WL.nil ?_ | refine WC.skip ?_ | refine WC.exit ?_ | refine WC.ret ?_ | refine WQ.then rfl ?_ | refine WQ.thenExit ?_ | refine WQ.thenRet ?_ | refine WQ.blk ?_ | refine WQ.blkRet ?_ | refine WQ.blkHere rfl ?_ | refine WQ.blkOther rfl ?_ | refine WL.pure rfl rfl rfl rfl ?_ | refine WL.on rfl rfl ?_ | refine WL.off rfl rfl rfl ?_ | refine WC.condTrue rfl ?_ | refine WC.condFalse rfl ?_)
        refine WQ.again (i + 1, u) ⟨rfl, rfl, rfl, rfl, rfl, rfl, rfl, trivial⟩ ⟨hb, hlt, vb, ?_⟩ (by show es.length - (i + 1) < es.length - i; omega)
        show OwnE pairT 2 noKV Pp (fun b => w.heap.size ≤ b) wz u (flt f t (pre ++ es.take (i + 1)))
        rw [htk, ← List.append_assoc, flt_snoc, if_neg (by unfold inR kl; rw [hkf]; simp)]
        exact hown
      | false =>
        have hacc := flt_len f t (pre ++ es.take i)
        have hpl : (pre ++ es.take i).length ≤ l.length := by rw [hsplit]; simp only [List.length_append]; omega
        repeat (first | ((with_reducible refine WL.topT ?_ ?_); omega) | ((with_reducible refine WL.topF ?_ ?_); omega) | ((with_reducible refine WL.top64 ?_ ?_); omega) | refine WC.seq ?_ | refine WC.block ?_ | refine WC.region ?_ | refine WL.nil ?_ | refine WC.skip ?_ | refine WC.exit ?_ | refine WC.ret ?_ | refine WQ.then rfl ?_ | refine WQ.thenExit ?_ | refine WQ.thenRet ?_ | refine WQ.blk ?_ | refine WQ.blkRet ?_ | refine WQ.blkHere rfl ?_ | refine WQ.blkOther rfl ?_ | refine WL.pure rfl rfl rfl rfl ?_ | refine WL.on rfl rfl ?_ | refine WL.off rfl rfl rfl ?_ | refine WC.condTrue rfl ?_ | refine WC.condFalse rfl ?_)
        refine WC.drawn 13 (fun wx => wx.heap = wz.heap) fun w2 hd => ?_
        have hS : w2.heap = wz.heap := hd.heap
        have hb2 : Below w.heap.size w w2 := hb.trans (hd.below _)
        have vb2 := vb.below (hd.below _) vb.lt
        have how2 := hown.keep (P' := Pp) (O' := fun b => w.heap.size ≤ b) (Keep.ofDrew hd (fun _ => True)) (fun _ _ => trivial) (fun _ h => h) fun _ _ h => h
        clear hd
        (((first | refine WD.free 0 rfl (by kernel_rfl) rfl rfl (fun _ _ _ _ _ h => h) rfl rfl (.inr hS) ?_ | refine WD.skip 0 rfl (by kernel_rfl) rfl rfl (fun _ _ _ _ _ h => h) rfl (.inr hS) ?_); try (first | ((with_reducible refine WD.topT ?_ ?_); omega) | ((with_reducible refine WD.topF ?_ ?_); omega) | ((with_reducible refine WD.top64 ?_ ?_); omega))); ((first | refine WD.free 1 rfl (by kernel_rfl) rfl rfl (fun _ _ _ _ _ h => h) rfl rfl (.inr hS) ?_ | refine WD.skip 1 rfl (by kernel_rfl) rfl rfl (fun _ _ _ _ _ h => h) rfl (.inr hS) ?_); try (first | ((with_reducible refine WD.topT ?_ ?_); omega) | ((with_reducible refine WD.topF ?_ ?_); omega) | ((with_reducible refine WD.top64 ?_ ?_); omega))); ((first | refine WD.free 2 rfl (by kernel_rfl) rfl rfl (fun _ _ _ _ _ h => h) rfl rfl (.inr hS) ?_ | refine WD.skip 2 rfl (by kernel_rfl) rfl rfl (fun _ _ _ _ _ h => h) rfl (.inr hS) ?_); try (first | ((with_reducible refine WD.topT ?_ ?_); omega) | ((with_reducible refine WD.topF ?_ ?_); omega) | ((with_reducible refine WD.top64 ?_ ?_); omega))); ((first | refine WD.free 3 rfl (by kernel_rfl) rfl rfl (fun _ _ _ _ _ h => h) rfl rfl (.inr hS) ?_ | refine WD.skip 3 rfl (by kernel_rfl) rfl rfl (fun _ _ _ _ _ h => h) rfl (.inr hS) ?_); try (first | ((with_reducible refine WD.topT ?_ ?_); omega) | ((with_reducible refine WD.topF ?_ ?_); omega) | ((with_reducible refine WD.top64 ?_ ?_); omega))); ((first | refine WD.free 4 rfl (by kernel_rfl) rfl rfl (fun _ _ _ _ _ h => h) rfl rfl (.inr hS) ?_ | refine WD.skip 4 rfl (by kernel_rfl) rfl rfl (fun _ _ _ _ _ h => h) rfl (.inr hS) ?_); try (first | ((with_reducible refine WD.topT ?_ ?_); omega) | ((with_reducible refine WD.topF ?_ ?_); omega) | ((with_reducible refine WD.top64 ?_ ?_); omega))))
        refine WD.idxA 5 i (2 + i) rfl (by kernel_rfl) rfl rfl (fun _ _ _ _ _ h => h) rfl rfl rfl rfl rfl rfl (by omega) (by omega) (.inr hS) ?_
        refine WD.load 6 [13, 14, 15, 16] rfl (by kernel_rfl) rfl rfl (fun _ _ _ _ _ h => h) rfl rfl rfl rfl (fun wx hx => (heap_cell hx _).trans hky) hS ?_
        (((first | refine WD.free 7 rfl (by kernel_rfl) rfl rfl (fun _ _ _ _ _ h => h) rfl rfl (.inr hS) ?_ | refine WD.skip 7 rfl (by kernel_rfl) rfl rfl (fun _ _ _ _ _ h => h) rfl (.inr hS) ?_); try (first | ((with_reducible refine WD.topT ?_ ?_); omega) | ((with_reducible refine WD.topF ?_ ?_); omega) | ((with_reducible refine WD.top64 ?_ ?_); omega))); ((first | refine WD.free 8 rfl (by kernel_rfl) rfl rfl (fun _ _ _ _ _ h => h) rfl rfl (.inr hS) ?_ | refine WD.skip 8 rfl (by kernel_rfl) rfl rfl (fun _ _ _ _ _ h => h) rfl (.inr hS) ?_); try (first | ((with_reducible refine WD.topT ?_ ?_); omega) | ((with_reducible refine WD.topF ?_ ?_); omega) | ((with_reducible refine WD.top64 ?_ ?_); omega))); ((first | refine WD.free 9 rfl (by kernel_rfl) rfl rfl (fun _ _ _ _ _ h => h) rfl rfl (.inr hS) ?_ | refine WD.skip 9 rfl (by kernel_rfl) rfl rfl (fun _ _ _ _ _ h => h) rfl (.inr hS) ?_); try (first | ((with_reducible refine WD.topT ?_ ?_); omega) | ((with_reducible refine WD.topF ?_ ?_); omega) | ((with_reducible refine WD.top64 ?_ ?_); omega))); ((first | refine WD.free 10 rfl (by kernel_rfl) rfl rfl (fun _ _ _ _ _ h => h) rfl rfl (.inr hS) ?_ | refine WD.skip 10 rfl (by kernel_rfl) rfl rfl (fun _ _ _ _ _ h => h) rfl (.inr hS) ?_); try (first | ((with_reducible refine WD.topT ?_ ?_); omega) | ((with_reducible refine WD.topF ?_ ?_); omega) | ((with_reducible refine WD.top64 ?_ ?_); omega))))
        refine WD.idxA 11 i (10 + i) rfl (by kernel_rfl) rfl rfl (fun _ _ _ _ _ h => h) rfl rfl rfl rfl rfl rfl (by omega) (by omega) (.inr hS) ?_
        refine WD.load 12 [13, 14, 15, 16] rfl (by kernel_rfl) rfl rfl (fun _ _ _ _ _ h => h) rfl rfl rfl rfl (fun wx hx => (heap_cell hx _).trans hnm) hS ?_
        refine WD.one 13 (by kernel_rfl) rfl ?_
        refine WL.build [.string E.1, .int .i64 E.2] rfl rfl rfl rfl rfl (built_pair _ _) ?_
        refine WL.nil (WQ.dk (.inl rfl) ?_)
        refine WD.one 14 (by kernel_rfl) rfl ?_
        refine WL.lit1 (cs := [.string E.1, .int .i64 E.2]) rfl rfl rfl rfl rfl rfl rfl rfl ⟨by omega, by omega⟩ (by kernel_rfl) fun g7 w7 hf7 => ?_
        have hb7 : Below w.heap.size w w7 := hb2.trans (hf7.below.mono hb2.size)
        have vb7 := vb2.below hf7.below vb2.lt
        have how7 := how2.keep (P' := Pp) (O' := fun b => w.heap.size ≤ b) (Keep.of_below hf7.below) (fun g hg => how2.lt hg) (fun _ h => h) fun _ _ h => h
        refine WL.nil (WQ.dk (.inl rfl) ?_)
        refine WD.one 15 (by kernel_rfl) rfl ?_
        refine WL.snoc (y := E) rfl rfl rfl rfl elemPair rfl how7 rfl hf7.blk (by intro q hq; simp at hq; rcases hq with rfl | rfl <;> rfl) rfl rfl (by omega) (by omega) fun v8 w8 ho8 hg8 => ?_
        have hw7 : w.heap.size ≤ w7.heap.size := hb7.size
        have hb8 : Below w.heap.size w w8 := hb7.trans (hg8.old hw7 fun g hg => how7.own hg)
        have vb8 : VBlk nodeT w8 b (rowOf (ndF ⟨true, leafE es, Tre.hd rem none⟩ pv)) := vb7.keep hg8.1 ⟨vb7.lt, fun e => by have := how7.own e; omega⟩
        have ho8' : OwnE pairT 2 noKV Pp (fun b => w.heap.size ≤ b) w8 v8 (flt f t (pre ++ es.take i) ++ [E]) := ho8.keep (Keep.refl (fun _ => True) w8) (fun _ _ => trivial) (fun b hb => hb.elim id fun e => by omega) fun _ _ h => h
        clear hf7 ho8 hg8 how7 vb7 hb7 how2 hown
        refine WL.nil (WQ.dk (.inl rfl) ?_)
        refine WD.one 16 (by kernel_rfl) rfl ?_
        refine WL.pure rfl rfl rfl rfl ?_
        refine WL.nil (WQ.dk (.inl rfl) ?_)
        refine WD.done (by kernel_rfl) ?_
        repeat (first | ((with_reducible refine WL.topT ?_ ?_); omega) | ((with_reducible refine WL.topF ?_ ?_); omega) | ((with_reducible refine WL.top64 ?_ ?_); omega) | refine WC.seq ?_ | refine WC.block ?_ | refine WC.region ?_ | refine WL.nil ?_ | refine WC.skip ?_ | refine WC.exit ?_ | refine WC.ret ?_ | refine WQ.then rfl ?_ | refine WQ.thenExit ?_ | refine WQ.thenRet ?_ | refine WQ.blk ?_ | refine WQ.blkRet ?_ | refine WQ.blkHere rfl ?_ | refine WQ.blkOther rfl ?_ | refine WL.pure rfl rfl rfl rfl ?_ | refine WL.on rfl rfl ?_ | refine WL.off rfl rfl rfl ?_ | refine WC.condTrue rfl ?_ | refine WC.condFalse rfl ?_)
        refine WQ.again (i + 1, v8) ⟨rfl, rfl, rfl, rfl, rfl, rfl, rfl, trivial⟩ ⟨hb8, hlt, vb8, ?_⟩ (by show es.length - (i + 1) < es.length - i; omega)
        show OwnE pairT 2 noKV Pp (fun b => w.heap.size ≤ b) w8 v8 (flt f t (pre ++ es.take (i + 1)))
        rw [htk, ← List.append_assoc, flt_snoc, if_pos (by unfold inR; rw [hin]; unfold kl; rw [hkf]; rfl)]
        exact ho8'
    · obtain rfl : i = es.length := by omega
      rw [List.take_length] at hown
      have hnx : wq.cell? ⟨b, 26, none⟩ = some (ptrV (Tre.hd rem none)) := cellR vb (by omega)
      repeat (first | ((with_reducible refine WL.topT ?_ ?_); omega) | ((with_reducible refine WL.topF ?_ ?_); omega) | ((with_reducible refine WL.top64 ?_ ?_); omega) | refine WC.seq ?_ | refine WC.block ?_ | refine WC.region ?_ | refine WL.nil ?_ | refine WC.skip ?_ | refine WC.exit ?_ | refine WC.ret ?_ | refine WQ.then rfl ?_ | refine WQ.thenExit ?_ | refine WQ.thenRet ?_ | refine WQ.blk ?_ | refine WQ.blkRet ?_ | refine WQ.blkHere rfl ?_ | refine WQ.blkOther rfl ?_ | refine WL.pure rfl rfl rfl rfl ?_ | refine WL.on rfl rfl ?_ | refine WL.off rfl rfl rfl ?_ | refine WL.load rfl rfl rfl rfl rfl rfl (by assumption) ?_ | refine WC.condTrue rfl ?_ | refine WC.condFalse rfl ?_)
      refine WQ.again ⟨pre ++ es, rem, u⟩ ⟨rfl, rfl, rfl, rfl, rfl, trivial⟩ ⟨hb, hel', hln.2, hown⟩ (by show rem.length < rem.length + 1; omega)
end K
end Go.Proofs.Ytilmfnlaenneeaa

/- Loops over a function: the statement, a round, the call of yield, the function's end. -/
namespace Go.Proofs.Ytilmfnlaenneeaa
open Go.RowKit
namespace K
variable {n : NN} {Q : Exit → Act → World → Prop} {l : Env} {w w' : World} {ops : Array Oper} {o : Oper} {rest : List Oper} {d : Nat}

theorem cw_any {r : Option Nat} {m : Nat} {P : Program} {c : Code} {a : Act} (h : cw (some r) P c Q a w) : c.wpIn (FF r) m P Q a w := fun b k cs h1 h2 _ => h b k cs h1 h2 (fun d hd => by cases hd)
/-- A function that calls yield. -/
theorem enterIn {f : FuncId} {fn : Func} {c : Code} {args : List Value} {n : Nat} {R : Ending → World → Prop} (hf : Try.prog.funcs[f]? = some fn) (hb : fn.body = some c) (hn : fn.ntmps = n) (hs : Nat.ble args.length n = true)
    (h : WC ⟨n, [], some none⟩ c (bodyPost Try.prog fn R) (argsEnv 0 args) w) : CallsIn Fence.wide 1 Try.prog f args.toArray w R := by
  refine callsIn_of_wp hf hb trivial (cw_any (r := none) (h.go _ ?_))
  subst hn
  have hs' : args.length ≤ fn.ntmps := Nat.le_of_ble_eq_true hs
  refine ⟨by simp; omega, rfl, fun k v hk => ?_⟩
  obtain ⟨-, h2⟩ := look_args _ _ _ _ hk
  rw [Nat.sub_zero] at h2
  have hlt : k < args.length := by
    rcases Nat.lt_or_ge k args.length with h | h
    · exact h
    · rw [List.getElem?_eq_none h] at h2; cases h2
  rw [Array.getElem?_append_left (by simpa using hlt)]
  simpa using h2
/-- A round is called for. -/
theorem WL.yield {k : Nat} {ds : List Deferred} {lp : Nat} {x : Operand} {args : List Operand} {ts : Array TypeId} {vs : List Value} {R : Ending → World → Prop} (hg : o.guard = none) (hd : o.dst = some d) (hn : Nat.blt d k = true)
    (ho : o.op = .call { callee := .value x, args := args.toArray, argTypes := ts }) (hx : evl l x = some (.func (.yield lp) #[] #[])) (hv : evlAll l args = some vs)
    (hy : YieldAt Fence.wide 0 Try.prog lp vs.toArray w R) (h : ∀ e w', R e w' → ∃ v, e = .returned v ∧ WL ⟨k, ds, some none⟩ ops Q rest ((d, v) :: l) w') : WL ⟨k, ds, some none⟩ ops Q (o :: rest) l w :=
  ⟨fun a ha => by
    refine lw_round hg ?_ hy fun e w2 hh => ?_
    · unfold execOp
      rw [ho]
      have e0 := evlAll_map ha hv
      have e1 : (args.toArray.map a.eval) = vs.toArray := by rw [List.map_toArray, e0]
      have e2 : a.eval x = .func (.yield lp) #[] #[] := ha.eval hx
      simp [resolve, e1, e2, Deferred.ofValue, invoke]
    · obtain ⟨v, rfl, hwl⟩ := h e w2 hh
      exact ⟨v, rfl, by rw [hd]; exact hwl.go _ (ha.put hn v)⟩⟩

theorem keep_setRow {K : Nat → Prop} {a w : World} (h : Keep K a w) {g : Nat} (hg : ¬ K g) (cs : Array Value) : Keep K a (w.setRow g cs) := 
  ⟨h.os, h.tape, h.output, by simpa using h.size, fun k hk => (setRow_other w g k cs (fun e => hg (e ▸ hk))).trans (h.block k hk)⟩
/-- A call that is set back. -/
def mark (D : Nat) : Deferred := { target := .collected D, args := #[] }
/-- The blocks of the rounds' calls that were set back are shut. -/
def shut : List Nat → World → World
  | [], w => w
  | D :: r, w => shut r (w.putObj D (.deferred none))
theorem shut_keep : ∀ (Ds : List Nat) (w : World), Keep (fun b => b ∉ Ds) w (shut Ds w)
  | [], w => Keep.refl _ w
  | D :: r, w => by
    have h1 : Keep (fun b => b ∉ D :: r) w (w.putObj D (.deferred none)) := ⟨rfl, rfl, rfl, by simp, fun k hk => World.putObj_heap_other (by intro e; subst e; exact hk (by simp))⟩
    exact h1.trans ((shut_keep r _).mono fun b hb => by intro h; exact hb (by simp [h]))
def MarkAt (w : World) (Ds : List Nat) : Prop := Ds.Nodup ∧ ∀ D ∈ Ds, w.heap[D]? = some (.deferred (some []))
theorem MarkAt.nil (w : World) : MarkAt w [] := ⟨List.nodup_nil, fun _ h => by cases h⟩
theorem MarkAt.keep {Ds : List Nat} {K : Nat → Prop} (h : MarkAt w Ds) (hk : Keep K w w') (hK : ∀ D ∈ Ds, K D) : MarkAt w' Ds := ⟨h.1, fun D hD => (hk.block D (hK D hD)).trans (h.2 D hD)⟩
theorem MarkAt.lt {Ds : List Nat} (h : MarkAt w Ds) {D : Nat} (hD : D ∈ Ds) : D < w.heap.size := (Array.getElem?_eq_some_iff.1 (h.2 D hD)).1
/-- What the body of a function with such loops has to reach. -/
def postM (fn : Func) (R : Ending → World → Prop) : Exit → Act → World → Prop
  | .normal, a, w | .ret, a, w => ∃ Ds : List Nat, a.defers = Ds.map mark ∧ MarkAt w Ds ∧ ∃ v, (results fn a.tmps).run Try.prog (shut Ds w) = .ok v (shut Ds w) ∧ R (.returned v) (shut Ds w)
  | _, _, _ => False
theorem leaves_marks {fn : Func} {tmps : Array Value} {R : Ending → World → Prop} : ∀ (Ds : List Nat) (w : World), MarkAt w Ds → (∃ v, (results fn tmps).run Try.prog (shut Ds w) = .ok v (shut Ds w) ∧ R (.returned v) (shut Ds w)) →
    LeavesInM Fence.wide 1 Try.prog fn tmps R (Ds.map mark) .returning w
  | [], _, _, h => h
  | D :: r, w, hm, h => by
    refine ⟨by simp, .inl ⟨D, _, rfl, run_takeDeferred (hm.2 D (by simp)), ?_⟩⟩
    refine leaves_marks r _ ⟨(List.nodup_cons.1 hm.1).2, fun E hE => ?_⟩ h
    have hne : D ≠ E := fun e => (List.nodup_cons.1 hm.1).1 (e ▸ hE)
    exact (World.putObj_heap_other (fun e => hne e.symm)).trans (hm.2 E (by simp [hE]))
theorem enterM {f : FuncId} {fn : Func} {c : Code} {args : List Value} {n : Nat} {R : Ending → World → Prop} (hf : Try.prog.funcs[f]? = some fn) (hb : fn.body = some c) (hn : fn.ntmps = n) (hs : Nat.ble args.length n = true)
    (h : WC ⟨n, [], none⟩ c (postM fn R) (argsEnv 0 args) w) : Calls Try.prog f args.toArray w R := by
  refine (callsIn_wide (n := 1)).1 (callsIn_of_wp_marks hf hb trivial (wpIn_wide.2 (Code.wp_mono (fun e a w q => ?_) (h.go _ ?_))))
  · cases e with
    | normal => obtain ⟨Ds, h1, h2, h3⟩ := q; show LeavesInM _ _ _ _ _ _ a.defers _ _; rw [h1]; exact leaves_marks Ds _ h2 h3
    | ret => obtain ⟨Ds, h1, h2, h3⟩ := q; show LeavesInM _ _ _ _ _ _ a.defers _ _; rw [h1]; exact leaves_marks Ds _ h2 h3
    | exit id => exact q
    | goto l => exact q
    | panic ch => exact q.elim
    | outgrown => exact q.elim
  subst hn
  have hs' : args.length ≤ fn.ntmps := Nat.le_of_ble_eq_true hs
  refine ⟨by simp; omega, rfl, fun k v hk => ?_⟩
  obtain ⟨-, h2⟩ := look_args _ _ _ _ hk
  rw [Nat.sub_zero] at h2
  have hlt : k < args.length := by
    rcases Nat.lt_or_ge k args.length with h | h
    · exact h
    · rw [List.getElem?_eq_none h] at h2; cases h2
  rw [Array.getElem?_append_left (by simpa using hlt)]
  simpa using h2
section
variable {fn : Func} {R : Ending → World → Prop} {kn : Nat} {md : Option (Option Nat)}
theorem WQ.retM1 {t : Nat} {v : Value} (Ds : List Nat) (hr : fn.results = #[.tmp t]) (hl : look l t = some v) (hm : MarkAt w Ds) (h : R (.returned v) (shut Ds w)) : WQ ⟨kn, Ds.map mark, md⟩ (postM fn R) .ret l w :=
  ⟨fun a ha => ⟨Ds, ha.defers, hm, v, by have := ha.getD hl; simp only [Array.getD_eq_getD_getElem?] at this; simp [results, hr, this], h⟩⟩
theorem WQ.retMC {p : Nat} {ty' : TypeId} {q : Addr} {v : Value} (Ds : List Nat) (hr : fn.results = #[.cell p ty']) (hl : look l p = some (.pointer (some q))) (ht : scal (tyOf ty ty') = true) (hm : MarkAt w Ds) (hc : (shut Ds w).cell? q = some v)
    (h : R (.returned v) (shut Ds w)) : WQ ⟨kn, Ds.map mark, md⟩ (postM fn R) .ret l w :=
  ⟨fun a ha => ⟨Ds, ha.defers, hm, v, by
    have hp := ha.getD hl
    simp only [Array.getD_eq_getD_getElem?] at hp
    have := scal_run ht q hc
    simp [results, hr, hp, asAddr, this], h⟩⟩
end

/-- The slots that the loop's variables come in. -/
def zipE : List (Tmp × Value) → Env → Env
  | [], l => l
  | (p, v) :: r, l => zipE r ((p, v) :: l)
theorem Fr.zip {a : Act} {kn : Nat} {md md' : Option (Option Nat)} {ds : List Deferred} : ∀ (pv : List (Tmp × Value)) (tmps : Array Value) (l : Env), (∀ p ∈ pv, Nat.blt p.1 kn = true) → Fr ⟨kn, ds, md⟩ { a with tmps := tmps } l →
    Fr ⟨kn, [], md'⟩ { tmps := pv.foldl (fun t (p, v) => t.setIfInBounds p v) tmps, defers := [] } (zipE pv l)
  | [], tmps, l, _, h => ⟨h.size, rfl, h.slot⟩
  | (p, v) :: r, tmps, l, hp, h => by
    have h1 := h.put (hp _ (List.mem_cons_self ..)) v
    exact Fr.zip (a := a) r _ _ (fun q hq => hp q (by simp [hq])) ⟨h1.size, h1.defers, h1.slot⟩
/-- Blocks whose elements are of the type T lie as they lay. -/
def KpT (T : Nat) (W W' : World) : Prop := ∀ (b : Nat) cur x, W.heap[b]? = some (.cells cur T x) → W'.heap[b]? = W.heap[b]?
theorem KpT.trans {T : Nat} {A B C : World} (h : KpT T A B) (k : KpT T B C) : KpT T A C := fun b cur x hb => by
  have h1 := h b cur x hb
  exact (k b cur x (h1.trans hb)).trans h1
theorem KpT.refl (T : Nat) (W : World) : KpT T W W := fun _ _ _ _ => rfl
theorem KpT.put {T : Nat} {W : World} {l : Nat} {o : Obj} (o' : Obj) (h : W.heap[l]? = some o) (ho : o.isCells = false) : KpT T W (W.putObj l o') := fun b cur x hb =>
  World.putObj_heap_other (by intro e; subst e; rw [h] at hb; obtain rfl := Option.some.inj hb; cases ho)
theorem KpT.keep {T : Nat} {W W' : World} {K : Nat → Prop} (hk : Keep K W W') (hK : ∀ (b : Nat) cur x, W.heap[b]? = some (.cells cur T x) → K b) : KpT T W W' := fun b cur x hb => hk.block b (hK b cur x hb)
theorem keepsFrom {B : Nat} {W W' : World} {K : Nat → Prop} (hk : Keep K W W') (hK : ∀ b o, B ≤ b → W.heap[b]? = some o → o.isCells = false → K b) : KeepsFrom B W W' :=
  ⟨hk.size, fun k o hB hko ho => (hk.block k (hK k o hB hko ho)).trans hko⟩
theorem keep_grown {W W' : World} {row : Option Nat} (h : W.grownBy W' row) : Keep (fun b => b < W.heap.size ∧ some b ≠ row) W W' := ⟨h.os, h.tape, h.output, h.size, fun k hk => h.block k hk.1 hk.2⟩
theorem grown_of_below {W W' : World} {B : Nat} (h : Below B W W') (hB : W.heap.size ≤ B) (row : Option Nat) : W.grownBy W' row := ⟨h.os, h.tape, h.output, h.size, fun k hk _ => h.block k (by omega)⟩
/-- **A loop over a function.** I: what holds between two rounds; Ix: behind a round that has left by that jump. -/
theorem WC.rangeF {α : Type} {kn : Nat} {ds : List Deferred} {g : Operand} {ps : List Tmp} {assign body : Code} {gf : Nat} {lb : Array Value} {encs : α → List Value} {T : Nat} {S Sp : List α → Prop} {N : Nat}
    (hg : evl l g = some (.func (.func gf) #[] lb)) (eg : ∀ args w, (callFunc gf args).run Try.prog w = .ok (.enter gf args) w) (hseq : SeqStopsK Fence.wide 1 Try.prog gf lb (fun x => (encs x).toArray) (KpT T) S Sp N w)
    (hps : ∀ x, (encs x).length = ps.length) (hpn : ps.all (fun p => Nat.blt p kn) = true)
    (I : List α → World → Prop) (Ix : Code → List α → World → Prop) (hI : OwnFrom w.heap.size I) (hIx : ∀ c, OwnFrom w.heap.size (Ix c)) (h0 : I [] w) (L1 : α → Env)
    (hassign : ∀ (lp : Nat) (x : α) (W : World), WC ⟨kn, [], some (some lp)⟩ assign (Exit.then (Meet ⟨kn, [], some (some lp)⟩ (fun _ : Unit => L1 x) (fun _ W' => W' = W)) (fun _ _ _ => False)) (zipE (ps.zip (encs x)) l) W)
    (hbody : ∀ (lp : Nat) (pre : List α) (x : α) (W : World), w.heap.size ≤ lp → (∃ r, W.heap[lp]? = some (.loop r)) → I pre W → pre.length < N → WC ⟨kn, [], some (some lp)⟩ body (ownPostG w.heap.size (KpT T) I Ix (pre ++ [x]) W) (L1 x) W)
    (hdone : ∀ (D : Nat) (xs : List α) (W : World), w.heap.size ≤ D → S xs → I xs W → W.heap[D]? = some (.deferred (some [])) → WQ ⟨kn, mark D :: ds, none⟩ Q .normal l W)
    (hstop : ∀ (D : Nat) (c : Code) (pre : List α) (W : World), w.heap.size ≤ D → Sp pre → Ix c pre W → W.heap[D]? = some (.deferred (some [])) → WC ⟨kn, mark D :: ds, none⟩ c Q l W) :
    WC ⟨kn, ds, none⟩ (.rangeFunc g ps.toArray assign body) Q l w := by
  refine ⟨fun a ha => (wpIn_wide (n := 2)).1 ?_⟩
  refine wpIn_rangeFunc_ownH (F := Fence.wide) rfl (by omega) (ha.eval hg) trivial eg hseq KpT.trans (fun W l o o' _ hl hc _ => KpT.put o' hl hc) (Below.refl _ _) (fun x => by simp [hps x]) I Ix hI hIx h0
    (fun x a' _ => Fr ⟨kn, [], none⟩ a' (L1 x)) (fun _ _ _ _ _ _ h _ _ => h) ?_ ?_ ?_ ?_
  · intro lp pre x W K hi hK
    have hz : Fr ⟨kn, [], some (some lp)⟩ { tmps := (ps.toArray.zip (encs x).toArray).foldl (fun t (p, v) => t.setIfInBounds p v) a.tmps, defers := [] } (zipE (ps.zip (encs x)) l) := by
      rw [List.zip_toArray]
      simp only [List.foldl_toArray']
      refine Fr.zip (a := a) (md := none) (ds := ds) _ _ _ (fun p hp => ?_) ⟨ha.size, ha.defers, ha.slot⟩
      have := List.all_eq_true.1 hpn p.1 (List.of_mem_zip hp).1
      exact this
    have h1 := cw_any (m := 0) ((hassign lp x W).go _ hz)
    refine Go.wpIn_mono h1 fun e a' W' q => ?_
    cases e with
    | normal =>
      obtain ⟨_, hf, rfl⟩ := q
      exact hK _ _ (KeepsFrom.refl _ _) (KpT.refl _ _) hi ⟨hf.size, hf.defers, hf.slot⟩
    | exit id => exact q
    | goto l => exact q
    | ret => exact q
    | panic ch => exact q
    | outgrown => exact q
  · intro lp pre x a' W hlp hr hi hf hlen
    exact cw_any (m := 0) ((hbody lp pre x W hlp hr hi hlen).go _ ⟨hf.size, hf.defers, hf.slot⟩)
  · intro D xs W hD hS hi hk
    exact (hdone D xs W hD hS hi hk).go _ ⟨ha.size, by show mark D :: a.defers = _; rw [ha.defers], ha.slot⟩
  · intro D c pre W hD hS hi hk
    exact wpIn_wide.2 ((hstop D c pre W hD hS hi hk).go _ ⟨ha.size, by show mark D :: a.defers = _; rw [ha.defers], ha.slot⟩)
end K
end Go.Proofs.Ytilmfnlaenneeaa

/- Regions that draw their order, in which a round may be called for. -/
namespace Go.Proofs.Ytilmfnlaenneeaa
open Go.RowKit
namespace K
variable {n : NN} {kn : Nat} {ds : List Deferred} {Q : Exit → Act → World → Prop} {l : Env} {w w' : World} {ops : Array Oper} {o : Oper} {rest : List Oper} {d fuel : Nat} {listed : Array Bool}

structure WI (n : NN) (ops : Array Oper) (Q : Exit → Act → World → Prop) (fuel : Nat) (listed : Array Bool) (l : Env) (w : World) : Prop where
  go : ∀ a, Fr n a l → wpAnyIn Fence.wide 1 Try.prog .any ops Q fuel listed a w
theorem WC.drawnIn {id : Nat} {ops : List Oper} (h : ∀ w', Drew w w' → WI ⟨kn, ds, some none⟩ ops.toArray Q ops.length (Array.replicate ops.length false) l w') : WC ⟨kn, ds, some none⟩ (.region id ops.toArray true) Q l w :=
  ⟨fun a ha => wpIn_region_any (by kernel_rfl) ((h _ (Drew.mk' w)).go a ha)⟩
theorem WI.first {oi : Oper} {v : Value} (i : Nat) (hi : ops[i]? = some oi) (hs : mayB ops listed i 1000000 = true) (hd : oi.dst = some d) (hn : Nat.blt d n.n = true) (hQ : Passes Q) (hb : ∀ w ρ, oi.about Try.prog w ρ = none)
    (hy : ∀ a, Fr n a l → Region.wanted oi (yielded ops a.tmps) = true ∧ ∀ w, (execOp a.eval oi).run Try.prog w = .ok (.value v) w) (h : WI n ops Q fuel (listed.setIfInBounds i true) ((d, v) :: l) w) : WI n ops Q (fuel + 1) listed l w :=
  ⟨fun a ha => by
    unfold mayB at hs
    simp only [Bool.and_eq_true, Bool.not_eq_true'] at hs
    exact wpAnyIn_take rfl hi hs.1.1.1 hs.1.1.2 hs.1.2 (by rw [hd]; exact fun c a w => hQ c a d v w) ⟨.inl (hy a ha), fun w => hb w _⟩ (by rw [hd]; exact h.go _ (ha.put hn v))⟩
theorem WI.free {oi : Oper} {v : Value} (i : Nat) (hi : ops[i]? = some oi) (hs : mayB ops listed i 1000000 = true) (hd : oi.dst = some d) (hn : Nat.blt d n.n = true) (hQ : Passes Q) (hb : ∀ w ρ, oi.about Try.prog w ρ = none)
    (hw : wants ops l oi = some true) (hv : pv ty l oi.op = some v) (h : WI n ops Q fuel (listed.setIfInBounds i true) ((d, v) :: l) w) : WI n ops Q (fuel + 1) listed l w :=
  WI.first i hi hs hd hn hQ hb (fun _ ha => ⟨wants_run ha hw, fun w => pv_run tyOk ha hv w⟩) h
theorem WI.idx {oi : Oper} {t e s : Nat} {x i' : Operand} {b off len cap : Nat} {k : IntKind} {z : Int} (i j q : Nat) (hi : ops[i]? = some oi) (hs : mayB ops listed i 1000000 = true) (hd : oi.dst = some d) (hn : Nat.blt d n.n = true) (hQ : Passes Q)
    (hb : ∀ w ρ, oi.about Try.prog w ρ = none) (hw : wants ops l oi = some true) (ho : oi.op = .indexAddr t x i') (ht : tyOf ty t = some (.slice e s))
    (hx : evl l x = some (.slice (some ⟨b, off, none⟩) len cap)) (hi' : evl l i' = some (.int k z)) (hz : z = (j : Int)) (hj : j < len) (hq : off + j * s = q)
    (h : WI n ops Q fuel (listed.setIfInBounds i true) ((d, .pointer (some ⟨b, q, none⟩)) :: l) w) : WI n ops Q (fuel + 1) listed l w :=
  WI.first i hi hs hd hn hQ hb (fun _ ha => ⟨wants_run ha hw, fun w => by rw [← hq]; exact idx_run ho ht (ha.eval hx) (ha.eval hi') hz hj⟩) h
theorem wpIn_then {F : Fence} {m : Nat} {P : Program} {o : Oper} {a : Act} {K K' : Act → World → Prop} (hk : ∀ a w, K a w → K' a w) (h : o.wpIn F m P a w K (Exit.then K' Q)) : o.wpIn F m P a w K' Q := by
  refine ⟨h.1, ?_⟩
  have h := h.2
  revert h
  generalize (o.semAt F.round a.eval).run P w = r
  intro h
  cases r with
  | ok x w2 =>
    cases x <;> first | exact hk _ _ h | exact h | skip
    all_goals first
      | (refine ⟨h.1, CallsIn.mono h.2 fun e w3 h3 => ?_⟩
         cases e with
         | returned v => exact hk _ _ h3
         | panicked ch => exact h3
         | outgrown => obtain ⟨a4, w4, h4⟩ := h3; exact ⟨a4, w4, h4⟩)
      | exact ⟨h.1, RowsIn.mono h.2 fun v w3 h3 => hk _ _ h3⟩
      | (refine ⟨h.1, RoundIn.mono h.2 fun e w3 h3 => ?_⟩
         cases e with
         | returned v => exact hk _ _ h3
         | panicked ch => exact h3
         | outgrown => obtain ⟨a4, w4, h4⟩ := h3; exact ⟨a4, w4, h4⟩)
  | halt x w2 => cases x <;> first | exact h | skip
/-- What goes on behind a step. -/
def IK (ops : Array Oper) (Q : Exit → Act → World → Prop) (fuel : Nat) (listed : Array Bool) (a : Act) (w : World) : Prop := wpAnyIn Fence.wide 1 Try.prog .any ops Q fuel listed a w
theorem wpOpIn_of_list {i : Nat} {oi : Oper} {a : Act} (hi : ops[i]? = some oi) (h : lw (some none) Try.prog ops (Exit.then (IK ops Q fuel listed) Q) [oi] a w) : wpOpIn Fence.wide 1 Try.prog ops Q i (IK ops Q fuel listed) a w := by
  change wpListIn Fence.wide 1 Try.prog ops (Exit.then (IK ops Q fuel listed) Q) [oi] a w at h
  unfold wpOpIn
  simp only [hi]
  unfold wpListIn at h
  by_cases hw : Region.wanted oi (yielded ops a.tmps) = true
  · rw [if_pos hw] at h ⊢
    exact wpIn_then (fun _ _ h => h) h
  · rw [if_neg hw] at h ⊢
    exact h
theorem WI.one {oi : Oper} (i : Nat) (hr : Region.ready .any ops listed = [i]) (hi : ops[i]? = some oi) (h : WL ⟨kn, ds, some none⟩ ops (Exit.then (IK ops Q fuel (listed.setIfInBounds i true)) Q) [oi] l w) : WI ⟨kn, ds, some none⟩ ops Q (fuel + 1) listed l w :=
  ⟨fun a ha => ⟨(fun h0 => by rw [h0] at hr; cases hr), fun j hj => by
    rw [hr] at hj
    obtain rfl : j = i := by simpa using hj
    exact wpOpIn_of_list hi (h.go a ha)⟩⟩
theorem WI.two {oi oj : Oper} (i j : Nat) (hr : Region.ready .any ops listed = [i, j]) (hi : ops[i]? = some oi) (hj : ops[j]? = some oj) (h1 : WL ⟨kn, ds, some none⟩ ops (Exit.then (IK ops Q fuel (listed.setIfInBounds i true)) Q) [oi] l w)
    (h2 : WL ⟨kn, ds, some none⟩ ops (Exit.then (IK ops Q fuel (listed.setIfInBounds j true)) Q) [oj] l w) : WI ⟨kn, ds, some none⟩ ops Q (fuel + 1) listed l w :=
  ⟨fun a ha => ⟨(fun h0 => by rw [h0] at hr; cases hr), fun k hk => by
    rw [hr] at hk
    rcases List.mem_cons.1 hk with e | e
    · subst e; exact wpOpIn_of_list hi (h1.go a ha)
    · obtain rfl : k = j := by simpa using e
      exact wpOpIn_of_list hj (h2.go a ha)⟩⟩
theorem WQ.ik (h : WI n ops Q fuel listed l w) : WQ n (Exit.then (IK ops Q fuel listed) Q) .normal l w := ⟨fun a ha => h.go a ha⟩
theorem WI.done (hr : Region.ready .any ops listed = []) (h : WQ n Q .normal l w) : WI n ops Q fuel listed l w := ⟨fun a ha => wpAnyIn_done hr (h.go a ha) fuel⟩
end K
end Go.Proofs.Ytilmfnlaenneeaa

/- Loops over a function: what stands between two rounds; an iterator that is not nil; one that hands on nothing. -/
namespace Go.Proofs.Ytilmfnlaenneeaa
open Go.RowKit
namespace K
variable {n : NN} {Q : Exit → Act → World → Prop} {l : Env} {w w' : World} {ops : Array Oper} {o : Oper} {rest : List Oper} {d : Nat}
theorem eqGuard_fn {P : Program} (t : TypeId) (x y : Operand) (f : Fn) (rs cs : Array Value) (w : World) : (eqGuard .eql t x y (.func f rs cs) .nilFunc).run P w = .ok () w := by
  simp [eqGuard]
def isFn : Option TypeDesc → Bool
  | some (.func ..) => true
  | _ => false
theorem run_equalIn_fn {P : Program} (w : World) (d : Nat) (t : TypeId) (f : Fn) (rs cs : Array Value) (h : isFn (P.underlying t) = true) : (Op.equalIn (d + 1) t (.func f rs cs) .nilFunc).run P w = .ok false w := by
  cases hu : P.underlying t with
  | none => rw [hu] at h; cases h
  | some u =>
    rw [hu] at h
    cases u <;> first | cases h | skip
    simp [Op.equalIn, run_underlying hu]
theorem run_eql_fn {P : Program} (w : World) (t : TypeId) (f : Fn) (rs cs : Array Value) (h : isFn (P.underlying t) = true) : (binOp .eql t (.func f rs cs) .nilFunc).run P w = .ok (.bool false) w := by
  simp only [binOp]
  simp [Op.equal, Op.maxDepth, run_equalIn_fn w 9999 t f rs cs h]
/-- Is an iterator nil? -/
theorem WL.nilF {x : Operand} {t t2 : Nat} {f : Fn} {rs cs : Array Value} (hg : o.guard = none) (hd : o.dst = some d) (hn : Nat.blt d n.n = true) (ho : o.op = .binOp .eql t x (.const .nilFunc) t2) (ht : isFn (Try.prog.underlying t) = true) (hx : evl l x = some (.func f rs cs))
    (h : WL n ops Q rest ((d, .bool false) :: l) w) : WL n ops Q (o :: rest) l w :=
  WL.step hg hd hn (fun a ha => by
    have hy : a.eval (.const .nilFunc) = .nilFunc := rfl
    unfold execOp
    rw [ho]
    simp [ha.eval hx, hy, eqGuard_fn, run_eql_fn w t f rs cs ht]) h
/-- A block of cells. -/
def IsC (w : World) (b : Nat) : Prop := ∃ cur T x, w.heap[b]? = some (.cells cur T x)
theorem VBlk.isC {T : TypeId} {w : World} {b : Nat} {l : List Value} (h : VBlk T w b l) : IsC w b := ⟨_, _, _, h⟩
theorem OwnE.isC {α : Type} {e : TypeId} {m : Nat} {z : α} {P : α → List Value → Prop} {O : Nat → Prop} {w : World} {v : Value} {l : List α} (h : OwnE e m z P O w v l) {g : Nat} (hg : v.ownBlock = some g) : ∃ cur x, w.heap[g]? = some (.cells cur e x) := by
  obtain ⟨kcs, h1, h2, h3, h4, h5⟩ := h
  rcases h3.2 with ⟨rfl, -⟩ | ⟨g', cap, cur, rfl, hb, hg', hr⟩
  · cases hg
  · injection hg with hg
    subst hg
    exact ⟨cur, _, hg'⟩
theorem cell_isC {w : World} {a : Addr} {v : Value} (h : w.cell? a = some v) : IsC w a.block := by
  unfold World.cell? at h
  split at h
  · rename_i h1; exact ⟨_, _, _, h1⟩
  · cases h
/-- What stands while nothing but blocks of other kinds, laid since, are turned. -/
def Stays (B : Nat) (w : World) (b : Nat) : Prop := (b < B ∧ b < w.heap.size) ∨ IsC w b
theorem own_stays {β : Type} {B : Nat} {I : β → World → Prop} (h : ∀ s W W', I s W → Keep (Stays B W) W W' → I s W') : OwnFrom B I := fun s W W' row hs hg hr => by
  refine h s W W' hs ((keep_grown hg).mono fun b hb => ?_)
  rcases hb with ⟨h1, h2⟩ | ⟨cur, T, x, h1⟩
  · exact ⟨h2, fun e => by have := (hr b e.symm).1; omega⟩
  · refine ⟨(Array.getElem?_eq_some_iff.1 h1).1, fun e => ?_⟩
    obtain ⟨-, ob, h2, h3⟩ := hr b e.symm
    rw [h1] at h2
    obtain rfl := Option.some.inj h2
    cases h3
theorem stays_below {B n0 : Nat} {w W W' : World} (hb : Below n0 w W) (hk : Keep (Stays B W) W W') (h1 : n0 ≤ B) (h2 : n0 ≤ W.heap.size) : Below n0 w W' :=
  hb.trans ⟨hk.os, hk.tape, hk.output, hk.size, fun k hlt => hk.block k (.inl ⟨by omega, by omega⟩)⟩
theorem shut_isC {w : World} {Ds : List Nat} (hm : MarkAt w Ds) {b : Nat} (h : IsC w b) : b ∉ Ds := fun hb => by
  obtain ⟨cur, T, x, h⟩ := h
  have := hm.2 b hb
  rw [h] at this
  cases this
end K
end Go.Proofs.Ytilmfnlaenneeaa

/- Trees (chapter 13): Range, and its texts one by one. -/
namespace Go.Proofs.Ytilmfnlaenneeaa
open Go.RowKit
namespace K
open Tre
def encKV (x : KV) : List Value := [.string x.1, .int .i64 x.2]
/-- An iterator's surroundings: the tree, and from where to where. -/
structure Caps (w : World) (p : Value) (f t : Ky) (g1 g2 g3 : Nat) : Prop where
  c1 : w.cell? ⟨g1, 0, none⟩ = some p
  c2 : w.cell? ⟨g2, 0, none⟩ = some (.string f)
  c3 : w.cell? ⟨g3, 0, none⟩ = some (.string t)
theorem cell_lt {w : World} {a : Addr} {v : Value} (h : w.cell? a = some v) : a.block < w.heap.size := World.block_lt_of_cell? w a h
theorem Caps.below {w w' : World} {p : Value} {f t : Ky} {g1 g2 g3 : Nat} (h : Caps w p f t g1 g2 g3) (hb : Below w.heap.size w w') : Caps w' p f t g1 g2 g3 :=
  ⟨(hb.cell (cell_lt h.c1)).trans h.c1, (hb.cell (cell_lt h.c2)).trans h.c2, (hb.cell (cell_lt h.c3)).trans h.c3⟩
theorem Caps.stays {B : Nat} {w w' : World} {p : Value} {f t : Ky} {g1 g2 g3 : Nat} (h : Caps w p f t g1 g2 g3) (hk : Keep (Stays B w) w w') : Caps w' p f t g1 g2 g3 :=
  ⟨(hk.cell (p := ⟨g1, 0, none⟩) (.inr (cell_isC h.c1))).trans h.c1, (hk.cell (p := ⟨g2, 0, none⟩) (.inr (cell_isC h.c2))).trans h.c2, (hk.cell (p := ⟨g3, 0, none⟩) (.inr (cell_isC h.c3))).trans h.c3⟩
def capsV (g1 g2 g3 : Nat) : Array Value := #[.pointer (some ⟨g1, 0, none⟩), .pointer (some ⟨g2, 0, none⟩), .pointer (some ⟨g3, 0, none⟩)]
theorem trange_any {w : World} (q : Option Addr) (f t : Ky) : Calls Try.prog 12 #[.pointer q, .string f, .string t] w fun e w' => Below w.heap.size w w' ∧ ∃ g1 g2 g3, e = .returned (.func (.func 28) #[] (capsV g1 g2 g3)) ∧ Caps w' (.pointer q) f t g1 g2 g3 := by
  refine enter (args := [.pointer q, .string f, .string t]) Try.func12 rfl Try.ntmps12 rfl ?_
  repeat (first | refine WC.seq ?_ | refine WC.block ?_ | refine WC.region ?_ | refine WL.nil ?_ | refine WC.skip ?_ | refine WC.exit ?_ | refine WC.ret ?_ | refine WQ.then rfl ?_ | refine WQ.thenExit ?_ | refine WQ.thenRet ?_ | refine WQ.blk ?_ | refine WQ.blkRet ?_ | refine WQ.blkHere rfl ?_ | refine WQ.blkOther rfl ?_)
  refine WL.box rfl rfl rfl rfl rfl fun g1 w1 f1 => ?_
  refine WL.box rfl rfl rfl rfl rfl fun g2 w2 f2 => ?_
  refine WL.box rfl rfl rfl rfl rfl fun g3 w3 f3 => ?_
  have hz1 := f1.size
  have hz2 := f2.size
  have b1 := f1.blk.below f2.below f1.blk.lt
  have b1' := b1.below f3.below b1.lt
  have b2 := f2.blk.below f3.below f2.blk.lt
  have hb : Below w.heap.size w w3 := (f1.below.trans (f2.below.mono (by omega))).trans (f3.below.mono (by omega))
  repeat (first | ((with_reducible refine WL.topT ?_ ?_); omega) | ((with_reducible refine WL.topF ?_ ?_); omega) | ((with_reducible refine WL.top64 ?_ ?_); omega) | refine WC.seq ?_ | refine WC.block ?_ | refine WC.region ?_ | refine WL.nil ?_ | refine WC.skip ?_ | refine WC.exit ?_ | refine WC.ret ?_ | refine WQ.then rfl ?_ | refine WQ.thenExit ?_ | refine WQ.thenRet ?_ | refine WQ.blk ?_ | refine WQ.blkRet ?_ | refine WQ.blkHere rfl ?_ | refine WQ.blkOther rfl ?_ | refine WL.pure rfl rfl rfl rfl ?_ | refine WL.on rfl rfl ?_ | refine WL.off rfl rfl rfl ?_ | refine WC.condTrue rfl ?_ | refine WC.condFalse rfl ?_)
  refine WL.fn rfl rfl rfl rfl rfl ?_
  repeat (first | ((with_reducible refine WL.topT ?_ ?_); omega) | ((with_reducible refine WL.topF ?_ ?_); omega) | ((with_reducible refine WL.top64 ?_ ?_); omega) | refine WC.seq ?_ | refine WC.block ?_ | refine WC.region ?_ | refine WL.nil ?_ | refine WC.skip ?_ | refine WC.exit ?_ | refine WC.ret ?_ | refine WQ.then rfl ?_ | refine WQ.thenExit ?_ | refine WQ.thenRet ?_ | refine WQ.blk ?_ | refine WQ.blkRet ?_ | refine WQ.blkHere rfl ?_ | refine WQ.blkOther rfl ?_ | refine WL.pure rfl rfl rfl rfl ?_ | refine WL.on rfl rfl ?_ | refine WL.off rfl rfl rfl ?_ | refine WC.condTrue rfl ?_ | refine WC.condFalse rfl ?_)
  exact WQ.ret1 rfl rfl ⟨hb, g1, g2, g3, rfl, b1'.cell 0 (by simp [Value.cells]), b2.cell 0 (by simp [Value.cells]), f3.blk.cell 0 (by simp [Value.cells])⟩
theorem OwnE.kp {α : Type} {e : TypeId} {m : Nat} {z : α} {P : α → List Value → Prop} {O : Nat → Prop} {w w' : World} {v : Value} {l : List α} (h : OwnE e m z P O w v l) (hk : KpT e w w') : OwnE e m z P O w' v l := by
  obtain ⟨kcs, h1, h2, h3, h4, h5⟩ := h
  refine ⟨kcs, h1, h2, ⟨h3.1, ?_⟩, h4, h5⟩
  rcases h3.2 with h | ⟨g, cap, cur, e1, hb, hg, hr⟩
  · exact .inl h
  · exact .inr ⟨g, cap, cur, e1, hb, (hk g cur _ hg).trans hg, hr⟩
theorem zero_pair (w : World) : (zeroValue pairT).run Try.prog w = .ok (.agg #[.string ByteArray.empty, .int .i64 0]) w := by kernel_rfl
/-- Range's texts, one by one. -/
theorem range1_any {w : World} {p : Value} {L : List KV} {f t : Ky} {g1 g2 g3 : Nat} (hc : Caps w p f t g1 g2 g3) (hlen : L.length < 1000000000)
    (hall : ∀ W, Below w.heap.size w W → Calls Try.prog 29 #[p, .string f, .string t] W fun e w' => Below W.heap.size W w' ∧ ∃ v, e = .returned v ∧ OwnE pairT 2 noKV Pp (fun b => W.heap.size ≤ b) w' v L) :
    SeqStopsK Fence.wide 1 Try.prog 28 (capsV g1 g2 g3) (fun x => (encKV x).toArray) (KpT pairT) (fun xs => xs = L) (fun pre => pre <+: L) L.length w := by
  intro lp J Jx W hW hJ hJx hY h0
  have hc' := hc.below hW
  refine enterIn (args := [.func (.yield lp) #[] #[], .pointer (some ⟨g1, 0, none⟩), .pointer (some ⟨g2, 0, none⟩), .pointer (some ⟨g3, 0, none⟩)]) Try.func28 rfl Try.ntmps28 rfl ?_
  repeat (first | refine WC.seq ?_ | refine WC.block ?_ | refine WC.region ?_ | refine WL.nil ?_ | refine WC.skip ?_ | refine WC.exit ?_ | refine WC.ret ?_ | refine WQ.then rfl ?_ | refine WQ.thenExit ?_ | refine WQ.thenRet ?_ | refine WQ.blk ?_ | refine WQ.blkRet ?_ | refine WQ.blkHere rfl ?_ | refine WQ.blkOther rfl ?_)
  refine WL.load rfl rfl rfl rfl rfl rfl hc'.c1 ?_
  refine WL.load rfl rfl rfl rfl rfl rfl hc'.c2 ?_
  refine WL.load rfl rfl rfl rfl rfl rfl hc'.c3 ?_
  refine WL.call rfl rfl rfl rfl rfl Try.func29 rfl (by kernel_rfl) (hall W hW) ?_
  rintro _ w1 ⟨hb, v, rfl, hown⟩
  refine ⟨_, rfl, ?_⟩
  have hJ1 : J [] w1 := hJ _ _ _ none h0 (grown_of_below hb (Nat.le_refl _) none) (fun r e => by cases e)
  obtain ⟨sp, cap, rfl, -⟩ := hown.els
  repeat (first | ((with_reducible refine WL.topT ?_ ?_); omega) | ((with_reducible refine WL.topF ?_ ?_); omega) | ((with_reducible refine WL.top64 ?_ ?_); omega) | refine WC.seq ?_ | refine WC.block ?_ | refine WC.region ?_ | refine WL.nil ?_ | refine WC.skip ?_ | refine WC.exit ?_ | refine WC.ret ?_ | refine WQ.then rfl ?_ | refine WQ.thenExit ?_ | refine WQ.thenRet ?_ | refine WQ.blk ?_ | refine WQ.blkRet ?_ | refine WQ.blkHere rfl ?_ | refine WQ.blkOther rfl ?_ | refine WL.pure rfl rfl rfl rfl ?_ | refine WL.on rfl rfl ?_ | refine WL.off rfl rfl rfl ?_ | refine WC.condTrue rfl ?_ | refine WC.condFalse rfl ?_)
  refine WC.loop (fun i : Nat => [(0, .func (.yield lp) #[] #[]), (10, .slice sp L.length cap), (11, .int .i64 L.length), (12, .int .i64 i)])
    (fun i w' => i ≤ L.length ∧ J (L.take i) w' ∧ OwnE pairT 2 noKV Pp (fun b => W.heap.size ≤ b) w' (.slice sp L.length cap) L) (fun i => L.length - i) 0 ⟨rfl, rfl, rfl, rfl, trivial⟩
    ⟨Nat.zero_le _, hJ1, hown⟩ ?_
  clear hown hJ1
  rintro i wr ⟨hi, hj, hown⟩
  by_cases hlt : i < L.length
  · obtain ⟨sp', cap', e, -, -, -, hr⟩ := hown.els
    obtain ⟨rfl, -, rfl⟩ : sp = sp' ∧ L.length = L.length ∧ cap = cap' := by injection e with a b c; exact ⟨a, b, c⟩
    obtain ⟨b, o, rfl, hbz, hbO, hat⟩ := hr (by omega)
    obtain ⟨cs, hcs, hP, hra⟩ := hat i hlt
    have hx : L.take (i + 1) = L.take i ++ [L.getD i noKV] := by rw [List.take_add_one, List.getElem?_eq_getElem hlt]; simp [List.getD_eq_getElem?_getD, hlt]
    generalize L.getD i noKV = x at hP hx
    have hP' : cs = [.string x.1, .int .i64 x.2] := hP
    subst hP'
    repeat (first | ((with_reducible refine WL.topT ?_ ?_); omega) | ((with_reducible refine WL.topF ?_ ?_); omega) | ((with_reducible refine WL.top64 ?_ ?_); omega) | refine WC.seq ?_ | refine WC.region ?_ | refine WL.nil ?_ | refine WC.skip ?_ | refine WC.exit ?_ | refine WC.ret ?_ | refine WQ.then rfl ?_ | refine WQ.thenExit ?_ | refine WQ.thenRet ?_ | refine WQ.blk ?_ | refine WQ.blkRet ?_ | refine WQ.blkHere rfl ?_ | refine WQ.blkOther rfl ?_ | refine WL.pure rfl rfl rfl rfl ?_ | refine WL.on rfl rfl ?_ | refine WL.off rfl rfl rfl ?_ | refine WL.load rfl rfl rfl rfl rfl rfl (by assumption) ?_ | refine WC.condTrue rfl ?_ | refine WC.condFalse rfl ?_)
    refine WC.block ?_
    repeat (first | ((with_reducible refine WL.topT ?_ ?_); omega) | ((with_reducible refine WL.topF ?_ ?_); omega) | ((with_reducible refine WL.top64 ?_ ?_); omega) | refine WC.seq ?_ | refine WC.block ?_ | refine WC.region ?_ | refine WL.nil ?_ | refine WC.skip ?_ | refine WC.exit ?_ | refine WC.ret ?_ | refine WQ.then rfl ?_ | refine WQ.thenExit ?_ | refine WQ.thenRet ?_ | refine WQ.blk ?_ | refine WQ.blkRet ?_ | refine WQ.blkHere rfl ?_ | refine WQ.blkOther rfl ?_ | refine WL.pure rfl rfl rfl rfl ?_ | refine WL.on rfl rfl ?_ | refine WL.off rfl rfl rfl ?_ | refine WC.condTrue rfl ?_ | refine WC.condFalse rfl ?_)
    refine WL.idx i (o + i * 2) rfl rfl rfl rfl rfl rfl rfl rfl hlt rfl ?_
    refine WL.loadMid rfl rfl rfl rfl rfl rfl hra rfl ?_
    refine WL.alloc (z := .agg #[.string ByteArray.empty, .int .i64 0]) rfl rfl rfl rfl zero_pair fun g w2 f2 => ?_
    refine WL.storeRow rfl rfl rfl rfl rfl rfl f2.blk rfl rfl (by intro v hv; simp at hv; rcases hv with rfl | rfl <;> rfl) ?_
    have v3 : VBlk pairT (w2.setRow g #[.string x.1, .int .i64 x.2]) g [.string x.1, .int .i64 x.2] := f2.blk.setRow _
    have k3 : Below wr.heap.size wr (w2.setRow g #[.string x.1, .int .i64 x.2]) := by
      have h1 : Keep (fun k => k < wr.heap.size) wr (w2.setRow g #[.string x.1, .int .i64 x.2]) := keep_setRow (Keep.of_below f2.below) (by have := f2.eq; omega) _
      exact h1.below
    have hf2 := f2.size
    generalize w2.setRow g #[.string x.1, .int .i64 x.2] = w3 at v3 k3 ⊢
    have hJ3 : J (L.take i) w3 := hJ _ _ _ none hj (grown_of_below k3 (Nat.le_refl _) none) (fun r e => by cases e)
    have hown3 := hown.keep (Keep.of_below k3) (fun q hq => hown.lt hq) (fun _ h => h) (fun _ _ h => h)
    repeat (first | ((with_reducible refine WL.topT ?_ ?_); omega) | ((with_reducible refine WL.topF ?_ ?_); omega) | ((with_reducible refine WL.top64 ?_ ?_); omega) | refine WC.seq ?_ | refine WC.block ?_ | refine WC.region ?_ | refine WL.nil ?_ | refine WC.skip ?_ | refine WC.exit ?_ | refine WC.ret ?_ | refine WQ.then rfl ?_ | refine WQ.thenExit ?_ | refine WQ.thenRet ?_ | refine WQ.blk ?_ | refine WQ.blkRet ?_ | refine WQ.blkHere rfl ?_ | refine WQ.blkOther rfl ?_ | refine WL.pure rfl rfl rfl rfl ?_ | refine WL.on rfl rfl ?_ | refine WL.off rfl rfl rfl ?_ | refine WC.condTrue rfl ?_ | refine WC.condFalse rfl ?_)
    refine WL.load rfl rfl rfl rfl rfl rfl (v3.cell 0 (by simp)) ?_
    repeat (first | ((with_reducible refine WL.topT ?_ ?_); omega) | ((with_reducible refine WL.topF ?_ ?_); omega) | ((with_reducible refine WL.top64 ?_ ?_); omega) | refine WC.seq ?_ | refine WC.block ?_ | refine WC.region ?_ | refine WL.nil ?_ | refine WC.skip ?_ | refine WC.exit ?_ | refine WC.ret ?_ | refine WQ.then rfl ?_ | refine WQ.thenExit ?_ | refine WQ.thenRet ?_ | refine WQ.blk ?_ | refine WQ.blkRet ?_ | refine WQ.blkHere rfl ?_ | refine WQ.blkOther rfl ?_ | refine WL.pure rfl rfl rfl rfl ?_ | refine WL.on rfl rfl ?_ | refine WL.off rfl rfl rfl ?_ | refine WC.condTrue rfl ?_ | refine WC.condFalse rfl ?_)
    refine WL.load rfl rfl rfl rfl rfl rfl (v3.cell 1 (by simp)) ?_
    have hlt3 : (L.take i).length < L.length := by rw [List.length_take]; omega
    refine WL.yield rfl rfl rfl rfl rfl rfl (hY (L.take i) x w3 hJ3 hlt3) ?_
    rintro e w4 (⟨rfl, hJ4, hk4⟩ | ⟨rfl, hJ4⟩)
    · refine ⟨_, rfl, ?_⟩
      have hown4 := hown3.kp hk4
      repeat (first | ((with_reducible refine WL.topT ?_ ?_); omega) | ((with_reducible refine WL.topF ?_ ?_); omega) | ((with_reducible refine WL.top64 ?_ ?_); omega) | refine WC.seq ?_ | refine WC.block ?_ | refine WC.region ?_ | refine WL.nil ?_ | refine WC.skip ?_ | refine WC.exit ?_ | refine WC.ret ?_ | refine WQ.then rfl ?_ | refine WQ.thenExit ?_ | refine WQ.thenRet ?_ | refine WQ.blk ?_ | refine WQ.blkRet ?_ | refine WQ.blkHere rfl ?_ | refine WQ.blkOther rfl ?_ | refine WL.pure rfl rfl rfl rfl ?_ | refine WL.on rfl rfl ?_ | refine WL.off rfl rfl rfl ?_ | refine WC.condTrue rfl ?_ | refine WC.condFalse rfl ?_)
      refine WQ.again (i + 1) ⟨rfl, rfl, rfl, rfl, trivial⟩ ⟨hlt, by rw [hx]; exact hJ4, hown4⟩ (by omega)
    · refine ⟨_, rfl, ?_⟩
      repeat (first | ((with_reducible refine WL.topT ?_ ?_); omega) | ((with_reducible refine WL.topF ?_ ?_); omega) | ((with_reducible refine WL.top64 ?_ ?_); omega) | refine WC.seq ?_ | refine WC.block ?_ | refine WC.region ?_ | refine WL.nil ?_ | refine WC.skip ?_ | refine WC.exit ?_ | refine WC.ret ?_ | refine WQ.then rfl ?_ | refine WQ.thenExit ?_ | refine WQ.thenRet ?_ | refine WQ.blk ?_ | refine WQ.blkRet ?_ | refine WQ.blkHere rfl ?_ | refine WQ.blkOther rfl ?_ | refine WL.pure rfl rfl rfl rfl ?_ | refine WL.on rfl rfl ?_ | refine WL.off rfl rfl rfl ?_ | refine WC.condTrue rfl ?_ | refine WC.condFalse rfl ?_)
      refine WQ.ret0 rfl ⟨⟨_, rfl⟩, .inr ⟨L.take i ++ [x], ?_, hJ4⟩⟩
      rw [← hx]
      exact List.take_prefix _ _
  · obtain rfl : i = L.length := by omega
    repeat (first | ((with_reducible refine WL.topT ?_ ?_); omega) | ((with_reducible refine WL.topF ?_ ?_); omega) | ((with_reducible refine WL.top64 ?_ ?_); omega) | refine WC.seq ?_ | refine WC.block ?_ | refine WC.region ?_ | refine WL.nil ?_ | refine WC.skip ?_ | refine WC.exit ?_ | refine WC.ret ?_ | refine WQ.then rfl ?_ | refine WQ.thenExit ?_ | refine WQ.thenRet ?_ | refine WQ.blk ?_ | refine WQ.blkRet ?_ | refine WQ.blkHere rfl ?_ | refine WQ.blkOther rfl ?_ | refine WL.pure rfl rfl rfl rfl ?_ | refine WL.on rfl rfl ?_ | refine WL.off rfl rfl rfl ?_ | refine WC.condTrue rfl ?_ | refine WC.condFalse rfl ?_)
    refine WQ.end0 rfl ⟨⟨_, rfl⟩, .inl ⟨L, rfl, ?_⟩⟩
    rw [List.take_length] at hj
    exact hj
end K
end Go.Proofs.Ytilmfnlaenneeaa

/- Trees (chapter 13): Back, and its texts one by one. -/
namespace Go.Proofs.Ytilmfnlaenneeaa
open Go.RowKit
namespace K
open Tre
theorem tback_any {w : World} (q : Option Addr) (f t : Ky) : Calls Try.prog 13 #[.pointer q, .string f, .string t] w fun e w' => Below w.heap.size w w' ∧ ∃ g1 g2 g3, e = .returned (.func (.func 30) #[] (capsV g1 g2 g3)) ∧ Caps w' (.pointer q) f t g1 g2 g3 := by
  refine enter (args := [.pointer q, .string f, .string t]) Try.func13 rfl Try.ntmps13 rfl ?_
  repeat (first | refine WC.seq ?_ | refine WC.block ?_ | refine WC.region ?_ | refine WL.nil ?_ | refine WC.skip ?_ | refine WC.exit ?_ | refine WC.ret ?_ | refine WQ.then rfl ?_ | refine WQ.thenExit ?_ | refine WQ.thenRet ?_ | refine WQ.blk ?_ | refine WQ.blkRet ?_ | refine WQ.blkHere rfl ?_ | refine WQ.blkOther rfl ?_)
  refine WL.box rfl rfl rfl rfl rfl fun g1 w1 f1 => ?_
  refine WL.box rfl rfl rfl rfl rfl fun g2 w2 f2 => ?_
  refine WL.box rfl rfl rfl rfl rfl fun g3 w3 f3 => ?_
  have hz1 := f1.size
  have hz2 := f2.size
  have b1 := f1.blk.below f2.below f1.blk.lt
  have b1' := b1.below f3.below b1.lt
  have b2 := f2.blk.below f3.below f2.blk.lt
  have hb : Below w.heap.size w w3 := (f1.below.trans (f2.below.mono (by omega))).trans (f3.below.mono (by omega))
  repeat (first | ((with_reducible refine WL.topT ?_ ?_); omega) | ((with_reducible refine WL.topF ?_ ?_); omega) | ((with_reducible refine WL.top64 ?_ ?_); omega) | refine WC.seq ?_ | refine WC.block ?_ | refine WC.region ?_ | refine WL.nil ?_ | refine WC.skip ?_ | refine WC.exit ?_ | refine WC.ret ?_ | refine WQ.then rfl ?_ | refine WQ.thenExit ?_ | refine WQ.thenRet ?_ | refine WQ.blk ?_ | refine WQ.blkRet ?_ | refine WQ.blkHere rfl ?_ | refine WQ.blkOther rfl ?_ | refine WL.pure rfl rfl rfl rfl ?_ | refine WL.on rfl rfl ?_ | refine WL.off rfl rfl rfl ?_ | refine WC.condTrue rfl ?_ | refine WC.condFalse rfl ?_)
  refine WL.fn rfl rfl rfl rfl rfl ?_
  repeat (first | ((with_reducible refine WL.topT ?_ ?_); omega) | ((with_reducible refine WL.topF ?_ ?_); omega) | ((with_reducible refine WL.top64 ?_ ?_); omega) | refine WC.seq ?_ | refine WC.block ?_ | refine WC.region ?_ | refine WL.nil ?_ | refine WC.skip ?_ | refine WC.exit ?_ | refine WC.ret ?_ | refine WQ.then rfl ?_ | refine WQ.thenExit ?_ | refine WQ.thenRet ?_ | refine WQ.blk ?_ | refine WQ.blkRet ?_ | refine WQ.blkHere rfl ?_ | refine WQ.blkOther rfl ?_ | refine WL.pure rfl rfl rfl rfl ?_ | refine WL.on rfl rfl ?_ | refine WL.off rfl rfl rfl ?_ | refine WC.condTrue rfl ?_ | refine WC.condFalse rfl ?_)
  exact WQ.ret1 rfl rfl ⟨hb, g1, g2, g3, rfl, b1'.cell 0 (by simp [Value.cells]), b2.cell 0 (by simp [Value.cells]), f3.blk.cell 0 (by simp [Value.cells])⟩
theorem rev_take {L : List KV} {i : Nat} (hi : i < L.length) : L.reverse.take (i + 1) = L.reverse.take i ++ [L.getD (L.length - 1 - i) noKV] := by
  rw [List.take_add_one, List.getElem?_reverse hi]
  have : L.length - 1 - i < L.length := by omega
  simp [List.getD_eq_getElem?_getD, List.getElem?_eq_getElem this]
set_option maxRecDepth 20000 in
/-- Back's texts, one by one. -/
theorem back1_any {w : World} {p : Value} {L : List KV} {f t : Ky} {g1 g2 g3 : Nat} (hc : Caps w p f t g1 g2 g3) (hlen : L.length < 1000000000)
    (hall : ∀ W, Below w.heap.size w W → Calls Try.prog 29 #[p, .string f, .string t] W fun e w' => Below W.heap.size W w' ∧ ∃ v, e = .returned v ∧ OwnE pairT 2 noKV Pp (fun b => W.heap.size ≤ b) w' v L) :
    SeqStopsK Fence.wide 1 Try.prog 30 (capsV g1 g2 g3) (fun x => (encKV x).toArray) (KpT pairT) (fun xs => xs = L.reverse) (fun pre => pre <+: L.reverse) L.length w := by
  intro lp J Jx W hW hJ hJx hY h0
  have hc' := hc.below hW
  refine enterIn (args := [.func (.yield lp) #[] #[], .pointer (some ⟨g1, 0, none⟩), .pointer (some ⟨g2, 0, none⟩), .pointer (some ⟨g3, 0, none⟩)]) Try.func30 rfl Try.ntmps30 rfl ?_
  repeat (first | refine WC.seq ?_ | refine WC.block ?_ | refine WC.region ?_ | refine WL.nil ?_ | refine WC.skip ?_ | refine WC.exit ?_ | refine WC.ret ?_ | refine WQ.then rfl ?_ | refine WQ.thenExit ?_ | refine WQ.thenRet ?_ | refine WQ.blk ?_ | refine WQ.blkRet ?_ | refine WQ.blkHere rfl ?_ | refine WQ.blkOther rfl ?_)
  refine WL.load rfl rfl rfl rfl rfl rfl hc'.c1 ?_
  refine WL.load rfl rfl rfl rfl rfl rfl hc'.c2 ?_
  refine WL.load rfl rfl rfl rfl rfl rfl hc'.c3 ?_
  refine WL.call rfl rfl rfl rfl rfl Try.func29 rfl (by kernel_rfl) (hall W hW) ?_
  rintro _ w1 ⟨hb, v, rfl, hown⟩
  refine ⟨_, rfl, ?_⟩
  have hJ1 : J [] w1 := hJ _ _ _ none h0 (grown_of_below hb (Nat.le_refl _) none) (fun r e => by cases e)
  obtain ⟨sp, cap, rfl, -⟩ := hown.els
  repeat (first | ((with_reducible refine WL.topT ?_ ?_); omega) | ((with_reducible refine WL.topF ?_ ?_); omega) | ((with_reducible refine WL.top64 ?_ ?_); omega) | refine WC.seq ?_ | refine WC.block ?_ | refine WC.region ?_ | refine WL.nil ?_ | refine WC.skip ?_ | refine WC.exit ?_ | refine WC.ret ?_ | refine WQ.then rfl ?_ | refine WQ.thenExit ?_ | refine WQ.thenRet ?_ | refine WQ.blk ?_ | refine WQ.blkRet ?_ | refine WQ.blkHere rfl ?_ | refine WQ.blkOther rfl ?_ | refine WL.pure rfl rfl rfl rfl ?_ | refine WL.on rfl rfl ?_ | refine WL.off rfl rfl rfl ?_ | refine WC.condTrue rfl ?_ | refine WC.condFalse rfl ?_)
  refine WC.loop (fun i : Nat => [(0, .func (.yield lp) #[] #[]), (5, .slice sp L.length cap), (6, .int .i64 ((L.length : Int) - 1 - i))])
    (fun i w' => i ≤ L.length ∧ J (L.reverse.take i) w' ∧ OwnE pairT 2 noKV Pp (fun b => W.heap.size ≤ b) w' (.slice sp L.length cap) L) (fun i => L.length - i) 0 ⟨rfl, rfl, by show some (Value.int .i64 _) = some (Value.int .i64 _); congr 2; omega, trivial⟩
    ⟨Nat.zero_le _, hJ1, hown⟩ ?_
  clear hown hJ1
  rintro i wr ⟨hi, hj, hown⟩
  by_cases hlt : i < L.length
  · obtain ⟨sp', cap', e, -, -, -, hr⟩ := hown.els
    obtain ⟨rfl, -, rfl⟩ : sp = sp' ∧ L.length = L.length ∧ cap = cap' := by injection e with a b c; exact ⟨a, b, c⟩
    obtain ⟨b, o, rfl, hbz, hbO, hat⟩ := hr (by omega)
    have hx := rev_take hlt
    obtain ⟨j, hjj⟩ : ∃ j, j = L.length - 1 - i := ⟨_, rfl⟩
    have hjz : (L.length : Int) - 1 - i = (j : Int) := by omega
    have hjl : j < L.length := by omega
    rw [← hjj] at hx
    obtain ⟨cs, hcs, hP, hra⟩ := hat j hjl
    generalize L.getD j noKV = x at hP hx
    have hP' : cs = [.string x.1, .int .i64 x.2] := hP
    subst hP'
    repeat (first | ((with_reducible refine WL.topT ?_ ?_); omega) | ((with_reducible refine WL.topF ?_ ?_); omega) | ((with_reducible refine WL.top64 ?_ ?_); omega) | refine WC.seq ?_ | refine WC.region ?_ | refine WL.nil ?_ | refine WC.skip ?_ | refine WC.exit ?_ | refine WC.ret ?_ | refine WQ.then rfl ?_ | refine WQ.thenExit ?_ | refine WQ.thenRet ?_ | refine WQ.blk ?_ | refine WQ.blkRet ?_ | refine WQ.blkHere rfl ?_ | refine WQ.blkOther rfl ?_ | refine WL.pure rfl rfl rfl rfl ?_ | refine WL.on rfl rfl ?_ | refine WL.off rfl rfl rfl ?_ | refine WL.load rfl rfl rfl rfl rfl rfl (by assumption) ?_ | refine WC.condTrue rfl ?_ | refine WC.condFalse rfl ?_)
    refine WC.block ?_
    repeat (first | ((with_reducible refine WL.topT ?_ ?_); omega) | ((with_reducible refine WL.topF ?_ ?_); omega) | ((with_reducible refine WL.top64 ?_ ?_); omega) | refine WC.seq ?_ | refine WC.region ?_ | refine WL.nil ?_ | refine WC.skip ?_ | refine WC.exit ?_ | refine WC.ret ?_ | refine WQ.then rfl ?_ | refine WQ.thenExit ?_ | refine WQ.thenRet ?_ | refine WQ.blk ?_ | refine WQ.blkRet ?_ | refine WQ.blkHere rfl ?_ | refine WQ.blkOther rfl ?_ | refine WL.pure rfl rfl rfl rfl ?_ | refine WL.on rfl rfl ?_ | refine WL.off rfl rfl rfl ?_ | refine WL.load rfl rfl rfl rfl rfl rfl (by assumption) ?_ | refine WC.condTrue rfl ?_ | refine WC.condFalse rfl ?_)
    refine WC.drawnIn fun w2 hd2 => ?_
    have hra2 : w2.rangeAt b (o + j * 2) [.string x.1, .int .i64 x.2] := fun q u hu => by have := hra q u hu; rw [World.cell?_of_block (w := wr) (w' := w2) (by rw [hd2.heap])]; exact this
    have hJ2 : J (L.reverse.take i) w2 := hJ _ _ _ none hj (grown_of_below (hd2.below wr.heap.size) (Nat.le_refl _) none) (fun r e => by cases e)
    have hown2 := hown.keep (Keep.of_below (hd2.below wr.heap.size)) (fun q hq => hown.lt hq) (fun _ h => h) (fun _ _ h => h)
    have hlt2 : (L.reverse.take i).length < L.length := by rw [List.length_take, List.length_reverse]; omega
    have hy := hY (L.reverse.take i) x w2 hJ2 hlt2
    refine WI.free 0 rfl (by kernel_rfl) rfl rfl (fun _ _ _ _ _ h => h) (fun _ _ => rfl) rfl rfl ?_
    refine WI.free 1 rfl (by kernel_rfl) rfl rfl (fun _ _ _ _ _ h => h) (fun _ _ => rfl) rfl rfl ?_
    refine WI.free 2 rfl (by kernel_rfl) rfl rfl (fun _ _ _ _ _ h => h) (fun _ _ => rfl) rfl rfl ?_
    refine WI.idx 3 j (o + j * 2) rfl (by kernel_rfl) rfl rfl (fun _ _ _ _ _ h => h) (fun _ _ => rfl) rfl rfl rfl rfl rfl hjz hjl rfl ?_
    refine WI.free 4 rfl (by kernel_rfl) rfl rfl (fun _ _ _ _ _ h => h) (fun _ _ => rfl) rfl rfl ?_
    refine WI.free 6 rfl (by kernel_rfl) rfl rfl (fun _ _ _ _ _ h => h) (fun _ _ => rfl) rfl rfl ?_
    refine WI.free 7 rfl (by kernel_rfl) rfl rfl (fun _ _ _ _ _ h => h) (fun _ _ => rfl) rfl rfl ?_
    refine WI.idx 8 j (o + j * 2) rfl (by kernel_rfl) rfl rfl (fun _ _ _ _ _ h => h) (fun _ _ => rfl) rfl rfl rfl rfl rfl hjz hjl rfl ?_
    refine WI.free 9 rfl (by kernel_rfl) rfl rfl (fun _ _ _ _ _ h => h) (fun _ _ => rfl) rfl rfl ?_
    refine WI.two 5 10 (by kernel_rfl) rfl rfl ?_ ?_
    · refine WL.load rfl rfl rfl rfl rfl rfl (hra2 0 _ rfl) ?_
      refine WL.nil (WQ.ik ?_)
      refine WI.one 10 (by kernel_rfl) rfl ?_
      refine WL.load rfl rfl rfl rfl rfl rfl (hra2 1 _ rfl) ?_
      refine WL.nil (WQ.ik ?_)
      refine WI.one 11 (by kernel_rfl) rfl ?_
      refine WL.yield rfl rfl rfl rfl rfl rfl hy ?_
      rintro e w4 (⟨rfl, hJ4, hk4⟩ | ⟨rfl, hJ4⟩)
      · refine ⟨_, rfl, ?_⟩
        have hown4 := hown2.kp hk4
        refine WL.nil (WQ.ik ?_)
        refine WI.one 12 (by kernel_rfl) rfl ?_
        refine WL.pure rfl rfl rfl rfl ?_
        refine WL.nil (WQ.ik ?_)
        refine WI.done (by kernel_rfl) ?_
        repeat (first | ((with_reducible refine WL.topT ?_ ?_); omega) | ((with_reducible refine WL.topF ?_ ?_); omega) | ((with_reducible refine WL.top64 ?_ ?_); omega) | refine WC.seq ?_ | refine WC.block ?_ | refine WC.region ?_ | refine WL.nil ?_ | refine WC.skip ?_ | refine WC.exit ?_ | refine WC.ret ?_ | refine WQ.then rfl ?_ | refine WQ.thenExit ?_ | refine WQ.thenRet ?_ | refine WQ.blk ?_ | refine WQ.blkRet ?_ | refine WQ.blkHere rfl ?_ | refine WQ.blkOther rfl ?_ | refine WL.pure rfl rfl rfl rfl ?_ | refine WL.on rfl rfl ?_ | refine WL.off rfl rfl rfl ?_ | refine WC.condTrue rfl ?_ | refine WC.condFalse rfl ?_)
        refine WQ.again (i + 1) ⟨rfl, rfl, by show some (Value.int .i64 _) = some (Value.int .i64 _); congr 2; omega, trivial⟩ ⟨hlt, by rw [hx]; exact hJ4, hown4⟩ (by omega)
      · refine ⟨_, rfl, ?_⟩
        refine WL.nil (WQ.ik ?_)
        refine WI.one 12 (by kernel_rfl) rfl ?_
        refine WL.pure rfl rfl rfl rfl ?_
        refine WL.nil (WQ.ik ?_)
        refine WI.done (by kernel_rfl) ?_
        repeat (first | ((with_reducible refine WL.topT ?_ ?_); omega) | ((with_reducible refine WL.topF ?_ ?_); omega) | ((with_reducible refine WL.top64 ?_ ?_); omega) | refine WC.seq ?_ | refine WC.block ?_ | refine WC.region ?_ | refine WL.nil ?_ | refine WC.skip ?_ | refine WC.exit ?_ | refine WC.ret ?_ | refine WQ.then rfl ?_ | refine WQ.thenExit ?_ | refine WQ.thenRet ?_ | refine WQ.blk ?_ | refine WQ.blkRet ?_ | refine WQ.blkHere rfl ?_ | refine WQ.blkOther rfl ?_ | refine WL.pure rfl rfl rfl rfl ?_ | refine WL.on rfl rfl ?_ | refine WL.off rfl rfl rfl ?_ | refine WC.condTrue rfl ?_ | refine WC.condFalse rfl ?_)
        refine WQ.ret0 rfl ⟨⟨_, rfl⟩, .inr ⟨L.reverse.take i ++ [x], ?_, hJ4⟩⟩
        rw [← hx]
        exact List.take_prefix _ _
    · refine WL.load rfl rfl rfl rfl rfl rfl (hra2 1 _ rfl) ?_
      refine WL.nil (WQ.ik ?_)
      refine WI.one 5 (by kernel_rfl) rfl ?_
      refine WL.load rfl rfl rfl rfl rfl rfl (hra2 0 _ rfl) ?_
      refine WL.nil (WQ.ik ?_)
      refine WI.one 11 (by kernel_rfl) rfl ?_
      refine WL.yield rfl rfl rfl rfl rfl rfl hy ?_
      rintro e w4 (⟨rfl, hJ4, hk4⟩ | ⟨rfl, hJ4⟩)
      · refine ⟨_, rfl, ?_⟩
        have hown4 := hown2.kp hk4
        refine WL.nil (WQ.ik ?_)
        refine WI.one 12 (by kernel_rfl) rfl ?_
        refine WL.pure rfl rfl rfl rfl ?_
        refine WL.nil (WQ.ik ?_)
        refine WI.done (by kernel_rfl) ?_
        repeat (first | ((with_reducible refine WL.topT ?_ ?_); omega) | ((with_reducible refine WL.topF ?_ ?_); omega) | ((with_reducible refine WL.top64 ?_ ?_); omega) | refine WC.seq ?_ | refine WC.block ?_ | refine WC.region ?_ | refine WL.nil ?_ | refine WC.skip ?_ | refine WC.exit ?_ | refine WC.ret ?_ | refine WQ.then rfl ?_ | refine WQ.thenExit ?_ | refine WQ.thenRet ?_ | refine WQ.blk ?_ | refine WQ.blkRet ?_ | refine WQ.blkHere rfl ?_ | refine WQ.blkOther rfl ?_ | refine WL.pure rfl rfl rfl rfl ?_ | refine WL.on rfl rfl ?_ | refine WL.off rfl rfl rfl ?_ | refine WC.condTrue rfl ?_ | refine WC.condFalse rfl ?_)
        refine WQ.again (i + 1) ⟨rfl, rfl, by show some (Value.int .i64 _) = some (Value.int .i64 _); congr 2; omega, trivial⟩ ⟨hlt, by rw [hx]; exact hJ4, hown4⟩ (by omega)
      · refine ⟨_, rfl, ?_⟩
        refine WL.nil (WQ.ik ?_)
        refine WI.one 12 (by kernel_rfl) rfl ?_
        refine WL.pure rfl rfl rfl rfl ?_
        refine WL.nil (WQ.ik ?_)
        refine WI.done (by kernel_rfl) ?_
        repeat (first | ((with_reducible refine WL.topT ?_ ?_); omega) | ((with_reducible refine WL.topF ?_ ?_); omega) | ((with_reducible refine WL.top64 ?_ ?_); omega) | refine WC.seq ?_ | refine WC.block ?_ | refine WC.region ?_ | refine WL.nil ?_ | refine WC.skip ?_ | refine WC.exit ?_ | refine WC.ret ?_ | refine WQ.then rfl ?_ | refine WQ.thenExit ?_ | refine WQ.thenRet ?_ | refine WQ.blk ?_ | refine WQ.blkRet ?_ | refine WQ.blkHere rfl ?_ | refine WQ.blkOther rfl ?_ | refine WL.pure rfl rfl rfl rfl ?_ | refine WL.on rfl rfl ?_ | refine WL.off rfl rfl rfl ?_ | refine WC.condTrue rfl ?_ | refine WC.condFalse rfl ?_)
        refine WQ.ret0 rfl ⟨⟨_, rfl⟩, .inr ⟨L.reverse.take i ++ [x], ?_, hJ4⟩⟩
        rw [← hx]
        exact List.take_prefix _ _
  · obtain rfl : i = L.length := by omega
    repeat (first | ((with_reducible refine WL.topT ?_ ?_); omega) | ((with_reducible refine WL.topF ?_ ?_); omega) | ((with_reducible refine WL.top64 ?_ ?_); omega) | refine WC.seq ?_ | refine WC.block ?_ | refine WC.region ?_ | refine WL.nil ?_ | refine WC.skip ?_ | refine WC.exit ?_ | refine WC.ret ?_ | refine WQ.then rfl ?_ | refine WQ.thenExit ?_ | refine WQ.thenRet ?_ | refine WQ.blk ?_ | refine WQ.blkRet ?_ | refine WQ.blkHere rfl ?_ | refine WQ.blkOther rfl ?_ | refine WL.pure rfl rfl rfl rfl ?_ | refine WL.on rfl rfl ?_ | refine WL.off rfl rfl rfl ?_ | refine WC.condTrue rfl ?_ | refine WC.condFalse rfl ?_)
    refine WQ.end0 rfl ⟨⟨_, rfl⟩, .inl ⟨L.reverse, rfl, ?_⟩⟩
    rw [show L.length = L.reverse.length by simp, List.take_length] at hj
    exact hj
end K
end Go.Proofs.Ytilmfnlaenneeaa

/- How arguments that came in read. -/
namespace Go.Proofs.Ytilmfnlaenneeaa
open Go.ChangeShapes Go.WideShapes Go.ChangeAt Go.RowKit

theorem Try.ownKnob : ownKnob Try.prog.godebug = none := by kernel_rfl
theorem Try.laid : laidOutB Try.prog = true := by kernel_rfl

/-- What a slice of integers that came in reads as: nil, or a row of cells. -/
def IsRow (k : IntKind) (w : World) (a : Option Addr) (len cap : Nat) (zs : List Int) : Prop :=
  (a = none ∧ len = 0 ∧ cap = 0 ∧ zs = []) ∨
  ∃ x, a = some x ∧ len ≤ cap ∧ cap ≤ maxLen ∧ zs.length = cap ∧ (∀ i, i < zs.length → w.cell? (x.add i) = some (.int k (zs.getD i 0))) ∧ ∀ n ∈ zs, (Lit.int k n).wf = true

theorem cell_spot {w : World} {x : Addr} {v : Value} (h : w.cell? x = some v) : x.spot = none := by
  unfold World.cell? at h
  split at h
  · cases hs : x.spot with
    | none => rfl
    | some _ => simp [hs] at h
  · cases h
theorem IsRow.sl {k : IntKind} {w : World} {a : Option Addr} {len cap : Nat} {zs : List Int} (h : IsRow k w a len cap zs) :
    ∃ l : List Int, l.length = len ∧ Sl k w (.slice a len cap) l ∧ ∀ n ∈ l, (Lit.int k n).wf = true := by
  rcases h with ⟨rfl, rfl, rfl, rfl⟩ | ⟨x, rfl, h1, h2, h3, h4, h5⟩
  · exact ⟨[], rfl, Sl.nil k w, by simp⟩
  · have hl : (zs.take len).length = len := by rw [List.length_take]; omega
    refine ⟨zs.take len, hl, ⟨some x, cap, by rw [hl], by omega, by unfold maxLen at h2; exact h2, fun h0 => ?_, fun h => by cases h⟩, fun n hn => h5 n (List.mem_of_mem_take hn)⟩
    have h40 := h4 0 (by omega)
    have hx0 : x.add 0 = x := rfl
    rw [hx0] at h40
    have hsp := cell_spot h40
    obtain ⟨b, o, s⟩ := x
    simp only at hsp
    subst hsp
    refine ⟨b, o, rfl, block_lt_of_cell h40, fun j hj => ?_⟩
    have := h4 j (by omega)
    rw [addr_add] at this
    rw [this]
    have hj2 : j < len := by omega
    simp [nth, hj2]

/-- A slice of integers that came in. -/
theorem open_sl {H : Type} {enc : TypeId × Value → H} {P : Program} {W : World} {base b0 : Nat} {held : Bool} {r : Reach} {t e : TypeId} {k : IntKind} {v : Value} {d : DataW H} {p : List MemPlace}
    (hu : P.underlying t = some (.slice e)) (he : P.underlying e = some (.int k)) (hc : P.cellsOf e = 1)
    (hval : Value.okWide P W r b0 t v) (h : DataW.Trod enc P W base (fun _ => true) held t v d p) :
    ∃ l : List Int, Sl k W v l ∧ ∀ n ∈ l, (Lit.int k n).wf = true := by
  obtain ⟨a, len, cap, rfl⟩ := okWide_slice hu hval
  obtain ⟨fuel, hf⟩ := h
  have key : ∃ zs, IsRow k W a len cap zs := by
    rcases open_ints hu he hc hf with ⟨hcs, _⟩ | ⟨x, l, c, zs, hcs, _, hl, hm, hz, _, hcell, hwz⟩
    · simp [Value.cells] at hcs
      obtain ⟨rfl, rfl, rfl⟩ := hcs
      exact ⟨[], .inl ⟨rfl, rfl, rfl, rfl⟩⟩
    · simp [Value.cells] at hcs
      obtain ⟨rfl, rfl, rfl⟩ := hcs
      exact ⟨zs, .inr ⟨_, rfl, hl, hm, by simpa using hz, hcell, hwz⟩⟩
  obtain ⟨zs, hz⟩ := key
  obtain ⟨l, -, h1, h2⟩ := hz.sl
  exact ⟨l, h1, h2⟩

/-- The number in a cell. -/
def numOf : Option Value → Int
  | some (.int _ q) => q
  | _ => 0

/-- An array of integers that came in, by value. -/
theorem open_arr {H : Type} {enc : TypeId × Value → H} {P : Program} {W : World} {base b0 : Nat} {spare : Nat → Bool} {held : Bool} {r : Reach} {t e : TypeId} {n : Nat} {k : IntKind} {v : Value} {d : DataW H} {p : List MemPlace}
    (hu : P.underlying t = some (.array n e)) (he : P.underlying e = some (.int k)) (hc : P.cellsOf e = 1) (hct : P.cellsOf t = n)
    (hval : Value.okWide P W r b0 t v) (h : DataW.Trod enc P W base spare held t v d p) :
    ∃ l : List Int, v = .agg (l.map (Value.int k)).toArray ∧ l.length = n ∧ ∀ x ∈ l, (Lit.int k x).wf = true := by
  simp only [Value.okWide, hu] at hval
  obtain ⟨cs, rfl, hsz, -⟩ := hval
  obtain ⟨fuel, hf⟩ := h
  obtain ⟨xs, m, -, -, -, hxl, hx⟩ := DataW.trod_array hu hf
  have hel : ∀ i, i < n → ∃ q, cs[i]? = some (.int k q) ∧ (Lit.int k q).wf = true := by
    intro i hi
    have h1 := hx i hi
    rw [hc, Nat.mul_one, List.getElem?_eq_getElem (by omega)] at h1
    obtain ⟨q, e1, -, e2⟩ := DataW.trod_int he h1
    refine ⟨q, ?_, e2⟩
    have h2 : ((Value.agg cs).cells.toList.drop i)[0]? = some (.int k q) := by
      have := congrArg (fun l => l[0]?) e1
      simpa using this
    simpa [Value.cells] using h2
  refine ⟨(List.range n).map fun i => numOf cs[i]?, ?_, by simp, ?_⟩
  · congr 1
    apply Array.ext
    · simp; omega
    · intro i h1 h2
      have hi : i < n := by omega
      obtain ⟨q, e1, -⟩ := hel i hi
      have e2 : cs[i] = .int k q := by simpa [Array.getElem?_eq_getElem h1] using e1
      simp [e2, numOf, h1]
  · intro x hx'
    obtain ⟨i, hi, rfl⟩ := List.mem_map.1 hx'
    obtain ⟨q, e1, e2⟩ := hel i (List.mem_range.1 hi)
    rw [e1]; exact e2

end Go.Proofs.Ytilmfnlaenneeaa

/- What comes in: sizes; a slice, opened at each place. -/
namespace Go.Proofs.Ytilmfnlaenneeaa
open Go.ChangeShapes Go.WideShapes Go.ChangeAt Go.RowKit
namespace K

section
variable {H : Type} {P : Program}
/-- All weights are within reach. -/
def WOk (P : Program) (t : TypeId) (d : DataW H) : Prop := ∀ n ∈ d.weights P t, n ≤ reachBytes
theorem weightsAll_mem {e : TypeId} : ∀ {ds : List (DataW H)} {d : DataW H} {n : Nat}, d ∈ ds → n ∈ d.weights P e → n ∈ DataW.weightsAll P e ds
  | d0 :: ds, d, n, hd, hn => by
    rw [DataW.weightsAll, List.mem_append]
    rcases List.mem_cons.1 hd with rfl | hd
    · exact .inl hn
    · exact .inr (weightsAll_mem hd hn)
theorem WOk.slice {t e : TypeId} {elems spare : List (DataW H)} (hu : P.underlying t = some (.slice e)) (h : WOk P t (.slice elems spare)) : (elems.length + spare.length) * P.bytesOf e ≤ reachBytes ∧ ∀ d ∈ elems, WOk P e d := by
  unfold WOk at h
  rw [DataW.weights, hu] at h
  simp only [List.mem_cons, List.mem_append] at h
  exact ⟨h _ (.inl rfl), fun d hd n hn => h n (.inr (.inl (weightsAll_mem hd hn)))⟩
theorem WOk.agg {t : TypeId} {fs : Array Field} {parts : List (DataW H)} (hu : P.underlying t = some (.struct fs)) (h : WOk P t (.agg parts)) {i : Nat} {f : Field} {d : DataW H} (hf : fs[i]? = some f) (hd : parts[i]? = some d) : WOk P f.type d := by
  unfold WOk at h
  rw [DataW.weights, hu] at h
  exact fun n hn => h n (DataW.weights_mem_each (j := i) (by simp [hf]) hd n hn)
theorem WOk.string {t : TypeId} {l : List UInt8} (h : WOk P t (.lit (.string l) : DataW H)) : l.length ≤ reachBytes := h _ (by simp [DataW.weights])
end

section
variable {H : Type} {enc : TypeId × Value → H} {W : World} {base : Nat} {held : Bool}
theorem reach_le {n : Nat} (h : n ≤ reachBytes) : n ≤ 140737488355328 := Nat.le_trans h (by decide)

/-- A slice, opened at each place. -/
theorem open_sl2 {t e : TypeId} {fuel : Nat} {v : Value} {x : DataW H × List MemPlace} (m : Nat) (hm0 : 0 < m) (hu : Try.prog.underlying t = some (.slice e)) (hce : Try.prog.cellsOf e = m) (h : DataW.trod enc Try.prog W base (fun _ => true) held fuel t [v] = some x) :
    ∃ sp len cap, v = .slice sp len cap ∧ len ≤ cap ∧ cap ≤ 9223372036854775807 ∧ ∃ n elems rest, n < fuel ∧ (x.1 = .slice (elems.map (·.1)) rest ∨ (x.1 = .nil ∧ elems = [])) ∧ elems.length = len ∧
      ∀ i, i < len → ∃ (b o : Nat) (cs : List Value) (y : DataW H × List MemPlace), sp = some ⟨b, o, none⟩ ∧ b < W.heap.size ∧ cs.length = m ∧ W.rangeAt b (o + i * m) cs ∧ elems[i]? = some y ∧ DataW.trod enc Try.prog W base (fun _ => true) held n e cs = some y := by
  rcases DataW.trod_slice hu h with ⟨hcs, rfl⟩ | ⟨a, len, cap, elems, rest, n, rfl, hcs, rfl, hb, hl, hcap, hlen, hel, -, -⟩
  · obtain rfl : v = .slice none 0 0 := by simpa using hcs
    cases fuel with
    | zero => simp [DataW.trod] at h
    | succ f => exact ⟨none, 0, 0, rfl, Nat.le_refl _, by omega, f, [], [], by omega, .inr ⟨rfl, rfl⟩, rfl, fun i hi => absurd hi (by omega)⟩
  · obtain rfl : v = .slice (some a) len cap := by simpa using hcs
    refine ⟨some a, len, cap, rfl, hl, by unfold maxLen at hcap; exact hcap, n, elems, rest.map (·.1), by omega, .inl rfl, hlen, fun i hi => ?_⟩
    have h1 := hel i hi
    rw [hce] at h1
    obtain ⟨y, hy⟩ : ∃ y, elems[i]? = some y := ⟨elems[i], List.getElem?_eq_getElem (by omega)⟩
    rw [hy] at h1
    obtain ⟨cs, hc1, hc2⟩ := Option.bind_eq_some_iff.1 h1
    obtain ⟨-, hcl, hat⟩ := World.cells?_some hc1
    have h00 := hel 0 (by omega)
    rw [hce] at h00
    obtain ⟨y0, hy0⟩ : ∃ y, elems[0]? = some y := ⟨elems[0], List.getElem?_eq_getElem (by omega)⟩
    rw [hy0] at h00
    obtain ⟨cs0, hc01, -⟩ := Option.bind_eq_some_iff.1 h00
    obtain ⟨-, hcl0, hat0⟩ := World.cells?_some hc01
    have hx0 := hat0 0 hm0
    have e0 : (a.add (0 * m)).add 0 = a := by rw [Nat.zero_mul]; rfl
    rw [e0, List.getElem?_eq_getElem (by omega)] at hx0
    have hsp := cell_spot hx0
    obtain ⟨b, o, s⟩ := a
    simp only at hsp
    subst hsp
    refine ⟨b, o, cs, y, rfl, block_lt_of_cell hx0, hcl, fun j u hj => ?_, hy, hc2⟩
    have hjl : j < m := by
      rcases Nat.lt_or_ge j m with h | h
      · exact h
      · rw [List.getElem?_eq_none (by omega)] at hj; cases hj
    have := hat j hjl
    rw [addr_add, addr_add] at this
    rw [this]; exact hj
theorem take1 {l : List Value} {o : Nat} {v : Value} (h : (l.drop o).take 1 = [v]) : l[o]? = some v := by
  have : ((l.drop o).take 1)[0]? = some v := by rw [h]; rfl
  simpa using this
end
end K
end Go.Proofs.Ytilmfnlaenneeaa

/- Scripts that come in (chapter 13). -/
namespace Go.Proofs.Ytilmfnlaenneeaa
open Go.ChangeShapes Go.WideShapes Go.ChangeAt Go.RowKit
namespace K
/-- A step of a script. -/
structure Stp where
  kind : Int
  n : Int
  key : ByteArray
  fin : ByteArray
def noStp : Stp := ⟨0, 0, ByteArray.empty, ByteArray.empty⟩
def stpC (s : Stp) : List Value := [.int .i64 s.kind, .int .i64 s.n, .string s.key, .string s.fin]
/-- A row of steps. -/
def IsSteps (w : World) (v : Value) (l : List Stp) : Prop :=
  ∃ sp cap, v = .slice sp l.length cap ∧ l.length ≤ cap ∧ cap ≤ 9223372036854775807 ∧ (∀ j, j < l.length → (l.getD j noStp).key.size ≤ 140737488355328 ∧ (l.getD j noStp).fin.size ≤ 140737488355328 ∧ (-9223372036854775808 ≤ (l.getD j noStp).n ∧ (l.getD j noStp).n ≤ 9223372036854775807)) ∧
    (0 < l.length → ∃ b o, sp = some ⟨b, o, none⟩ ∧ b < w.heap.size ∧ ∀ j, j < l.length → w.rangeAt b (o + j * 4) (stpC (l.getD j noStp)))
theorem IsSteps.below {w w' : World} {v : Value} {l : List Stp} (h : IsSteps w v l) (hb : Below w.heap.size w w') : IsSteps w' v l := by
  obtain ⟨sp, cap, h1, h2, h3, h4, h5⟩ := h
  refine ⟨sp, cap, h1, h2, h3, h4, fun h0 => ?_⟩
  obtain ⟨b, o, e, hlt, hr⟩ := h5 h0
  exact ⟨b, o, e, Nat.lt_of_lt_of_le hlt hb.size, fun k hk j u hu => by rw [hb.cell (p := ⟨b, o + k * 4 + j, none⟩) hlt]; exact hr k hk j u hu⟩
section
variable {H : Type} {enc : TypeId × Value → H} {W : World} {base : Nat} {held : Bool}
set_option maxRecDepth 100000 in
theorem open_stp {fuel : Nat} {cs : List Value} {x : DataW H × List MemPlace} (h : DataW.trod enc Try.prog W base (fun _ => true) held fuel 30 cs = some x) (hz : WOk Try.prog 30 x.1) :
    ∃ s : Stp, cs = stpC s ∧ s.key.size ≤ 140737488355328 ∧ s.fin.size ≤ 140737488355328 ∧ (-9223372036854775808 ≤ s.n ∧ s.n ≤ 9223372036854775807) := by
  obtain ⟨xs, n, rfl, rfl, hl, hxl, hx⟩ := DataW.trod_struct Try.underlying30 h
  have hxl' : xs.length = 4 := hxl
  have hcl : cs.length = 4 := hl.trans (by kernel_rfl)
  have e : ∀ i, i < 4 → ∃ y, xs[i]? = some y := fun i hi => ⟨xs[i], List.getElem?_eq_getElem (by omega)⟩
  obtain ⟨x0, e0⟩ := e 0 (by omega)
  obtain ⟨x1, e1⟩ := e 1 (by omega)
  obtain ⟨x2, e2⟩ := e 2 (by omega)
  obtain ⟨x3, e3⟩ := e 3 (by omega)
  have h0 := hx 0 _ rfl
  have h1 := hx 1 _ rfl
  have h2 := hx 2 _ rfl
  have h3 := hx 3 _ rfl
  rw [e0] at h0; rw [e1] at h1; rw [e2] at h2; rw [e3] at h3
  have z : ∀ {i : Nat} {f : Field} {y : DataW H × List MemPlace}, _ → xs[i]? = some y → WOk Try.prog f.type y.1 := fun {i f y} hf hy => WOk.agg Try.underlying30 hz (i := i) (f := f) hf (by rw [List.getElem?_map, hy]; rfl)
  have z2 : WOk Try.prog 9 x2.1 := z (i := 2) rfl e2
  have z3 : WOk Try.prog 9 x3.1 := z (i := 3) rfl e3
  obtain ⟨a, ha, -, -⟩ := DataW.trod_int Try.underlying3 h0
  obtain ⟨b, hb, -, wb⟩ := DataW.trod_int Try.underlying3 h1
  obtain ⟨s, hs, hs2, -⟩ := DataW.trod_string Try.underlying9 h2
  obtain ⟨t, ht, ht2, -⟩ := DataW.trod_string Try.underlying9 h3
  have ci : Try.prog.cellsOf 3 = 1 := by kernel_rfl
  have cS : Try.prog.cellsOf 9 = 1 := by kernel_rfl
  have t0 : cs[0]? = some (.int .i64 a) := take1 (by rw [← ci]; exact ha)
  have t1 : cs[1]? = some (.int .i64 b) := take1 (by rw [← ci]; exact hb)
  have t2 : cs[2]? = some (.string s) := take1 (by rw [← cS]; exact hs)
  have t3 : cs[3]? = some (.string t) := take1 (by rw [← cS]; exact ht)
  have sz : ∀ {u : ByteArray} {y : DataW H}, y = .lit (.string u.data.toList) → WOk Try.prog 9 y → u.size ≤ 140737488355328 := fun {u y} hy hw => by
    rw [hy] at hw
    have := hw.string
    rw [Array.length_toList] at this
    exact reach_le this
  refine ⟨⟨a, b, s, t⟩, ?_, sz (congrArg Prod.fst hs2) z2, sz (congrArg Prod.fst ht2) z3, ?_⟩
  · refine List.ext_getElem? fun i => ?_
    match i with
    | 0 => exact t0
    | 1 => exact t1
    | 2 => exact t2
    | 3 => exact t3
    | i + 4 => rw [List.getElem?_eq_none (by omega), List.getElem?_eq_none (by simp [stpC])]
  · simp [Lit.wf, IntKind.min, IntKind.max, IntKind.bits, IntKind.signed] at wb
    exact wb
set_option maxRecDepth 100000 in
/-- A script that comes in. -/
theorem open_steps {b0 : Nat} {r : Reach} {v : Value} {d : DataW H} {p : List MemPlace} (hval : Value.okWide Try.prog W r b0 22 v) (h : DataW.Trod enc Try.prog W base (fun _ => true) held 22 v d p) :
    (∀ n ∈ d.weights Try.prog 22, n ≤ reachBytes) → ∃ l, IsSteps W v l := by
  intro hz
  obtain ⟨a, len, cap, rfl⟩ := okWide_slice Try.underlying22 hval
  obtain ⟨fuel, hf⟩ := h
  obtain ⟨sp, len', cap', hv, hl, hc, n, elems, rest, -, hx, hlen, hel⟩ := open_sl2 4 (by omega) Try.underlying22 (by kernel_rfl) hf
  injection hv with e1 e2 e3
  subst e1; subst e2; subst e3
  have key : ∀ i, i < len → ∃ s : Stp, (s.key.size ≤ 140737488355328 ∧ s.fin.size ≤ 140737488355328 ∧ (-9223372036854775808 ≤ s.n ∧ s.n ≤ 9223372036854775807)) ∧ ∃ b o, a = some ⟨b, o, none⟩ ∧ b < W.heap.size ∧ W.rangeAt b (o + i * 4) (stpC s) := by
    intro i hi
    obtain ⟨b, o, cs, y, hsp, hb, hcl, hat, hy, ht⟩ := hel i hi
    have hw : WOk Try.prog 30 y.1 := by
      rcases hx with hx | ⟨-, rfl⟩
      · have hz' : WOk Try.prog 22 d := hz
        simp only at hx
        rw [hx] at hz'
        exact (hz'.slice Try.underlying22).2 _ (List.mem_map.2 ⟨y, List.mem_of_getElem? hy, rfl⟩)
      · simp at hy
    obtain ⟨s, hs, h1⟩ := open_stp ht hw
    exact ⟨s, h1, b, o, hsp, hb, hs ▸ hat⟩
  have : Inhabited Stp := ⟨noStp⟩
  obtain ⟨f, hf2⟩ := Deep.choose_lt key
  have hget : ∀ k, k < len → ((List.range len).map f).getD k noStp = f k := fun k hk => by simp [hk]
  refine ⟨(List.range len).map f, a, cap, by simp, by simpa using hl, hc, fun j hj => ?_, fun h0 => ?_⟩
  · rw [hget j (by simpa using hj)]; exact (hf2 j (by simpa using hj)).1
  · obtain ⟨-, b, o, ha, hb, -⟩ := hf2 0 (by simpa using h0)
    refine ⟨b, o, ha, hb, fun j hj => ?_⟩
    rw [hget j (by simpa using hj)]
    obtain ⟨-, b', o', ha', -, hr⟩ := hf2 j (by simpa using hj)
    rw [ha] at ha'
    injection ha' with ha'
    injection ha' with e1 e2 _
    subst e1; subst e2
    exact hr
end
end K
end Go.Proofs.Ytilmfnlaenneeaa
