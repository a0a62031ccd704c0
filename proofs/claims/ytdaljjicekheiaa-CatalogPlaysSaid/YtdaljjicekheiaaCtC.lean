/- The catalog: Copy. -/
import Derived.Test.YtdaljjicekheiaaCatM
import Derived.Test.YtdaljjicekheiaaCatI
import Derived.Test.YtdaljjicekheiaaKl
import Derived.Test.YtdaljjicekheiaaKq
import Derived.Test.YtdaljjicekheiaaCrA
namespace Go.Proofs.Ytdaljjicekheiaa
open Go.RowKit Go.Maps
namespace Cr
open K Cat
set_option maxHeartbeats 1000000 in
theorem mclone_any {w : World} {b : Nat} {es : Array MapEntry} {clock : Nat} (hb : w.heap[b]? = some (.map es clock)) :
    Calls Try.prog 27 #[.map (some b)] w fun e w' => e = .returned (.map (some w.heap.size)) ∧ w' = w.alloc (.map es clock) := by
  have hq := fun w => run_eql_map_nil_sl (P := Try.prog) w 66 _ _ (some b) Try.underlying66
  go_enter Try.func27, Try.ntmps27
  go_wp2
  rw [run_callFunc_extern Try.func29 (by kernel_rfl) (by kernel_rfl) (by kernel_rfl) (e := Extern.MapsClone.clone) (by kernel_rfl), run_maps_clone_sl _ 66 hb]
  simp only [Result.andThen]
  rw [Oper.upon_value]
  go_wp2
  rw [run_typeAssert_map_sl _ 66 _ _ _ _ Try.underlying66]
  simp only [Result.andThen]
  rw [Oper.upon_value]
  go_wp2
  go_ret
  exact ⟨rfl, rfl⟩
theorem OwnV.within {e : TypeId} {m : Nat} {w : World} {O : Nat → Prop} {v : Value} {n : Nat} {l : List Value} (h : OwnV e m w O v n l) : OwnV e m w (fun b => O b ∧ b < w.heap.size) v n l := ⟨h.1, h.2.1, fun g hg => ⟨h.own hg, h.lt hg⟩⟩
theorem Tabs.within {eT eF : TypeId} {w : World} {O : Nat → Prop} {tv : Value} {L : List Tb} (h : Tabs eT eF w O tv L) : Tabs eT eF w (fun b => O b ∧ b < w.heap.size) tv L := by
  obtain ⟨cells, h1, h2⟩ := h
  exact ⟨cells, OwnV.within h1, fun i hi => ⟨(h2 i hi).1, (h2 i hi).2.1, (h2 i hi).2.2.1, OwnV.within (h2 i hi).2.2.2⟩⟩
theorem Tabs.mono {eT eF : TypeId} {w : World} {O O' : Nat → Prop} {tv : Value} {L : List Tb} (h : Tabs eT eF w O tv L) (hO : ∀ b, O b → O' b) : Tabs eT eF w O' tv L := by
  obtain ⟨cells, h1, h2⟩ := h
  exact ⟨cells, h1.mono hO, fun i hi => (h2 i hi).mono hO⟩
abbrev ctT : Nat := 69
theorem builtCt (sp : Option Addr) (m cap : Nat) (dr : Int) (mb : Nat) : Try.prog.built ctT [(0, .slice sp m cap), (1, .int .u64 dr), (2, .map (some mb))] = some [.slice sp m cap, .int .u64 dr, .map (some mb)].toArray := by kernel_rfl
theorem ccopy_any {w : World} {c n : Nat} {O : Nat → Prop} {L : List Tb} (h0 : IsCat w c O n L) : Calls Try.prog 20 #[.pointer (some ⟨c, 0, none⟩)] w fun e w' => ∃ c' O', e = .returned (.pointer (some ⟨c', 0, none⟩)) ∧ IsCat w' c' O' n L ∧ Below w.heap.size w w' ∧ ∀ b, O' b → w.heap.size ≤ b := by
  obtain ⟨tv, dr, mb, hv, hOc, hOm, hO, hT, hB, hM, hG⟩ := id h0
  have k1 := hv.cell 1 (by simp)
  have k2 := hv.cell 2 (by simp)
  simp only [List.getD_cons_succ, List.getD_cons_zero] at k1 k2
  have hlt := hO _ hOc
  refine enter (args := [.pointer (some ⟨c, 0, none⟩)]) Try.func20 rfl Try.ntmps20 rfl ?_
  repeat (first | ((with_reducible refine WL.topT ?_ ?_); omega) | ((with_reducible refine WL.topF ?_ ?_); omega) | ((with_reducible refine WL.top64 ?_ ?_); omega) | refine WC.seq ?_ | refine WC.block ?_ | refine WC.region ?_ | refine WL.nil ?_ | refine WC.skip ?_ | refine WC.exit ?_ | refine WC.ret ?_ | refine WQ.then rfl ?_ | refine WQ.thenExit ?_ | refine WQ.thenRet ?_ | refine WQ.blk ?_ | refine WQ.blkRet ?_ | refine WQ.blkHere rfl ?_ | refine WQ.blkOther rfl ?_ | refine WL.pure rfl rfl rfl rfl ?_ | refine WL.on rfl rfl ?_ | refine WL.off rfl rfl rfl ?_ | refine WC.condTrue rfl ?_ | refine WC.condFalse rfl ?_)
  refine WL.nilP rfl rfl rfl rfl rfl rfl (by kernel_rfl) ?_
  repeat (first | ((with_reducible refine WL.topT ?_ ?_); omega) | ((with_reducible refine WL.topF ?_ ?_); omega) | ((with_reducible refine WL.top64 ?_ ?_); omega) | refine WC.seq ?_ | refine WC.block ?_ | refine WC.region ?_ | refine WL.nil ?_ | refine WC.skip ?_ | refine WC.exit ?_ | refine WC.ret ?_ | refine WQ.then rfl ?_ | refine WQ.thenExit ?_ | refine WQ.thenRet ?_ | refine WQ.blk ?_ | refine WQ.blkRet ?_ | refine WQ.blkHere rfl ?_ | refine WQ.blkOther rfl ?_ | refine WL.pure rfl rfl rfl rfl ?_ | refine WL.on rfl rfl ?_ | refine WL.off rfl rfl rfl ?_ | refine WC.condTrue rfl ?_ | refine WC.condFalse rfl ?_)
  refine WC.drawn 11 (fun wx => Below w.heap.size w wx) fun w1 hd => ?_
  have hS : Below w.heap.size w w1 := hd.below _
  (((first | refine WD.free 0 rfl (by kernel_rfl) rfl rfl (fun _ _ _ _ _ h => h) rfl rfl (.inr hS) ?_ | refine WD.skip 0 rfl (by kernel_rfl) rfl rfl (fun _ _ _ _ _ h => h) rfl (.inr hS) ?_); try (first | ((with_reducible refine WD.topT ?_ ?_); omega) | ((with_reducible refine WD.topF ?_ ?_); omega) | ((with_reducible refine WD.top64 ?_ ?_); omega))); ((first | refine WD.free 2 rfl (by kernel_rfl) rfl rfl (fun _ _ _ _ _ h => h) rfl rfl (.inr hS) ?_ | refine WD.skip 2 rfl (by kernel_rfl) rfl rfl (fun _ _ _ _ _ h => h) rfl (.inr hS) ?_); try (first | ((with_reducible refine WD.topT ?_ ?_); omega) | ((with_reducible refine WD.topF ?_ ?_); omega) | ((with_reducible refine WD.top64 ?_ ?_); omega))); ((first | refine WD.free 3 rfl (by kernel_rfl) rfl rfl (fun _ _ _ _ _ h => h) rfl rfl (.inr hS) ?_ | refine WD.skip 3 rfl (by kernel_rfl) rfl rfl (fun _ _ _ _ _ h => h) rfl (.inr hS) ?_); try (first | ((with_reducible refine WD.topT ?_ ?_); omega) | ((with_reducible refine WD.topF ?_ ?_); omega) | ((with_reducible refine WD.top64 ?_ ?_); omega))); ((first | refine WD.free 4 rfl (by kernel_rfl) rfl rfl (fun _ _ _ _ _ h => h) rfl rfl (.inr hS) ?_ | refine WD.skip 4 rfl (by kernel_rfl) rfl rfl (fun _ _ _ _ _ h => h) rfl (.inr hS) ?_); try (first | ((with_reducible refine WD.topT ?_ ?_); omega) | ((with_reducible refine WD.topF ?_ ?_); omega) | ((with_reducible refine WD.top64 ?_ ?_); omega))); ((first | refine WD.free 6 rfl (by kernel_rfl) rfl rfl (fun _ _ _ _ _ h => h) rfl rfl (.inr hS) ?_ | refine WD.skip 6 rfl (by kernel_rfl) rfl rfl (fun _ _ _ _ _ h => h) rfl (.inr hS) ?_); try (first | ((with_reducible refine WD.topT ?_ ?_); omega) | ((with_reducible refine WD.topF ?_ ?_); omega) | ((with_reducible refine WD.top64 ?_ ?_); omega))); ((first | refine WD.free 7 rfl (by kernel_rfl) rfl rfl (fun _ _ _ _ _ h => h) rfl rfl (.inr hS) ?_ | refine WD.skip 7 rfl (by kernel_rfl) rfl rfl (fun _ _ _ _ _ h => h) rfl (.inr hS) ?_); try (first | ((with_reducible refine WD.topT ?_ ?_); omega) | ((with_reducible refine WD.topF ?_ ?_); omega) | ((with_reducible refine WD.top64 ?_ ?_); omega))); ((first | refine WD.free 8 rfl (by kernel_rfl) rfl rfl (fun _ _ _ _ _ h => h) rfl rfl (.inr hS) ?_ | refine WD.skip 8 rfl (by kernel_rfl) rfl rfl (fun _ _ _ _ _ h => h) rfl (.inr hS) ?_); try (first | ((with_reducible refine WD.topT ?_ ?_); omega) | ((with_reducible refine WD.topF ?_ ?_); omega) | ((with_reducible refine WD.top64 ?_ ?_); omega))))
  refine WD.load 5 [11] rfl (by kernel_rfl) rfl rfl (fun _ _ _ _ _ h => h) rfl rfl rfl rfl (fun wx hx => (hx.cell (p := ⟨c, 1, none⟩) hlt).trans k1) hS ?_
  refine WD.load 9 [10, 11] rfl (by kernel_rfl) rfl rfl (fun _ _ _ _ _ h => h) rfl rfl rfl rfl (fun wx hx => (hx.cell (p := ⟨c, 2, none⟩) hlt).trans k2) hS ?_
  refine WD.one 1 (by kernel_rfl) rfl ?_
  refine WL.call rfl rfl rfl rfl rfl Try.func11 rfl (by kernel_rfl) (all_any (h0.below hS (Nat.le_refl _))) ?_
  rintro _ w2 ⟨sp, cap, rfl, hT2, b2⟩
  refine ⟨_, rfl, ?_⟩
  have c2 := hS.trans (b2.mono hS.size)
  refine WL.nil (WQ.dk (.inr c2) ?_)
  obtain ⟨es, clock, hm, hM3⟩ := K.MF.clone (hM.below c2 (hO _ hOm))
  refine WD.one 10 (by kernel_rfl) rfl ?_
  refine WL.call rfl rfl rfl rfl rfl Try.func27 rfl (by kernel_rfl) (mclone_any hm) ?_
  rintro _ w3 ⟨rfl, e3⟩
  refine ⟨_, rfl, ?_⟩
  have b3 : Below w2.heap.size w2 w3 := e3 ▸ (Below.refl _ _).alloc (Nat.le_refl _) _
  have c3 := c2.trans (b3.mono c2.size)
  have z3 : w3.heap.size = w2.heap.size + 1 := by rw [e3]; show (w2.heap.push _).size = _; simp
  rw [← e3] at hM3
  refine WL.nil (WQ.dk (.inr c3) ?_)
  refine WD.one 11 (by kernel_rfl) rfl ?_
  refine WL.build [.slice sp L.length cap, .int .u64 (dr : Nat), .map (some w2.heap.size)] rfl rfl rfl rfl rfl (builtCt _ _ _ _ _) ?_
  refine WL.nil (WQ.dk (.inl rfl) ?_)
  refine WD.one 12 (by kernel_rfl) rfl ?_
  refine WL.box rfl rfl rfl rfl rfl fun g w4 f4 => ?_
  refine WL.nil (WQ.dk (.inl rfl) ?_)
  (((first | refine WD.free 13 rfl (by kernel_rfl) rfl rfl (fun _ _ _ _ _ h => h) rfl rfl (.inl rfl) ?_ | refine WD.skip 13 rfl (by kernel_rfl) rfl rfl (fun _ _ _ _ _ h => h) rfl (.inl rfl) ?_); try (first | ((with_reducible refine WD.topT ?_ ?_); omega) | ((with_reducible refine WD.topF ?_ ?_); omega) | ((with_reducible refine WD.top64 ?_ ?_); omega))))
  refine WD.done (by kernel_rfl) ?_
  have c4 := c3.trans (f4.below.mono c3.size)
  have v4 : VBlk ctT w4 g [.slice sp L.length cap, .int .u64 (dr : Nat), .map (some w2.heap.size)] := f4.blk
  have e4 := f4.eq
  have hz1 := hS.size
  have hz2 := b2.size
  have hz4 := f4.size
  have hT4 : Tabs 45 62 w4 (fun b => w.heap.size ≤ b ∧ b < w4.heap.size) (.slice sp L.length cap) L :=
    Cr.Tabs.mono (Cat.Tabs.keep (Cr.Tabs.within hT2) (Keep.of_below (b3.trans (f4.below.mono b3.size))) fun b hb => hb.2) fun b (hb : w1.heap.size ≤ b ∧ b < w2.heap.size) => ⟨by omega, by omega⟩
  have hM4 := hM3.below f4.below (by omega)
  have k2' := v4.cell 2 (by simp)
  simp only [List.getD_cons_succ, List.getD_cons_zero] at k2'
  repeat (first | ((with_reducible refine WL.topT ?_ ?_); omega) | ((with_reducible refine WL.topF ?_ ?_); omega) | ((with_reducible refine WL.top64 ?_ ?_); omega) | refine WC.seq ?_ | refine WC.block ?_ | refine WC.region ?_ | refine WL.nil ?_ | refine WC.skip ?_ | refine WC.exit ?_ | refine WC.ret ?_ | refine WQ.then rfl ?_ | refine WQ.thenExit ?_ | refine WQ.thenRet ?_ | refine WQ.blk ?_ | refine WQ.blkRet ?_ | refine WQ.blkHere rfl ?_ | refine WQ.blkOther rfl ?_ | refine WL.pure rfl rfl rfl rfl ?_ | refine WL.on rfl rfl ?_ | refine WL.off rfl rfl rfl ?_ | refine WL.load rfl rfl rfl rfl rfl rfl (by assumption) ?_ | refine WC.condTrue rfl ?_ | refine WC.condFalse rfl ?_)
  refine WL.nilM Try.underlying66 rfl rfl rfl rfl rfl ?_
  repeat (first | ((with_reducible refine WL.topT ?_ ?_); omega) | ((with_reducible refine WL.topF ?_ ?_); omega) | ((with_reducible refine WL.top64 ?_ ?_); omega) | refine WC.seq ?_ | refine WC.block ?_ | refine WC.region ?_ | refine WL.nil ?_ | refine WC.skip ?_ | refine WC.exit ?_ | refine WC.ret ?_ | refine WQ.then rfl ?_ | refine WQ.thenExit ?_ | refine WQ.thenRet ?_ | refine WQ.blk ?_ | refine WQ.blkRet ?_ | refine WQ.blkHere rfl ?_ | refine WQ.blkOther rfl ?_ | refine WL.pure rfl rfl rfl rfl ?_ | refine WL.on rfl rfl ?_ | refine WL.off rfl rfl rfl ?_ | refine WC.condTrue rfl ?_ | refine WC.condFalse rfl ?_)
  exact WQ.ret1 rfl rfl ⟨g, fun b => w.heap.size ≤ b ∧ b < w4.heap.size, rfl, ⟨_, dr, _, v4, ⟨by omega, by omega⟩, ⟨by omega, by omega⟩, fun b hb => hb.2, hT4, hB, hM4, hG⟩, c4, fun b hb => hb.1⟩
end Cr
end Go.Proofs.Ytdaljjicekheiaa
