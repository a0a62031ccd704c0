/-
  For every script and every three texts the law TreeSplits answers true, and the arguments read as they did. No condition.
-/
import Derived.Test.YtilmfnlaenneeaaZLawTreNo6
import Derived.ChangeMaps5
/- The law TreeSplits: walked. Printed by gen_treesl.py. -/
namespace Go.Proofs.Ytilmfnlaenneeaa
open Go.RowKit
namespace K
open Tre
/-- What is up to a middle text, and then from that on. -/
theorem flt_split {a m z : Ky} (hma : kl m a = false) (hz : isE z = true ∨ kl z m = false) (hm : isE m = false) : ∀ {L : List KV}, Srt L → flt a m L ++ flt m z L = flt a z L
  | [], _ => rfl
  | e :: r, hs => by
    have ih := flt_split hma hz hm (L := r) (List.pairwise_cons.1 hs).2
    have hcons : ∀ f t, flt f t (e :: r) = if inR f t e then e :: flt f t r else flt f t r := fun f t => by unfold flt; rw [List.filter_cons]
    cases hem : kl e.1 m with
    | true =>
      have h1 : inR m z e = false := by unfold inR; rw [hem]; rfl
      have h2 : inR a m e = inR a z e := by
        unfold inR
        rw [hem, hm]
        have : (isE z || kl e.1 z) = true := by
          rcases hz with h | h
          · rw [h]; rfl
          · rw [kl_lt_le hem h]; simp
        rw [this]; rfl
      rw [hcons a m, hcons m z, hcons a z, h1, h2, ← ih]
      cases inR a z e <;> simp
    | false =>
      have hall : ∀ x ∈ e :: r, kl x.1 m = false := fun x hx => by
        rcases List.mem_cons.1 hx with rfl | hx
        · exact hem
        · exact kl_le_le hem (kl_asymm ((List.pairwise_cons.1 hs).1 x hx))
      have h1 : flt a m (e :: r) = [] := by
        unfold flt
        rw [List.filter_eq_nil_iff]
        intro x hx
        unfold inR
        rw [hm, hall x hx]
        simp
      rw [h1, List.nil_append]
      unfold flt
      refine List.filter_congr fun x hx => ?_
      unfold inR
      rw [hall x hx, kl_le_le hma (hall x hx)]
theorem elemS : ElemV Try.prog 31 9 1 16 := ElemV.mk' (z := .string ByteArray.empty) Try.underlying31 (by kernel_rfl) rfl (by omega)
abbrev slS : Nat := 31
abbrev stS : Nat := 9
def noKy : Ky := ByteArray.empty
def PS1 (x : Ky) (cs : List Value) : Prop := cs = [.string x]
/-- A row of texts in a box. -/
def Txts (O : Nat → Prop) (W : World) (g : Nat) (l : List Ky) : Prop := ∃ v, VBlk slS W g [v] ∧ OwnE stS 1 noKy PS1 O W v l
theorem Txts.stays {O : Nat → Prop} {B g : Nat} {W W' : World} {l : List Ky} (h : Txts O W g l) (hk : Keep (Stays B W) W W') : Txts O W' g l := by
  obtain ⟨v, h1, h2⟩ := h
  exact ⟨v, VBlk.keep h1 hk (.inr (VBlk.isC h1)), h2.keep hk (fun q hq => .inr (by obtain ⟨c, x, e⟩ := h2.isC hq; exact ⟨c, _, x, e⟩)) (fun _ h => h) (fun _ _ h => h)⟩
theorem Txts.below {O : Nat → Prop} {g : Nat} {W W' : World} {l : List Ky} (h : Txts O W g l) (hk : Below W.heap.size W W') : Txts O W' g l := by
  obtain ⟨v, h1, h2⟩ := h
  exact ⟨v, VBlk.below h1 hk (VBlk.lt h1), h2.keep (Keep.of_below hk) (fun q hq => h2.lt hq) (fun _ h => h) (fun _ _ h => h)⟩
theorem Txts.fix {O : Nat → Prop} {g : Nat} {W : World} {l : List Ky} (h : Txts O W g l) : Txts (fun b => O b ∧ b < W.heap.size) W g l := by
  obtain ⟨v, h1, kcs, h2, h3, h4⟩ := h
  exact ⟨v, h1, kcs, h2, h3, h4.1, h4.2.1, fun q hq => ⟨h4.2.2 q hq, h4.lt hq⟩⟩
theorem Txts.keep {O : Nat → Prop} {T' g gb : Nat} {W W' : World} {l : List Ky} (h : Txts O W g l) (hk : Keep (fun b => b < T' ∧ b ≠ gb) W W') (hO : ∀ b, O b → b < T' ∧ b ≠ gb) (hg : g < T' ∧ g ≠ gb) : Txts O W' g l := by
  obtain ⟨v, h1, h2⟩ := h
  exact ⟨v, VBlk.keep h1 hk hg, h2.keep hk (fun q hq => hO q (h2.own hq)) (fun _ h => h) (fun _ _ h => h)⟩
/-- What a collecting loop's rounds keep. -/
def ColI (T gb : Nat) (Ds : List Nat) (w : World) (base : List Ky) (pre : List KV) (W : World) : Prop := Keep (fun b => b < T ∧ b ≠ gb) w W ∧ MarkAt W Ds ∧ Txts (fun b => T ≤ b) W gb (base ++ pre.map Prod.fst)
theorem ColI.own {T gb : Nat} {Ds : List Nat} {w : World} {base : List Ky} (hT : T ≤ w.heap.size) (hm : MarkAt w Ds) : OwnFrom w.heap.size (ColI T gb Ds w base) := by
  refine own_stays fun pre W W' h hk => ?_
  obtain ⟨h1, h2, h3⟩ := h
  have hz := h1.size
  exact ⟨h1.trans (hk.mono fun b hb => .inl ⟨by omega, by omega⟩), h2.keep hk (fun D hD => .inl ⟨hm.lt hD, h2.lt hD⟩), h3.stays hk⟩
theorem ColI.step {T gb B : Nat} {Ds : List Nat} {w W W1 W2 : World} {base : List Ky} {pre : List KV} {x : KV} {v v' : Value} {g1 : Nat} (h1 : Keep (fun b => b < T ∧ b ≠ gb) w W) (h2 : MarkAt W Ds) (hv : VBlk slS W gb [v]) (ho : OwnE stS 1 noKy PS1 (fun b => T ≤ b) W v (base ++ pre.map Prod.fst))
    (hT : T ≤ w.heap.size) (hgb : gb < T) (hf : Fresh W g1 W1 stS [.string x.1]) (ho2 : OwnE stS 1 noKy PS1 (fun b => T ≤ b ∨ b = W1.heap.size) W2 v' ((base ++ pre.map Prod.fst) ++ [x.1])) (hg : Grow W1 v W2 v') :
    KeepsFrom B W (W2.setCell ⟨gb, 0, none⟩ v') ∧ KpT pairT W (W2.setCell ⟨gb, 0, none⟩ v') ∧ ColI T gb Ds w base (pre ++ [x]) (W2.setCell ⟨gb, 0, none⟩ v') := by
  have hz := h1.size
  have hz1 := hf.size
  have hogb : ∀ q, v.ownBlock = some q → q ≠ gb := fun q hq => by have := ho.own hq; omega
  have k2 : Keep (fun b => b < W.heap.size ∧ v.ownBlock ≠ some b) W W2 := ((Keep.of_below hf.below).mono fun b h => h.1).trans (hg.1.mono fun b h => ⟨by omega, h.2⟩)
  have k3 : Keep (fun b => b < W.heap.size ∧ v.ownBlock ≠ some b ∧ b ≠ gb) W (W2.setCell ⟨gb, 0, none⟩ v') := (k2.mono fun b h => ⟨h.1, h.2.1⟩).setCell (p := ⟨gb, 0, none⟩) (by simp) _
  have hvg2 : VBlk slS W2 gb [v] := VBlk.keep hv k2 ⟨VBlk.lt hv, fun e => hogb gb e rfl⟩
  have hvn := VBlk.set hvg2 0 v'
  have hmk : ∀ b o, W.heap[b]? = some o → o.isCells = false → b < W.heap.size ∧ v.ownBlock ≠ some b ∧ b ≠ gb := fun b o hb hc => by
    refine ⟨(Array.getElem?_eq_some_iff.1 hb).1, fun e => ?_, fun e => ?_⟩
    · obtain ⟨c, y, e2⟩ := ho.isC e
      rw [hb] at e2
      obtain rfl := Option.some.inj e2
      cases hc
    · obtain ⟨_, _, _, e2⟩ := VBlk.isC hv
      rw [← e, hb] at e2
      obtain rfl := Option.some.inj e2
      cases hc
  have hnb : ∀ q, v'.ownBlock = some q → q ≠ gb := fun q hq => by
    rcases ho2.own hq with h | h
    · omega
    · omega
  refine ⟨keepsFrom k3 fun b o _ hb hc => hmk b o hb hc, KpT.keep k3 fun b cur y hb => ⟨(Array.getElem?_eq_some_iff.1 hb).1, fun e => ?_, fun e => ?_⟩, ?_, ?_, v', hvn, ?_⟩
  · obtain ⟨c, y', e2⟩ := ho.isC e
    rw [hb] at e2
    injection e2 with e2
    injection e2 with _ e2 _
    exact absurd e2 (by decide)
  · have e2 : W.heap[gb]? = some (.cells [v].toArray slS (0, 0)) := hv
    rw [← e, hb] at e2
    injection e2 with e2
    injection e2 with _ e2 _
    exact absurd e2 (by decide)
  · exact h1.trans (k3.mono fun b h => ⟨by omega, fun e => by have := ho.own e; omega, h.2⟩)
  · exact h2.keep k3 fun D hD => hmk D _ (h2.2 D hD) rfl
  · rw [List.map_append, ← List.append_assoc]
    refine ho2.keep ((Keep.refl (fun b => b ≠ gb) W2).setCell (p := ⟨gb, 0, none⟩) (by simp) _) (fun q hq => hnb q hq) (fun b hb => ?_) (fun _ _ h => h)
    rcases hb with h | h
    · exact h
    · omega
set_option maxRecDepth 40000 in
set_option maxHeartbeats 8000000 in
theorem splits_law {w : World} {v : Value} {l : List Stp} (h : IsSteps w v l) (a m z : Ky) (ha : a.size ≤ 140737488355328) (hm : m.size ≤ 140737488355328) (hz : z.size ≤ 140737488355328) :
    Calls Try.prog 3 #[v, .string a, .string m, .string z] w fun e w' => e = .returned (.bool true) ∧ Below w.heap.size w w' := by
  obtain ⟨sp, cap, rfl, hc1, hc2, hsz, hrow⟩ := id h
  refine enterM (args := [.slice sp l.length cap, .string a, .string m, .string z]) Try.func3 rfl Try.ntmps3 rfl ?_
  refine WC.seq ?_
  refine WC.region ?_
  refine WL.pure rfl rfl rfl rfl ?_
  refine WL.nil ?_
  refine WQ.then rfl ?_
  refine WC.seq ?_
  refine WC.seq ?_
  refine WC.mid (fun b : Bool => [(0, .slice sp l.length cap), (1, .string a), (2, .string m), (3, .string z), (8, .bool false), (49, .bool b)])
    (fun b w' => Below w.heap.size w w' ∧ (b = false → kl m a = false ∧ (isE z = true ∨ kl z m = false) ∧ isE m = false)) rfl ?_ ?_
  · repeat (first | ((with_reducible refine WL.topT ?_ ?_); omega) | ((with_reducible refine WL.topF ?_ ?_); omega) | ((with_reducible refine WL.top64 ?_ ?_); omega) | refine WC.seq ?_ | refine WC.block ?_ | refine WC.region ?_ | refine WL.nil ?_ | refine WC.skip ?_ | refine WC.exit ?_ | refine WC.ret ?_ | refine WQ.then rfl ?_ | refine WQ.thenExit ?_ | refine WQ.thenRet ?_ | refine WQ.blk ?_ | refine WQ.blkRet ?_ | refine WQ.blkHere rfl ?_ | refine WQ.blkOther rfl ?_ | refine WL.pure rfl rfl rfl rfl ?_ | refine WL.on rfl rfl ?_ | refine WL.off rfl rfl rfl ?_ | refine WC.condTrue rfl ?_ | refine WC.condFalse rfl ?_)
    refine WL.call rfl rfl rfl rfl rfl Try.func8 rfl (by kernel_rfl) (heavy13_any h) ?_
    rintro _ w1 ⟨hv, rfl, hb1⟩
    refine ⟨_, rfl, ?_⟩
    have bad : ∀ {L : Env}, Sub L [(0, .slice sp l.length cap), (1, .string a), (2, .string m), (3, .string z), (8, .bool false), (49, .bool true)] → True := fun _ => trivial
    clear bad
    cases hv with
    | true =>
      repeat (first | ((with_reducible refine WL.topT ?_ ?_); omega) | ((with_reducible refine WL.topF ?_ ?_); omega) | ((with_reducible refine WL.top64 ?_ ?_); omega) | refine WC.seq ?_ | refine WC.block ?_ | refine WC.region ?_ | refine WL.nil ?_ | refine WC.skip ?_ | refine WC.exit ?_ | refine WC.ret ?_ | refine WQ.then rfl ?_ | refine WQ.thenExit ?_ | refine WQ.thenRet ?_ | refine WQ.blk ?_ | refine WQ.blkRet ?_ | refine WQ.blkHere rfl ?_ | refine WQ.blkOther rfl ?_ | refine WL.pure rfl rfl rfl rfl ?_ | refine WL.on rfl rfl ?_ | refine WL.off rfl rfl rfl ?_ | refine WC.condTrue rfl ?_ | refine WC.condFalse rfl ?_)
      exact WQ.meet true ⟨rfl, rfl, rfl, rfl, rfl, rfl, trivial⟩ ⟨hb1, fun h => by cases h⟩
    | false =>
    by_cases hln : 1000 < a.size + m.size + z.size
    · repeat (first | ((with_reducible refine WL.topT ?_ ?_); omega) | ((with_reducible refine WL.topF ?_ ?_); omega) | ((with_reducible refine WL.top64 ?_ ?_); omega) | refine WC.seq ?_ | refine WC.block ?_ | refine WC.region ?_ | refine WL.nil ?_ | refine WC.skip ?_ | refine WC.exit ?_ | refine WC.ret ?_ | refine WQ.then rfl ?_ | refine WQ.thenExit ?_ | refine WQ.thenRet ?_ | refine WQ.blk ?_ | refine WQ.blkRet ?_ | refine WQ.blkHere rfl ?_ | refine WQ.blkOther rfl ?_ | refine WL.pure rfl rfl rfl rfl ?_ | refine WL.on rfl rfl ?_ | refine WL.off rfl rfl rfl ?_ | refine WC.condTrue rfl ?_ | refine WC.condFalse rfl ?_)
      exact WQ.meet true ⟨rfl, rfl, rfl, rfl, rfl, rfl, trivial⟩ ⟨hb1, fun h => by cases h⟩
    repeat (first | ((with_reducible refine WL.topT ?_ ?_); omega) | ((with_reducible refine WL.topF ?_ ?_); omega) | ((with_reducible refine WL.top64 ?_ ?_); omega) | refine WC.seq ?_ | refine WC.block ?_ | refine WC.region ?_ | refine WL.nil ?_ | refine WC.skip ?_ | refine WC.exit ?_ | refine WC.ret ?_ | refine WQ.then rfl ?_ | refine WQ.thenExit ?_ | refine WQ.thenRet ?_ | refine WQ.blk ?_ | refine WQ.blkRet ?_ | refine WQ.blkHere rfl ?_ | refine WQ.blkOther rfl ?_ | refine WL.pure rfl rfl rfl rfl ?_ | refine WL.on rfl rfl ?_ | refine WL.off rfl rfl rfl ?_ | refine WC.condTrue rfl ?_ | refine WC.condFalse rfl ?_)
    cases hma : Op.bytesLess m.toList a.toList with
    | true =>
      repeat (first | ((with_reducible refine WL.topT ?_ ?_); omega) | ((with_reducible refine WL.topF ?_ ?_); omega) | ((with_reducible refine WL.top64 ?_ ?_); omega) | refine WC.seq ?_ | refine WC.block ?_ | refine WC.region ?_ | refine WL.nil ?_ | refine WC.skip ?_ | refine WC.exit ?_ | refine WC.ret ?_ | refine WQ.then rfl ?_ | refine WQ.thenExit ?_ | refine WQ.thenRet ?_ | refine WQ.blk ?_ | refine WQ.blkRet ?_ | refine WQ.blkHere rfl ?_ | refine WQ.blkOther rfl ?_ | refine WL.pure rfl rfl rfl rfl ?_ | refine WL.on rfl rfl ?_ | refine WL.off rfl rfl rfl ?_ | refine WC.condTrue rfl ?_ | refine WC.condFalse rfl ?_)
      exact WQ.meet true ⟨rfl, rfl, rfl, rfl, rfl, rfl, trivial⟩ ⟨hb1, fun h => by cases h⟩
    | false =>
    repeat (first | ((with_reducible refine WL.topT ?_ ?_); omega) | ((with_reducible refine WL.topF ?_ ?_); omega) | ((with_reducible refine WL.top64 ?_ ?_); omega) | refine WC.seq ?_ | refine WC.block ?_ | refine WC.region ?_ | refine WL.nil ?_ | refine WC.skip ?_ | refine WC.exit ?_ | refine WC.ret ?_ | refine WQ.then rfl ?_ | refine WQ.thenExit ?_ | refine WQ.thenRet ?_ | refine WQ.blk ?_ | refine WQ.blkRet ?_ | refine WQ.blkHere rfl ?_ | refine WQ.blkOther rfl ?_ | refine WL.pure rfl rfl rfl rfl ?_ | refine WL.on rfl rfl ?_ | refine WL.off rfl rfl rfl ?_ | refine WC.condTrue rfl ?_ | refine WC.condFalse rfl ?_)
    cases hze : (z.toList == (⟨#[]⟩ : ByteArray).toList) with
    | true =>
      repeat (first | ((with_reducible refine WL.topT ?_ ?_); omega) | ((with_reducible refine WL.topF ?_ ?_); omega) | ((with_reducible refine WL.top64 ?_ ?_); omega) | refine WC.seq ?_ | refine WC.block ?_ | refine WC.region ?_ | refine WL.nil ?_ | refine WC.skip ?_ | refine WC.exit ?_ | refine WC.ret ?_ | refine WQ.then rfl ?_ | refine WQ.thenExit ?_ | refine WQ.thenRet ?_ | refine WQ.blk ?_ | refine WQ.blkRet ?_ | refine WQ.blkHere rfl ?_ | refine WQ.blkOther rfl ?_ | refine WL.pure rfl rfl rfl rfl ?_ | refine WL.on rfl rfl ?_ | refine WL.off rfl rfl rfl ?_ | refine WC.condTrue rfl ?_ | refine WC.condFalse rfl ?_)
      cases hme : (m.toList == (⟨#[]⟩ : ByteArray).toList) with
      | true =>
        repeat (first | ((with_reducible refine WL.topT ?_ ?_); omega) | ((with_reducible refine WL.topF ?_ ?_); omega) | ((with_reducible refine WL.top64 ?_ ?_); omega) | refine WC.seq ?_ | refine WC.block ?_ | refine WC.region ?_ | refine WL.nil ?_ | refine WC.skip ?_ | refine WC.exit ?_ | refine WC.ret ?_ | refine WQ.then rfl ?_ | refine WQ.thenExit ?_ | refine WQ.thenRet ?_ | refine WQ.blk ?_ | refine WQ.blkRet ?_ | refine WQ.blkHere rfl ?_ | refine WQ.blkOther rfl ?_ | refine WL.pure rfl rfl rfl rfl ?_ | refine WL.on rfl rfl ?_ | refine WL.off rfl rfl rfl ?_ | refine WC.condTrue rfl ?_ | refine WC.condFalse rfl ?_)
        exact WQ.meet true ⟨rfl, rfl, rfl, rfl, rfl, rfl, trivial⟩ ⟨hb1, fun h => by cases h⟩
      | false =>
        repeat (first | ((with_reducible refine WL.topT ?_ ?_); omega) | ((with_reducible refine WL.topF ?_ ?_); omega) | ((with_reducible refine WL.top64 ?_ ?_); omega) | refine WC.seq ?_ | refine WC.block ?_ | refine WC.region ?_ | refine WL.nil ?_ | refine WC.skip ?_ | refine WC.exit ?_ | refine WC.ret ?_ | refine WQ.then rfl ?_ | refine WQ.thenExit ?_ | refine WQ.thenRet ?_ | refine WQ.blk ?_ | refine WQ.blkRet ?_ | refine WQ.blkHere rfl ?_ | refine WQ.blkOther rfl ?_ | refine WL.pure rfl rfl rfl rfl ?_ | refine WL.on rfl rfl ?_ | refine WL.off rfl rfl rfl ?_ | refine WC.condTrue rfl ?_ | refine WC.condFalse rfl ?_)
        exact WQ.meet false ⟨rfl, rfl, rfl, rfl, rfl, rfl, trivial⟩ ⟨hb1, fun _ => ⟨hma, .inl hze, hme⟩⟩
    | false =>
      repeat (first | ((with_reducible refine WL.topT ?_ ?_); omega) | ((with_reducible refine WL.topF ?_ ?_); omega) | ((with_reducible refine WL.top64 ?_ ?_); omega) | refine WC.seq ?_ | refine WC.block ?_ | refine WC.region ?_ | refine WL.nil ?_ | refine WC.skip ?_ | refine WC.exit ?_ | refine WC.ret ?_ | refine WQ.then rfl ?_ | refine WQ.thenExit ?_ | refine WQ.thenRet ?_ | refine WQ.blk ?_ | refine WQ.blkRet ?_ | refine WQ.blkHere rfl ?_ | refine WQ.blkOther rfl ?_ | refine WL.pure rfl rfl rfl rfl ?_ | refine WL.on rfl rfl ?_ | refine WL.off rfl rfl rfl ?_ | refine WC.condTrue rfl ?_ | refine WC.condFalse rfl ?_)
      cases hzm : Op.bytesLess z.toList m.toList with
      | true =>
        repeat (first | ((with_reducible refine WL.topT ?_ ?_); omega) | ((with_reducible refine WL.topF ?_ ?_); omega) | ((with_reducible refine WL.top64 ?_ ?_); omega) | refine WC.seq ?_ | refine WC.block ?_ | refine WC.region ?_ | refine WL.nil ?_ | refine WC.skip ?_ | refine WC.exit ?_ | refine WC.ret ?_ | refine WQ.then rfl ?_ | refine WQ.thenExit ?_ | refine WQ.thenRet ?_ | refine WQ.blk ?_ | refine WQ.blkRet ?_ | refine WQ.blkHere rfl ?_ | refine WQ.blkOther rfl ?_ | refine WL.pure rfl rfl rfl rfl ?_ | refine WL.on rfl rfl ?_ | refine WL.off rfl rfl rfl ?_ | refine WC.condTrue rfl ?_ | refine WC.condFalse rfl ?_)
        exact WQ.meet true ⟨rfl, rfl, rfl, rfl, rfl, rfl, trivial⟩ ⟨hb1, fun h => by cases h⟩
      | false =>
        repeat (first | ((with_reducible refine WL.topT ?_ ?_); omega) | ((with_reducible refine WL.topF ?_ ?_); omega) | ((with_reducible refine WL.top64 ?_ ?_); omega) | refine WC.seq ?_ | refine WC.block ?_ | refine WC.region ?_ | refine WL.nil ?_ | refine WC.skip ?_ | refine WC.exit ?_ | refine WC.ret ?_ | refine WQ.then rfl ?_ | refine WQ.thenExit ?_ | refine WQ.thenRet ?_ | refine WQ.blk ?_ | refine WQ.blkRet ?_ | refine WQ.blkHere rfl ?_ | refine WQ.blkOther rfl ?_ | refine WL.pure rfl rfl rfl rfl ?_ | refine WL.on rfl rfl ?_ | refine WL.off rfl rfl rfl ?_ | refine WC.condTrue rfl ?_ | refine WC.condFalse rfl ?_)
        cases hme : (m.toList == (⟨#[]⟩ : ByteArray).toList) with
        | true =>
          repeat (first | ((with_reducible refine WL.topT ?_ ?_); omega) | ((with_reducible refine WL.topF ?_ ?_); omega) | ((with_reducible refine WL.top64 ?_ ?_); omega) | refine WC.seq ?_ | refine WC.block ?_ | refine WC.region ?_ | refine WL.nil ?_ | refine WC.skip ?_ | refine WC.exit ?_ | refine WC.ret ?_ | refine WQ.then rfl ?_ | refine WQ.thenExit ?_ | refine WQ.thenRet ?_ | refine WQ.blk ?_ | refine WQ.blkRet ?_ | refine WQ.blkHere rfl ?_ | refine WQ.blkOther rfl ?_ | refine WL.pure rfl rfl rfl rfl ?_ | refine WL.on rfl rfl ?_ | refine WL.off rfl rfl rfl ?_ | refine WC.condTrue rfl ?_ | refine WC.condFalse rfl ?_)
          exact WQ.meet true ⟨rfl, rfl, rfl, rfl, rfl, rfl, trivial⟩ ⟨hb1, fun h => by cases h⟩
        | false =>
          repeat (first | ((with_reducible refine WL.topT ?_ ?_); omega) | ((with_reducible refine WL.topF ?_ ?_); omega) | ((with_reducible refine WL.top64 ?_ ?_); omega) | refine WC.seq ?_ | refine WC.block ?_ | refine WC.region ?_ | refine WL.nil ?_ | refine WC.skip ?_ | refine WC.exit ?_ | refine WC.ret ?_ | refine WQ.then rfl ?_ | refine WQ.thenExit ?_ | refine WQ.thenRet ?_ | refine WQ.blk ?_ | refine WQ.blkRet ?_ | refine WQ.blkHere rfl ?_ | refine WQ.blkOther rfl ?_ | refine WL.pure rfl rfl rfl rfl ?_ | refine WL.on rfl rfl ?_ | refine WL.off rfl rfl rfl ?_ | refine WC.condTrue rfl ?_ | refine WC.condFalse rfl ?_)
          exact WQ.meet false ⟨rfl, rfl, rfl, rfl, rfl, rfl, trivial⟩ ⟨hb1, fun _ => ⟨hma, .inr hzm, hme⟩⟩
  rintro b w1 ⟨hb1, hbf⟩
  cases b with
  | true =>
    repeat (first | ((with_reducible refine WL.topT ?_ ?_); omega) | ((with_reducible refine WL.topF ?_ ?_); omega) | ((with_reducible refine WL.top64 ?_ ?_); omega) | refine WC.seq ?_ | refine WC.block ?_ | refine WC.region ?_ | refine WL.nil ?_ | refine WC.skip ?_ | refine WC.exit ?_ | refine WC.ret ?_ | refine WQ.then rfl ?_ | refine WQ.thenExit ?_ | refine WQ.thenRet ?_ | refine WQ.blk ?_ | refine WQ.blkRet ?_ | refine WQ.blkHere rfl ?_ | refine WQ.blkOther rfl ?_ | refine WL.pure rfl rfl rfl rfl ?_ | refine WL.on rfl rfl ?_ | refine WL.off rfl rfl rfl ?_ | refine WC.condTrue rfl ?_ | refine WC.condFalse rfl ?_)
    refine WL.call rfl rfl rfl rfl rfl Try.func9 rfl (by kernel_rfl) known13_any ?_
    rintro _ w2 ⟨rfl, hb2⟩
    refine ⟨_, rfl, ?_⟩
    repeat (first | ((with_reducible refine WL.topT ?_ ?_); omega) | ((with_reducible refine WL.topF ?_ ?_); omega) | ((with_reducible refine WL.top64 ?_ ?_); omega) | refine WC.seq ?_ | refine WC.block ?_ | refine WC.region ?_ | refine WL.nil ?_ | refine WC.skip ?_ | refine WC.exit ?_ | refine WC.ret ?_ | refine WQ.then rfl ?_ | refine WQ.thenExit ?_ | refine WQ.thenRet ?_ | refine WQ.blk ?_ | refine WQ.blkRet ?_ | refine WQ.blkHere rfl ?_ | refine WQ.blkOther rfl ?_ | refine WL.pure rfl rfl rfl rfl ?_ | refine WL.on rfl rfl ?_ | refine WL.off rfl rfl rfl ?_ | refine WC.condTrue rfl ?_ | refine WC.condFalse rfl ?_)
    exact WQ.retM1 [] rfl rfl (MarkAt.nil _) ⟨rfl, hb1.trans (hb2.mono hb1.size)⟩
  | false =>
  obtain ⟨hma, hzm, hme⟩ := hbf rfl
  clear hbf
  repeat (first | ((with_reducible refine WL.topT ?_ ?_); omega) | ((with_reducible refine WL.topF ?_ ?_); omega) | ((with_reducible refine WL.top64 ?_ ?_); omega) | refine WC.seq ?_ | refine WC.block ?_ | refine WC.region ?_ | refine WL.nil ?_ | refine WC.skip ?_ | refine WC.exit ?_ | refine WC.ret ?_ | refine WQ.then rfl ?_ | refine WQ.thenExit ?_ | refine WQ.thenRet ?_ | refine WQ.blk ?_ | refine WQ.blkRet ?_ | refine WQ.blkHere rfl ?_ | refine WQ.blkOther rfl ?_ | refine WL.pure rfl rfl rfl rfl ?_ | refine WL.on rfl rfl ?_ | refine WL.off rfl rfl rfl ?_ | refine WC.condTrue rfl ?_ | refine WC.condFalse rfl ?_)
  refine WL.call rfl rfl rfl rfl rfl Try.func10 rfl (by kernel_rfl) tnew_any ?_
  rintro _ w2 ⟨tb, rfl, h2, hb2, ht2⟩
  refine ⟨_, rfl, ?_⟩
  have hbw := hb1.trans (hb2.mono hb1.size)
  have htw : w.heap.size ≤ tb := Nat.le_trans hb1.size ht2
  repeat (first | ((with_reducible refine WL.topT ?_ ?_); omega) | ((with_reducible refine WL.topF ?_ ?_); omega) | ((with_reducible refine WL.top64 ?_ ?_); omega) | refine WC.seq ?_ | refine WC.block ?_ | refine WC.region ?_ | refine WL.nil ?_ | refine WC.skip ?_ | refine WC.exit ?_ | refine WC.ret ?_ | refine WQ.then rfl ?_ | refine WQ.thenExit ?_ | refine WQ.thenRet ?_ | refine WQ.blk ?_ | refine WQ.blkRet ?_ | refine WQ.blkHere rfl ?_ | refine WQ.blkOther rfl ?_ | refine WL.pure rfl rfl rfl rfl ?_ | refine WL.on rfl rfl ?_ | refine WL.off rfl rfl rfl ?_ | refine WC.condTrue rfl ?_ | refine WC.condFalse rfl ?_)
  refine WL.nilP rfl rfl rfl rfl rfl rfl (by kernel_rfl) ?_
  repeat (first | ((with_reducible refine WL.topT ?_ ?_); omega) | ((with_reducible refine WL.topF ?_ ?_); omega) | ((with_reducible refine WL.top64 ?_ ?_); omega) | refine WC.seq ?_ | refine WC.block ?_ | refine WC.region ?_ | refine WL.nil ?_ | refine WC.skip ?_ | refine WC.exit ?_ | refine WC.ret ?_ | refine WQ.then rfl ?_ | refine WQ.thenExit ?_ | refine WQ.thenRet ?_ | refine WQ.blk ?_ | refine WQ.blkRet ?_ | refine WQ.blkHere rfl ?_ | refine WQ.blkOther rfl ?_ | refine WL.pure rfl rfl rfl rfl ?_ | refine WL.on rfl rfl ?_ | refine WL.off rfl rfl rfl ?_ | refine WC.condTrue rfl ?_ | refine WC.condFalse rfl ?_)
  refine WC.loop (fun i : Nat => [(0, .slice sp l.length cap), (1, .string a), (2, .string m), (3, .string z), (8, .bool false), (9, .pointer (some ⟨tb, 0, none⟩)), (10, .int .i64 i)])
    (fun i w' => i ≤ 400 ∧ i ≤ l.length ∧ Below w.heap.size w w' ∧ ∃ st L, IsT w' st tb L ∧ L.length ≤ i ∧ ∀ x, st x ≠ none → w.heap.size ≤ x) (fun i => 400 - i) 0 ⟨rfl, rfl, rfl, rfl, rfl, rfl, rfl, trivial⟩
    ⟨by decide, Nat.zero_le _, hbw, st0, [], h2, Nat.le_refl _, fun x hx => absurd rfl hx⟩ ?_
  clear h2 hb2 hbw hb1
  rintro i wr ⟨hi, hil, hb, st, L, ht, hL, ho⟩
  refine WC.seq ?_
  refine WC.seq ?_
  refine WC.mid (fun b : Bool => [(0, .slice sp l.length cap), (1, .string a), (2, .string m), (3, .string z), (8, .bool false), (9, .pointer (some ⟨tb, 0, none⟩)), (10, .int .i64 i), (61, .bool b)])
    (fun b w' => w' = wr ∧ (b = true → i < l.length ∧ i < 400)) rfl ?_ ?_
  · by_cases h1 : i < l.length
    · by_cases h4 : i < 400
      · repeat (first | ((with_reducible refine WL.topT ?_ ?_); omega) | ((with_reducible refine WL.topF ?_ ?_); omega) | ((with_reducible refine WL.top64 ?_ ?_); omega) | refine WC.seq ?_ | refine WC.block ?_ | refine WC.region ?_ | refine WL.nil ?_ | refine WC.skip ?_ | refine WC.exit ?_ | refine WC.ret ?_ | refine WQ.then rfl ?_ | refine WQ.thenExit ?_ | refine WQ.thenRet ?_ | refine WQ.blk ?_ | refine WQ.blkRet ?_ | refine WQ.blkHere rfl ?_ | refine WQ.blkOther rfl ?_ | refine WL.pure rfl rfl rfl rfl ?_ | refine WL.on rfl rfl ?_ | refine WL.off rfl rfl rfl ?_ | refine WC.condTrue rfl ?_ | refine WC.condFalse rfl ?_)
        exact WQ.meet true ⟨rfl, rfl, rfl, rfl, rfl, rfl, rfl, rfl, trivial⟩ ⟨rfl, fun _ => ⟨h1, h4⟩⟩
      · repeat (first | ((with_reducible refine WL.topT ?_ ?_); omega) | ((with_reducible refine WL.topF ?_ ?_); omega) | ((with_reducible refine WL.top64 ?_ ?_); omega) | refine WC.seq ?_ | refine WC.block ?_ | refine WC.region ?_ | refine WL.nil ?_ | refine WC.skip ?_ | refine WC.exit ?_ | refine WC.ret ?_ | refine WQ.then rfl ?_ | refine WQ.thenExit ?_ | refine WQ.thenRet ?_ | refine WQ.blk ?_ | refine WQ.blkRet ?_ | refine WQ.blkHere rfl ?_ | refine WQ.blkOther rfl ?_ | refine WL.pure rfl rfl rfl rfl ?_ | refine WL.on rfl rfl ?_ | refine WL.off rfl rfl rfl ?_ | refine WC.condTrue rfl ?_ | refine WC.condFalse rfl ?_)
        exact WQ.meet false ⟨rfl, rfl, rfl, rfl, rfl, rfl, rfl, rfl, trivial⟩ ⟨rfl, fun h => by cases h⟩
    · repeat (first | ((with_reducible refine WL.topT ?_ ?_); omega) | ((with_reducible refine WL.topF ?_ ?_); omega) | ((with_reducible refine WL.top64 ?_ ?_); omega) | refine WC.seq ?_ | refine WC.block ?_ | refine WC.region ?_ | refine WL.nil ?_ | refine WC.skip ?_ | refine WC.exit ?_ | refine WC.ret ?_ | refine WQ.then rfl ?_ | refine WQ.thenExit ?_ | refine WQ.thenRet ?_ | refine WQ.blk ?_ | refine WQ.blkRet ?_ | refine WQ.blkHere rfl ?_ | refine WQ.blkOther rfl ?_ | refine WL.pure rfl rfl rfl rfl ?_ | refine WL.on rfl rfl ?_ | refine WL.off rfl rfl rfl ?_ | refine WC.condTrue rfl ?_ | refine WC.condFalse rfl ?_)
      exact WQ.meet false ⟨rfl, rfl, rfl, rfl, rfl, rfl, rfl, rfl, trivial⟩ ⟨rfl, fun h => by cases h⟩
  rintro b wm ⟨hwm, hbt⟩
  obtain rfl : wr = wm := hwm.symm
  clear hwm
  cases b with
  | true =>
    obtain ⟨h1, h4⟩ := hbt rfl
    obtain ⟨b, o, rfl, hlt, hr⟩ := hrow (by omega)
    have hr' : ∀ j, j < l.length → wr.rangeAt b (o + j * 4) (stpC (l.getD j noStp)) := fun j hj k u hu => by rw [hb.cell (p := ⟨b, o + j * 4 + k, none⟩) hlt]; exact hr j hj k u hu
    obtain ⟨-, -, q2, -⟩ := stpR hr' h1
    generalize l.getD i noStp = s at q2
    repeat (first | ((with_reducible refine WL.topT ?_ ?_); omega) | ((with_reducible refine WL.topF ?_ ?_); omega) | ((with_reducible refine WL.top64 ?_ ?_); omega) | refine WC.seq ?_ | refine WC.block ?_ | refine WC.region ?_ | refine WL.nil ?_ | refine WC.skip ?_ | refine WC.exit ?_ | refine WC.ret ?_ | refine WQ.then rfl ?_ | refine WQ.thenExit ?_ | refine WQ.thenRet ?_ | refine WQ.blk ?_ | refine WQ.blkRet ?_ | refine WQ.blkHere rfl ?_ | refine WQ.blkOther rfl ?_ | refine WL.pure rfl rfl rfl rfl ?_ | refine WL.on rfl rfl ?_ | refine WL.off rfl rfl rfl ?_ | refine WC.condTrue rfl ?_ | refine WC.condFalse rfl ?_)
    refine WL.idx i (o + i * 4) rfl rfl rfl rfl rfl rfl rfl rfl h1 rfl ?_
    repeat (first | ((with_reducible refine WL.topT ?_ ?_); omega) | ((with_reducible refine WL.topF ?_ ?_); omega) | ((with_reducible refine WL.top64 ?_ ?_); omega) | refine WC.seq ?_ | refine WC.block ?_ | refine WC.region ?_ | refine WL.nil ?_ | refine WC.skip ?_ | refine WC.exit ?_ | refine WC.ret ?_ | refine WQ.then rfl ?_ | refine WQ.thenExit ?_ | refine WQ.thenRet ?_ | refine WQ.blk ?_ | refine WQ.blkRet ?_ | refine WQ.blkHere rfl ?_ | refine WQ.blkOther rfl ?_ | refine WL.pure rfl rfl rfl rfl ?_ | refine WL.on rfl rfl ?_ | refine WL.off rfl rfl rfl ?_ | refine WL.load rfl rfl rfl rfl rfl rfl (by assumption) ?_ | refine WC.condTrue rfl ?_ | refine WC.condFalse rfl ?_)
    refine WL.call rfl rfl rfl rfl rfl Try.func11 rfl (by kernel_rfl) (tput_any ht s.key i (by omega)) ?_
    rintro _ w5 ⟨st5, rfl, h5, hk5, hn5⟩
    refine ⟨_, rfl, ?_⟩
    have := (insL_len (k := s.key) (n := i) L).1
    repeat (first | ((with_reducible refine WL.topT ?_ ?_); omega) | ((with_reducible refine WL.topF ?_ ?_); omega) | ((with_reducible refine WL.top64 ?_ ?_); omega) | refine WC.seq ?_ | refine WC.block ?_ | refine WC.region ?_ | refine WL.nil ?_ | refine WC.skip ?_ | refine WC.exit ?_ | refine WC.ret ?_ | refine WQ.then rfl ?_ | refine WQ.thenExit ?_ | refine WQ.thenRet ?_ | refine WQ.blk ?_ | refine WQ.blkRet ?_ | refine WQ.blkHere rfl ?_ | refine WQ.blkOther rfl ?_ | refine WL.pure rfl rfl rfl rfl ?_ | refine WL.on rfl rfl ?_ | refine WL.off rfl rfl rfl ?_ | refine WC.condTrue rfl ?_ | refine WC.condFalse rfl ?_)
    exact WQ.again (i + 1) ⟨rfl, rfl, rfl, rfl, rfl, rfl, rfl, trivial⟩ ⟨h4, h1, hb.trans (IsT.old hk5 hb.size htw ho), st5, _, h5, by omega, hn5.old hb.size ho⟩ (by show 400 - (i + 1) < 400 - i; omega)
  | false =>
  clear hbt
  have hsl : Srt L := by obtain ⟨-, -, _, _, -, hh⟩ := ht; exact hh.srt
  repeat (first | ((with_reducible refine WL.topT ?_ ?_); omega) | ((with_reducible refine WL.topF ?_ ?_); omega) | ((with_reducible refine WL.top64 ?_ ?_); omega) | refine WC.seq ?_ | refine WC.block ?_ | refine WC.region ?_ | refine WL.nil ?_ | refine WC.skip ?_ | refine WC.exit ?_ | refine WC.ret ?_ | refine WQ.then rfl ?_ | refine WQ.thenExit ?_ | refine WQ.thenRet ?_ | refine WQ.blk ?_ | refine WQ.blkRet ?_ | refine WQ.blkHere rfl ?_ | refine WQ.blkOther rfl ?_ | refine WL.pure rfl rfl rfl rfl ?_ | refine WL.on rfl rfl ?_ | refine WL.off rfl rfl rfl ?_ | refine WC.condTrue rfl ?_ | refine WC.condFalse rfl ?_)
  obtain ⟨M, hM⟩ : ∃ M, M = wr.heap.size := ⟨_, rfl⟩
  refine WL.alloc (z := .slice none 0 0) rfl rfl rfl rfl (fun _ => by kernel_rfl) fun ga w4 f4 => ?_
  have va4 : VBlk slS w4 ga [.slice none 0 0] := f4.blk
  have e4 := f4.eq
  have z4 := f4.size
  have k4 : Keep (fun k => k < M) wr w4 := hM ▸ Keep.of_below f4.below
  clear f4
  refine WL.alloc (z := .slice none 0 0) rfl rfl rfl rfl (fun _ => by kernel_rfl) fun gb w5 f5 => ?_
  have vb5 : VBlk slS w5 gb [.slice none 0 0] := f5.blk
  have e5 := f5.eq
  have z5 := f5.size
  have va5 := VBlk.below va4 f5.below (VBlk.lt va4)
  have k5 := k4.trans ((Keep.of_below f5.below).mono fun k (hk : k < M) => by show k < _; omega)
  clear f5 va4 k4
  refine WL.alloc (z := .slice none 0 0) rfl rfl rfl rfl (fun _ => by kernel_rfl) fun gc w6 f6 => ?_
  have vc6 : VBlk slS w6 gc [.slice none 0 0] := f6.blk
  have e6 := f6.eq
  have z6 := f6.size
  have va6 := VBlk.below va5 f6.below (VBlk.lt va5)
  have vb6 := VBlk.below vb5 f6.below (VBlk.lt vb5)
  have k6 := k5.trans ((Keep.of_below f6.below).mono fun k (hk : k < M) => by show k < _; omega)
  clear f6 va5 vb5 k5
  have hL4 : L.length ≤ 400 := by omega
  have hfl : ∀ f t : Ky, (flt f t L).length ≤ 400 := fun f t => Nat.le_trans (flt_len f t L) hL4
  repeat (first | ((with_reducible refine WL.topT ?_ ?_); omega) | ((with_reducible refine WL.topF ?_ ?_); omega) | ((with_reducible refine WL.top64 ?_ ?_); omega) | refine WC.seq ?_ | refine WC.block ?_ | refine WC.region ?_ | refine WL.nil ?_ | refine WC.skip ?_ | refine WC.exit ?_ | refine WC.ret ?_ | refine WQ.then rfl ?_ | refine WQ.thenExit ?_ | refine WQ.thenRet ?_ | refine WQ.blk ?_ | refine WQ.blkRet ?_ | refine WQ.blkHere rfl ?_ | refine WQ.blkOther rfl ?_ | refine WL.pure rfl rfl rfl rfl ?_ | refine WL.on rfl rfl ?_ | refine WL.off rfl rfl rfl ?_ | refine WC.condTrue rfl ?_ | refine WC.condFalse rfl ?_)
  refine WL.call rfl rfl rfl rfl rfl Try.func12 rfl (by kernel_rfl) (trange_any (some ⟨tb, 0, none⟩) a z) ?_
  rintro _ w8 ⟨bw8, p1, p2, p3, rfl, hc8⟩
  refine ⟨_, rfl, ?_⟩
  have va8 := VBlk.below va6 bw8 (VBlk.lt va6)
  have vb8 := VBlk.below vb6 bw8 (VBlk.lt vb6)
  have vc8 := VBlk.below vc6 bw8 (VBlk.lt vc6)
  have zw8 := bw8.size
  have kw8 := k6.trans ((Keep.of_below bw8).mono fun k (hk : k < M) => by show k < _; omega)
  clear va6 vb6 vc6 k6 bw8
  obtain ⟨T1, hT1⟩ : ∃ T1, T1 = w8.heap.size := ⟨_, rfl⟩
  have htr : IsT w8 st tb L := ht.below (hM ▸ kw8.below)
  have hr1 := range1_any hc8 (L := flt a z L) (by have := hfl a z; omega) (fun W hW => tall_any (htr.below hW) a z (by omega))
  clear htr hc8
  repeat (first | ((with_reducible refine WL.topT ?_ ?_); omega) | ((with_reducible refine WL.topF ?_ ?_); omega) | ((with_reducible refine WL.top64 ?_ ?_); omega) | refine WC.seq ?_ | refine WC.region ?_ | refine WL.nil ?_ | refine WC.skip ?_ | refine WC.exit ?_ | refine WC.ret ?_ | refine WQ.then rfl ?_ | refine WQ.thenExit ?_ | refine WQ.thenRet ?_ | refine WQ.blk ?_ | refine WQ.blkRet ?_ | refine WQ.blkHere rfl ?_ | refine WQ.blkOther rfl ?_ | refine WL.pure rfl rfl rfl rfl ?_ | refine WL.on rfl rfl ?_ | refine WL.off rfl rfl rfl ?_ | refine WL.load rfl rfl rfl rfl rfl rfl (by assumption) ?_ | refine WC.condTrue rfl ?_ | refine WC.condFalse rfl ?_)
  refine WC.block ?_
  refine WC.rangeF rfl (enters_of Try.func28 (by kernel_rfl) rfl) hr1 (fun _ => rfl) rfl (ColI T1 ga [] w8 []) (fun _ _ _ => False) (ColI.own (by omega) (MarkAt.nil _)) (fun _ _ _ _ _ h _ _ => h) ?_
    (fun x => [(11, .pointer (some ⟨ga, 0, none⟩)), (14, .string x.1)]) ?_ ?_ ?_ (fun _ _ _ _ _ _ h _ => h.elim)
  · exact ⟨Keep.refl _ _, MarkAt.nil _, _, va8, OwnE.nil _ _ _ _ _ _⟩
  · intro lp x W
    repeat (first | ((with_reducible refine WL.topT ?_ ?_); omega) | ((with_reducible refine WL.topF ?_ ?_); omega) | ((with_reducible refine WL.top64 ?_ ?_); omega) | refine WC.seq ?_ | refine WC.block ?_ | refine WC.region ?_ | refine WL.nil ?_ | refine WC.skip ?_ | refine WC.exit ?_ | refine WC.ret ?_ | refine WQ.then rfl ?_ | refine WQ.thenExit ?_ | refine WQ.thenRet ?_ | refine WQ.blk ?_ | refine WQ.blkRet ?_ | refine WQ.blkHere rfl ?_ | refine WQ.blkOther rfl ?_ | refine WL.pure rfl rfl rfl rfl ?_ | refine WL.on rfl rfl ?_ | refine WL.off rfl rfl rfl ?_ | refine WC.condTrue rfl ?_ | refine WC.condFalse rfl ?_)
    exact WQ.meet () ⟨rfl, rfl, trivial⟩ rfl
  · rintro lp pre x W - - ⟨q1, q2, v, q3, q4⟩ hlen
    have hbl : ([] ++ pre.map Prod.fst).length ≤ 1000000 := by simp only [List.length_append, List.length_map]; have := hfl a z; have h0 : ([] : List Ky).length = 0 := rfl; omega
    repeat (first | ((with_reducible refine WL.topT ?_ ?_); omega) | ((with_reducible refine WL.topF ?_ ?_); omega) | ((with_reducible refine WL.top64 ?_ ?_); omega) | refine WC.seq ?_ | refine WC.block ?_ | refine WC.region ?_ | refine WL.nil ?_ | refine WC.skip ?_ | refine WC.exit ?_ | refine WC.ret ?_ | refine WQ.then rfl ?_ | refine WQ.thenExit ?_ | refine WQ.thenRet ?_ | refine WQ.blk ?_ | refine WQ.blkRet ?_ | refine WQ.blkHere rfl ?_ | refine WQ.blkOther rfl ?_ | refine WL.pure rfl rfl rfl rfl ?_ | refine WL.on rfl rfl ?_ | refine WL.off rfl rfl rfl ?_ | refine WC.condTrue rfl ?_ | refine WC.condFalse rfl ?_)
    refine WL.load rfl rfl rfl rfl rfl rfl (VBlk.cell q3 0 (by simp)) ?_
    refine WL.as 78 v rfl rfl ?_
    repeat (first | ((with_reducible refine WL.topT ?_ ?_); omega) | ((with_reducible refine WL.topF ?_ ?_); omega) | ((with_reducible refine WL.top64 ?_ ?_); omega) | refine WC.seq ?_ | refine WC.block ?_ | refine WC.region ?_ | refine WL.nil ?_ | refine WC.skip ?_ | refine WC.exit ?_ | refine WC.ret ?_ | refine WQ.then rfl ?_ | refine WQ.thenExit ?_ | refine WQ.thenRet ?_ | refine WQ.blk ?_ | refine WQ.blkRet ?_ | refine WQ.blkHere rfl ?_ | refine WQ.blkOther rfl ?_ | refine WL.pure rfl rfl rfl rfl ?_ | refine WL.on rfl rfl ?_ | refine WL.off rfl rfl rfl ?_ | refine WC.condTrue rfl ?_ | refine WC.condFalse rfl ?_)
    refine WL.lit1 rfl rfl rfl rfl rfl rfl rfl rfl (by decide) (by kernel_rfl) fun g9 W1 f9 => ?_
    refine WL.snoc (y := x.1) rfl rfl rfl rfl elemS rfl (q4.keep (Keep.of_below f9.below) (fun q hq => q4.lt hq) (fun _ h => h) (fun _ _ h => h)) rfl f9.blk (by intro u hu; simp at hu; rw [hu]; rfl) rfl rfl (by omega) (by omega) fun v2 W2 o2 gr2 => ?_
    have hkv := ColI.step (B := w8.heap.size) q1 q2 q3 q4 (by omega) (by omega) f9 o2 gr2
    have hvg2 : VBlk slS W2 ga [v] := VBlk.keep (VBlk.below q3 f9.below (VBlk.lt q3)) gr2.1 ⟨VBlk.lt (VBlk.below q3 f9.below (VBlk.lt q3)), fun e => by have h1 := q4.own e; have h2 : ga < T1 := (by omega); omega⟩
    refine WL.store rfl rfl rfl rfl rfl o2.one (by kernel_rfl) (VBlk.cell hvg2 0 (by simp)) (VBlk.free hvg2 0) ?_
    repeat (first | ((with_reducible refine WL.topT ?_ ?_); omega) | ((with_reducible refine WL.topF ?_ ?_); omega) | ((with_reducible refine WL.top64 ?_ ?_); omega) | refine WC.seq ?_ | refine WC.block ?_ | refine WC.region ?_ | refine WL.nil ?_ | refine WC.skip ?_ | refine WC.exit ?_ | refine WC.ret ?_ | refine WQ.then rfl ?_ | refine WQ.thenExit ?_ | refine WQ.thenRet ?_ | refine WQ.blk ?_ | refine WQ.blkRet ?_ | refine WQ.blkHere rfl ?_ | refine WQ.blkOther rfl ?_ | refine WL.pure rfl rfl rfl rfl ?_ | refine WL.on rfl rfl ?_ | refine WL.off rfl rfl rfl ?_ | refine WC.condTrue rfl ?_ | refine WC.condFalse rfl ?_)
    exact ⟨fun _ _ => hkv⟩
  clear hr1
  rintro D1 _ W1 hD1 rfl ⟨k1, -, xa1⟩ hm1
  have hz1 := k1.size
  have kW1 : Keep (fun k => k < M) wr W1 := kw8.trans (k1.mono fun k (hk : k < M) => ⟨by omega, by omega⟩)
  have vb1 := VBlk.keep vb8 k1 ⟨by omega, by omega⟩
  have vc1 := VBlk.keep vc8 k1 ⟨by omega, by omega⟩
  have mW1 : MarkAt W1 [D1] := ⟨by simp, fun D hD => (by simpa using hD : D = D1) ▸ hm1⟩
  clear vb8 vc8 va8 k1 kw8 hm1
  repeat (first | ((with_reducible refine WL.topT ?_ ?_); omega) | ((with_reducible refine WL.topF ?_ ?_); omega) | ((with_reducible refine WL.top64 ?_ ?_); omega) | refine WC.seq ?_ | refine WC.block ?_ | refine WC.region ?_ | refine WL.nil ?_ | refine WC.skip ?_ | refine WC.exit ?_ | refine WC.ret ?_ | refine WQ.then rfl ?_ | refine WQ.thenExit ?_ | refine WQ.thenRet ?_ | refine WQ.blk ?_ | refine WQ.blkRet ?_ | refine WQ.blkHere rfl ?_ | refine WQ.blkOther rfl ?_ | refine WL.pure rfl rfl rfl rfl ?_ | refine WL.on rfl rfl ?_ | refine WL.off rfl rfl rfl ?_ | refine WC.condTrue rfl ?_ | refine WC.condFalse rfl ?_)
  refine WL.call rfl rfl rfl rfl rfl Try.func12 rfl (by kernel_rfl) (trange_any (some ⟨tb, 0, none⟩) a m) ?_
  rintro _ w10 ⟨bw10, q1, q2, q3, rfl, hc10⟩
  refine ⟨_, rfl, ?_⟩
  have vb10 := VBlk.below vb1 bw10 (VBlk.lt vb1)
  have vc10 := VBlk.below vc1 bw10 (VBlk.lt vc1)
  have xa10 := (xa1.below bw10).fix
  have zw10 := bw10.size
  have kw10 := kW1.trans ((Keep.of_below bw10).mono fun k (hk : k < M) => by show k < _; omega)
  have mw10 : MarkAt w10 [D1] := mW1.keep (Keep.of_below bw10) (fun D hD => mW1.lt hD)
  clear vb1 vc1 xa1 kW1 mW1 bw10
  obtain ⟨T2, hT2⟩ : ∃ T2, T2 = w10.heap.size := ⟨_, rfl⟩
  have htr : IsT w10 st tb L := ht.below (hM ▸ kw10.below)
  have hr2 := range1_any hc10 (L := flt a m L) (by have := hfl a m; omega) (fun W hW => tall_any (htr.below hW) a m (by omega))
  clear htr hc10
  repeat (first | ((with_reducible refine WL.topT ?_ ?_); omega) | ((with_reducible refine WL.topF ?_ ?_); omega) | ((with_reducible refine WL.top64 ?_ ?_); omega) | refine WC.seq ?_ | refine WC.region ?_ | refine WL.nil ?_ | refine WC.skip ?_ | refine WC.exit ?_ | refine WC.ret ?_ | refine WQ.then rfl ?_ | refine WQ.thenExit ?_ | refine WQ.thenRet ?_ | refine WQ.blk ?_ | refine WQ.blkRet ?_ | refine WQ.blkHere rfl ?_ | refine WQ.blkOther rfl ?_ | refine WL.pure rfl rfl rfl rfl ?_ | refine WL.on rfl rfl ?_ | refine WL.off rfl rfl rfl ?_ | refine WL.load rfl rfl rfl rfl rfl rfl (by assumption) ?_ | refine WC.condTrue rfl ?_ | refine WC.condFalse rfl ?_)
  refine WC.block ?_
  refine WC.rangeF rfl (enters_of Try.func28 (by kernel_rfl) rfl) hr2 (fun _ => rfl) rfl (ColI T2 gb [D1] w10 []) (fun _ _ _ => False) (ColI.own (by omega) mw10) (fun _ _ _ _ _ h _ _ => h) ?_
    (fun x => [(12, .pointer (some ⟨gb, 0, none⟩)), (15, .string x.1)]) ?_ ?_ ?_ (fun _ _ _ _ _ _ h _ => h.elim)
  · exact ⟨Keep.refl _ _, mw10, _, vb10, OwnE.nil _ _ _ _ _ _⟩
  · intro lp x W
    repeat (first | ((with_reducible refine WL.topT ?_ ?_); omega) | ((with_reducible refine WL.topF ?_ ?_); omega) | ((with_reducible refine WL.top64 ?_ ?_); omega) | refine WC.seq ?_ | refine WC.block ?_ | refine WC.region ?_ | refine WL.nil ?_ | refine WC.skip ?_ | refine WC.exit ?_ | refine WC.ret ?_ | refine WQ.then rfl ?_ | refine WQ.thenExit ?_ | refine WQ.thenRet ?_ | refine WQ.blk ?_ | refine WQ.blkRet ?_ | refine WQ.blkHere rfl ?_ | refine WQ.blkOther rfl ?_ | refine WL.pure rfl rfl rfl rfl ?_ | refine WL.on rfl rfl ?_ | refine WL.off rfl rfl rfl ?_ | refine WC.condTrue rfl ?_ | refine WC.condFalse rfl ?_)
    exact WQ.meet () ⟨rfl, rfl, trivial⟩ rfl
  · rintro lp pre x W - - ⟨q1, q2, v, q3, q4⟩ hlen
    have hbl : ([] ++ pre.map Prod.fst).length ≤ 1000000 := by simp only [List.length_append, List.length_map]; have := hfl a m; have h0 : ([] : List Ky).length = 0 := rfl; omega
    repeat (first | ((with_reducible refine WL.topT ?_ ?_); omega) | ((with_reducible refine WL.topF ?_ ?_); omega) | ((with_reducible refine WL.top64 ?_ ?_); omega) | refine WC.seq ?_ | refine WC.block ?_ | refine WC.region ?_ | refine WL.nil ?_ | refine WC.skip ?_ | refine WC.exit ?_ | refine WC.ret ?_ | refine WQ.then rfl ?_ | refine WQ.thenExit ?_ | refine WQ.thenRet ?_ | refine WQ.blk ?_ | refine WQ.blkRet ?_ | refine WQ.blkHere rfl ?_ | refine WQ.blkOther rfl ?_ | refine WL.pure rfl rfl rfl rfl ?_ | refine WL.on rfl rfl ?_ | refine WL.off rfl rfl rfl ?_ | refine WC.condTrue rfl ?_ | refine WC.condFalse rfl ?_)
    refine WL.load rfl rfl rfl rfl rfl rfl (VBlk.cell q3 0 (by simp)) ?_
    refine WL.as 88 v rfl rfl ?_
    repeat (first | ((with_reducible refine WL.topT ?_ ?_); omega) | ((with_reducible refine WL.topF ?_ ?_); omega) | ((with_reducible refine WL.top64 ?_ ?_); omega) | refine WC.seq ?_ | refine WC.block ?_ | refine WC.region ?_ | refine WL.nil ?_ | refine WC.skip ?_ | refine WC.exit ?_ | refine WC.ret ?_ | refine WQ.then rfl ?_ | refine WQ.thenExit ?_ | refine WQ.thenRet ?_ | refine WQ.blk ?_ | refine WQ.blkRet ?_ | refine WQ.blkHere rfl ?_ | refine WQ.blkOther rfl ?_ | refine WL.pure rfl rfl rfl rfl ?_ | refine WL.on rfl rfl ?_ | refine WL.off rfl rfl rfl ?_ | refine WC.condTrue rfl ?_ | refine WC.condFalse rfl ?_)
    refine WL.lit1 rfl rfl rfl rfl rfl rfl rfl rfl (by decide) (by kernel_rfl) fun g9 W1 f9 => ?_
    refine WL.snoc (y := x.1) rfl rfl rfl rfl elemS rfl (q4.keep (Keep.of_below f9.below) (fun q hq => q4.lt hq) (fun _ h => h) (fun _ _ h => h)) rfl f9.blk (by intro u hu; simp at hu; rw [hu]; rfl) rfl rfl (by omega) (by omega) fun v2 W2 o2 gr2 => ?_
    have hkv := ColI.step (B := w10.heap.size) q1 q2 q3 q4 (by omega) (by omega) f9 o2 gr2
    have hvg2 : VBlk slS W2 gb [v] := VBlk.keep (VBlk.below q3 f9.below (VBlk.lt q3)) gr2.1 ⟨VBlk.lt (VBlk.below q3 f9.below (VBlk.lt q3)), fun e => by have h1 := q4.own e; have h2 : gb < T2 := (by omega); omega⟩
    refine WL.store rfl rfl rfl rfl rfl o2.one (by kernel_rfl) (VBlk.cell hvg2 0 (by simp)) (VBlk.free hvg2 0) ?_
    repeat (first | ((with_reducible refine WL.topT ?_ ?_); omega) | ((with_reducible refine WL.topF ?_ ?_); omega) | ((with_reducible refine WL.top64 ?_ ?_); omega) | refine WC.seq ?_ | refine WC.block ?_ | refine WC.region ?_ | refine WL.nil ?_ | refine WC.skip ?_ | refine WC.exit ?_ | refine WC.ret ?_ | refine WQ.then rfl ?_ | refine WQ.thenExit ?_ | refine WQ.thenRet ?_ | refine WQ.blk ?_ | refine WQ.blkRet ?_ | refine WQ.blkHere rfl ?_ | refine WQ.blkOther rfl ?_ | refine WL.pure rfl rfl rfl rfl ?_ | refine WL.on rfl rfl ?_ | refine WL.off rfl rfl rfl ?_ | refine WC.condTrue rfl ?_ | refine WC.condFalse rfl ?_)
    exact ⟨fun _ _ => hkv⟩
  clear hr2
  rintro D2 _ W2 hD2 rfl ⟨k2, m2, xb2⟩ hm2
  have hz2 := k2.size
  have kW2 : Keep (fun k => k < M) wr W2 := kw10.trans (k2.mono fun k (hk : k < M) => ⟨by omega, by omega⟩)
  have xa2 := xa10.keep k2 (fun b hb => ⟨by omega, by omega⟩) ⟨by omega, by omega⟩
  have vc2 := VBlk.keep vc10 k2 ⟨by omega, by omega⟩
  have hlD1 := mw10.lt (D := D1) (by simp)
  have mW2 : MarkAt W2 [D2, D1] := ⟨by simp; omega, fun D hD => by
    rcases List.mem_cons.1 hD with rfl | hD
    · exact hm2
    · exact m2.2 D hD⟩
  clear vb10 vc10 xa10 k2 m2 kw10 mw10 hm2
  repeat (first | ((with_reducible refine WL.topT ?_ ?_); omega) | ((with_reducible refine WL.topF ?_ ?_); omega) | ((with_reducible refine WL.top64 ?_ ?_); omega) | refine WC.seq ?_ | refine WC.block ?_ | refine WC.region ?_ | refine WL.nil ?_ | refine WC.skip ?_ | refine WC.exit ?_ | refine WC.ret ?_ | refine WQ.then rfl ?_ | refine WQ.thenExit ?_ | refine WQ.thenRet ?_ | refine WQ.blk ?_ | refine WQ.blkRet ?_ | refine WQ.blkHere rfl ?_ | refine WQ.blkOther rfl ?_ | refine WL.pure rfl rfl rfl rfl ?_ | refine WL.on rfl rfl ?_ | refine WL.off rfl rfl rfl ?_ | refine WC.condTrue rfl ?_ | refine WC.condFalse rfl ?_)
  refine WL.call rfl rfl rfl rfl rfl Try.func12 rfl (by kernel_rfl) (trange_any (some ⟨tb, 0, none⟩) m z) ?_
  rintro _ w12 ⟨bw12, r1, r2, r3, rfl, hc12⟩
  refine ⟨_, rfl, ?_⟩
  have vc12 := VBlk.below vc2 bw12 (VBlk.lt vc2)
  have xa12 := xa2.below bw12
  have xb12 := xb2.below bw12
  have zw12 := bw12.size
  have kw12 := kW2.trans ((Keep.of_below bw12).mono fun k (hk : k < M) => by show k < _; omega)
  have mw12 : MarkAt w12 [D2, D1] := mW2.keep (Keep.of_below bw12) (fun D hD => mW2.lt hD)
  clear vc2 xa2 xb2 kW2 mW2 bw12
  have htr : IsT w12 st tb L := ht.below (hM ▸ kw12.below)
  have hr3 := range1_any hc12 (L := flt m z L) (by have := hfl m z; omega) (fun W hW => tall_any (htr.below hW) m z (by omega))
  clear htr hc12
  repeat (first | ((with_reducible refine WL.topT ?_ ?_); omega) | ((with_reducible refine WL.topF ?_ ?_); omega) | ((with_reducible refine WL.top64 ?_ ?_); omega) | refine WC.seq ?_ | refine WC.region ?_ | refine WL.nil ?_ | refine WC.skip ?_ | refine WC.exit ?_ | refine WC.ret ?_ | refine WQ.then rfl ?_ | refine WQ.thenExit ?_ | refine WQ.thenRet ?_ | refine WQ.blk ?_ | refine WQ.blkRet ?_ | refine WQ.blkHere rfl ?_ | refine WQ.blkOther rfl ?_ | refine WL.pure rfl rfl rfl rfl ?_ | refine WL.on rfl rfl ?_ | refine WL.off rfl rfl rfl ?_ | refine WL.load rfl rfl rfl rfl rfl rfl (by assumption) ?_ | refine WC.condTrue rfl ?_ | refine WC.condFalse rfl ?_)
  refine WC.block ?_
  refine WC.rangeF rfl (enters_of Try.func28 (by kernel_rfl) rfl) hr3 (fun _ => rfl) rfl (ColI T2 gb [D2, D1] w12 ([] ++ (flt a m L).map Prod.fst)) (fun _ _ _ => False) (ColI.own (by omega) mw12) (fun _ _ _ _ _ h _ _ => h) ?_
    (fun x => [(12, .pointer (some ⟨gb, 0, none⟩)), (16, .string x.1)]) ?_ ?_ ?_ (fun _ _ _ _ _ _ h _ => h.elim)
  · exact ⟨Keep.refl _ _, mw12, by simpa using xb12⟩
  · intro lp x W
    repeat (first | ((with_reducible refine WL.topT ?_ ?_); omega) | ((with_reducible refine WL.topF ?_ ?_); omega) | ((with_reducible refine WL.top64 ?_ ?_); omega) | refine WC.seq ?_ | refine WC.block ?_ | refine WC.region ?_ | refine WL.nil ?_ | refine WC.skip ?_ | refine WC.exit ?_ | refine WC.ret ?_ | refine WQ.then rfl ?_ | refine WQ.thenExit ?_ | refine WQ.thenRet ?_ | refine WQ.blk ?_ | refine WQ.blkRet ?_ | refine WQ.blkHere rfl ?_ | refine WQ.blkOther rfl ?_ | refine WL.pure rfl rfl rfl rfl ?_ | refine WL.on rfl rfl ?_ | refine WL.off rfl rfl rfl ?_ | refine WC.condTrue rfl ?_ | refine WC.condFalse rfl ?_)
    exact WQ.meet () ⟨rfl, rfl, trivial⟩ rfl
  · rintro lp pre x W - - ⟨q1, q2, v, q3, q4⟩ hlen
    have hbl : (([] ++ (flt a m L).map Prod.fst) ++ pre.map Prod.fst).length ≤ 1000000 := by simp only [List.length_append, List.length_map]; have := hfl a m; have := hfl m z; have h0 : ([] : List Ky).length = 0 := rfl; omega
    repeat (first | ((with_reducible refine WL.topT ?_ ?_); omega) | ((with_reducible refine WL.topF ?_ ?_); omega) | ((with_reducible refine WL.top64 ?_ ?_); omega) | refine WC.seq ?_ | refine WC.block ?_ | refine WC.region ?_ | refine WL.nil ?_ | refine WC.skip ?_ | refine WC.exit ?_ | refine WC.ret ?_ | refine WQ.then rfl ?_ | refine WQ.thenExit ?_ | refine WQ.thenRet ?_ | refine WQ.blk ?_ | refine WQ.blkRet ?_ | refine WQ.blkHere rfl ?_ | refine WQ.blkOther rfl ?_ | refine WL.pure rfl rfl rfl rfl ?_ | refine WL.on rfl rfl ?_ | refine WL.off rfl rfl rfl ?_ | refine WC.condTrue rfl ?_ | refine WC.condFalse rfl ?_)
    refine WL.load rfl rfl rfl rfl rfl rfl (VBlk.cell q3 0 (by simp)) ?_
    refine WL.as 98 v rfl rfl ?_
    repeat (first | ((with_reducible refine WL.topT ?_ ?_); omega) | ((with_reducible refine WL.topF ?_ ?_); omega) | ((with_reducible refine WL.top64 ?_ ?_); omega) | refine WC.seq ?_ | refine WC.block ?_ | refine WC.region ?_ | refine WL.nil ?_ | refine WC.skip ?_ | refine WC.exit ?_ | refine WC.ret ?_ | refine WQ.then rfl ?_ | refine WQ.thenExit ?_ | refine WQ.thenRet ?_ | refine WQ.blk ?_ | refine WQ.blkRet ?_ | refine WQ.blkHere rfl ?_ | refine WQ.blkOther rfl ?_ | refine WL.pure rfl rfl rfl rfl ?_ | refine WL.on rfl rfl ?_ | refine WL.off rfl rfl rfl ?_ | refine WC.condTrue rfl ?_ | refine WC.condFalse rfl ?_)
    refine WL.lit1 rfl rfl rfl rfl rfl rfl rfl rfl (by decide) (by kernel_rfl) fun g9 W1 f9 => ?_
    refine WL.snoc (y := x.1) rfl rfl rfl rfl elemS rfl (q4.keep (Keep.of_below f9.below) (fun q hq => q4.lt hq) (fun _ h => h) (fun _ _ h => h)) rfl f9.blk (by intro u hu; simp at hu; rw [hu]; rfl) rfl rfl (by omega) (by omega) fun v2 W2 o2 gr2 => ?_
    have hkv := ColI.step (B := w12.heap.size) q1 q2 q3 q4 (by omega) (by omega) f9 o2 gr2
    have hvg2 : VBlk slS W2 gb [v] := VBlk.keep (VBlk.below q3 f9.below (VBlk.lt q3)) gr2.1 ⟨VBlk.lt (VBlk.below q3 f9.below (VBlk.lt q3)), fun e => by have h1 := q4.own e; have h2 : gb < T2 := (by omega); omega⟩
    refine WL.store rfl rfl rfl rfl rfl o2.one (by kernel_rfl) (VBlk.cell hvg2 0 (by simp)) (VBlk.free hvg2 0) ?_
    repeat (first | ((with_reducible refine WL.topT ?_ ?_); omega) | ((with_reducible refine WL.topF ?_ ?_); omega) | ((with_reducible refine WL.top64 ?_ ?_); omega) | refine WC.seq ?_ | refine WC.block ?_ | refine WC.region ?_ | refine WL.nil ?_ | refine WC.skip ?_ | refine WC.exit ?_ | refine WC.ret ?_ | refine WQ.then rfl ?_ | refine WQ.thenExit ?_ | refine WQ.thenRet ?_ | refine WQ.blk ?_ | refine WQ.blkRet ?_ | refine WQ.blkHere rfl ?_ | refine WQ.blkOther rfl ?_ | refine WL.pure rfl rfl rfl rfl ?_ | refine WL.on rfl rfl ?_ | refine WL.off rfl rfl rfl ?_ | refine WC.condTrue rfl ?_ | refine WC.condFalse rfl ?_)
    exact ⟨fun _ _ => hkv⟩
  clear hr3 xb12
  rintro D3 _ W3 hD3 rfl ⟨k3, m3, xb3⟩ hm3
  have hz3 := k3.size
  have kW3 : Keep (fun k => k < M) wr W3 := kw12.trans (k3.mono fun k (hk : k < M) => ⟨by omega, by omega⟩)
  have xa3 := xa12.keep k3 (fun b hb => ⟨by omega, by omega⟩) ⟨by omega, by omega⟩
  have vc3 := VBlk.keep vc12 k3 ⟨by omega, by omega⟩
  have hlD2 := mw12.lt (D := D2) (by simp)
  have mW3 : MarkAt W3 [D3, D2, D1] := ⟨by simp; omega, fun D hD => by
    rcases List.mem_cons.1 hD with rfl | hD
    · exact hm3
    · exact m3.2 D hD⟩
  clear vc12 xa12 k3 m3 kw12 mw12 hm3
  repeat (first | ((with_reducible refine WL.topT ?_ ?_); omega) | ((with_reducible refine WL.topF ?_ ?_); omega) | ((with_reducible refine WL.top64 ?_ ?_); omega) | refine WC.seq ?_ | refine WC.block ?_ | refine WC.region ?_ | refine WL.nil ?_ | refine WC.skip ?_ | refine WC.exit ?_ | refine WC.ret ?_ | refine WQ.then rfl ?_ | refine WQ.thenExit ?_ | refine WQ.thenRet ?_ | refine WQ.blk ?_ | refine WQ.blkRet ?_ | refine WQ.blkHere rfl ?_ | refine WQ.blkOther rfl ?_ | refine WL.pure rfl rfl rfl rfl ?_ | refine WL.on rfl rfl ?_ | refine WL.off rfl rfl rfl ?_ | refine WC.condTrue rfl ?_ | refine WC.condFalse rfl ?_)
  refine WL.call rfl rfl rfl rfl rfl Try.func13 rfl (by kernel_rfl) (tback_any (some ⟨tb, 0, none⟩) a z) ?_
  rintro _ w14 ⟨bw14, t1, t2, t3, rfl, hc14⟩
  refine ⟨_, rfl, ?_⟩
  have vc14 := VBlk.below vc3 bw14 (VBlk.lt vc3)
  have xa14 := xa3.below bw14
  have xb14 := (xb3.below bw14).fix
  have zw14 := bw14.size
  have kw14 := kW3.trans ((Keep.of_below bw14).mono fun k (hk : k < M) => by show k < _; omega)
  have mw14 : MarkAt w14 [D3, D2, D1] := mW3.keep (Keep.of_below bw14) (fun D hD => mW3.lt hD)
  clear vc3 xa3 xb3 kW3 mW3 bw14
  obtain ⟨T4, hT4⟩ : ∃ T4, T4 = w14.heap.size := ⟨_, rfl⟩
  have htr : IsT w14 st tb L := ht.below (hM ▸ kw14.below)
  have hr4 := back1_any hc14 (L := flt a z L) (by have := hfl a z; omega) (fun W hW => tall_any (htr.below hW) a z (by omega))
  clear htr hc14
  repeat (first | ((with_reducible refine WL.topT ?_ ?_); omega) | ((with_reducible refine WL.topF ?_ ?_); omega) | ((with_reducible refine WL.top64 ?_ ?_); omega) | refine WC.seq ?_ | refine WC.region ?_ | refine WL.nil ?_ | refine WC.skip ?_ | refine WC.exit ?_ | refine WC.ret ?_ | refine WQ.then rfl ?_ | refine WQ.thenExit ?_ | refine WQ.thenRet ?_ | refine WQ.blk ?_ | refine WQ.blkRet ?_ | refine WQ.blkHere rfl ?_ | refine WQ.blkOther rfl ?_ | refine WL.pure rfl rfl rfl rfl ?_ | refine WL.on rfl rfl ?_ | refine WL.off rfl rfl rfl ?_ | refine WL.load rfl rfl rfl rfl rfl rfl (by assumption) ?_ | refine WC.condTrue rfl ?_ | refine WC.condFalse rfl ?_)
  refine WC.block ?_
  refine WC.rangeF rfl (enters_of Try.func30 (by kernel_rfl) rfl) hr4 (fun _ => rfl) rfl (ColI T4 gc [D3, D2, D1] w14 []) (fun _ _ _ => False) (ColI.own (by omega) mw14) (fun _ _ _ _ _ h _ _ => h) ?_
    (fun x => [(13, .pointer (some ⟨gc, 0, none⟩)), (17, .string x.1)]) ?_ ?_ ?_ (fun _ _ _ _ _ _ h _ => h.elim)
  · exact ⟨Keep.refl _ _, mw14, _, vc14, OwnE.nil _ _ _ _ _ _⟩
  · intro lp x W
    repeat (first | ((with_reducible refine WL.topT ?_ ?_); omega) | ((with_reducible refine WL.topF ?_ ?_); omega) | ((with_reducible refine WL.top64 ?_ ?_); omega) | refine WC.seq ?_ | refine WC.block ?_ | refine WC.region ?_ | refine WL.nil ?_ | refine WC.skip ?_ | refine WC.exit ?_ | refine WC.ret ?_ | refine WQ.then rfl ?_ | refine WQ.thenExit ?_ | refine WQ.thenRet ?_ | refine WQ.blk ?_ | refine WQ.blkRet ?_ | refine WQ.blkHere rfl ?_ | refine WQ.blkOther rfl ?_ | refine WL.pure rfl rfl rfl rfl ?_ | refine WL.on rfl rfl ?_ | refine WL.off rfl rfl rfl ?_ | refine WC.condTrue rfl ?_ | refine WC.condFalse rfl ?_)
    exact WQ.meet () ⟨rfl, rfl, trivial⟩ rfl
  · rintro lp pre x W - - ⟨q1, q2, v, q3, q4⟩ hlen
    have hbl : ([] ++ pre.map Prod.fst).length ≤ 1000000 := by simp only [List.length_append, List.length_map]; have := hfl a z; have h0 : ([] : List Ky).length = 0 := rfl; omega
    repeat (first | ((with_reducible refine WL.topT ?_ ?_); omega) | ((with_reducible refine WL.topF ?_ ?_); omega) | ((with_reducible refine WL.top64 ?_ ?_); omega) | refine WC.seq ?_ | refine WC.block ?_ | refine WC.region ?_ | refine WL.nil ?_ | refine WC.skip ?_ | refine WC.exit ?_ | refine WC.ret ?_ | refine WQ.then rfl ?_ | refine WQ.thenExit ?_ | refine WQ.thenRet ?_ | refine WQ.blk ?_ | refine WQ.blkRet ?_ | refine WQ.blkHere rfl ?_ | refine WQ.blkOther rfl ?_ | refine WL.pure rfl rfl rfl rfl ?_ | refine WL.on rfl rfl ?_ | refine WL.off rfl rfl rfl ?_ | refine WC.condTrue rfl ?_ | refine WC.condFalse rfl ?_)
    refine WL.load rfl rfl rfl rfl rfl rfl (VBlk.cell q3 0 (by simp)) ?_
    refine WL.as 108 v rfl rfl ?_
    repeat (first | ((with_reducible refine WL.topT ?_ ?_); omega) | ((with_reducible refine WL.topF ?_ ?_); omega) | ((with_reducible refine WL.top64 ?_ ?_); omega) | refine WC.seq ?_ | refine WC.block ?_ | refine WC.region ?_ | refine WL.nil ?_ | refine WC.skip ?_ | refine WC.exit ?_ | refine WC.ret ?_ | refine WQ.then rfl ?_ | refine WQ.thenExit ?_ | refine WQ.thenRet ?_ | refine WQ.blk ?_ | refine WQ.blkRet ?_ | refine WQ.blkHere rfl ?_ | refine WQ.blkOther rfl ?_ | refine WL.pure rfl rfl rfl rfl ?_ | refine WL.on rfl rfl ?_ | refine WL.off rfl rfl rfl ?_ | refine WC.condTrue rfl ?_ | refine WC.condFalse rfl ?_)
    refine WL.lit1 rfl rfl rfl rfl rfl rfl rfl rfl (by decide) (by kernel_rfl) fun g9 W1 f9 => ?_
    refine WL.snoc (y := x.1) rfl rfl rfl rfl elemS rfl (q4.keep (Keep.of_below f9.below) (fun q hq => q4.lt hq) (fun _ h => h) (fun _ _ h => h)) rfl f9.blk (by intro u hu; simp at hu; rw [hu]; rfl) rfl rfl (by omega) (by omega) fun v2 W2 o2 gr2 => ?_
    have hkv := ColI.step (B := w14.heap.size) q1 q2 q3 q4 (by omega) (by omega) f9 o2 gr2
    have hvg2 : VBlk slS W2 gc [v] := VBlk.keep (VBlk.below q3 f9.below (VBlk.lt q3)) gr2.1 ⟨VBlk.lt (VBlk.below q3 f9.below (VBlk.lt q3)), fun e => by have h1 := q4.own e; have h2 : gc < T4 := (by omega); omega⟩
    refine WL.store rfl rfl rfl rfl rfl o2.one (by kernel_rfl) (VBlk.cell hvg2 0 (by simp)) (VBlk.free hvg2 0) ?_
    repeat (first | ((with_reducible refine WL.topT ?_ ?_); omega) | ((with_reducible refine WL.topF ?_ ?_); omega) | ((with_reducible refine WL.top64 ?_ ?_); omega) | refine WC.seq ?_ | refine WC.block ?_ | refine WC.region ?_ | refine WL.nil ?_ | refine WC.skip ?_ | refine WC.exit ?_ | refine WC.ret ?_ | refine WQ.then rfl ?_ | refine WQ.thenExit ?_ | refine WQ.thenRet ?_ | refine WQ.blk ?_ | refine WQ.blkRet ?_ | refine WQ.blkHere rfl ?_ | refine WQ.blkOther rfl ?_ | refine WL.pure rfl rfl rfl rfl ?_ | refine WL.on rfl rfl ?_ | refine WL.off rfl rfl rfl ?_ | refine WC.condTrue rfl ?_ | refine WC.condFalse rfl ?_)
    exact ⟨fun _ _ => hkv⟩
  clear hr4
  rintro D4 _ W4 hD4 rfl ⟨k4, m4, xc4⟩ hm4
  have hz4 := k4.size
  have kW4 : Keep (fun k => k < M) wr W4 := kw14.trans (k4.mono fun k (hk : k < M) => ⟨by omega, by omega⟩)
  have xa4 := xa14.keep k4 (fun b hb => ⟨by omega, by omega⟩) ⟨by omega, by omega⟩
  have xb4 := xb14.keep k4 (fun b hb => ⟨by omega, by omega⟩) ⟨by omega, by omega⟩
  have hlD3 := mw14.lt (D := D3) (by simp)
  have hlD2' := mw14.lt (D := D2) (by simp)
  have hlD1' := mw14.lt (D := D1) (by simp)
  have mW4 : MarkAt W4 [D4, D3, D2, D1] := ⟨by simp; omega, fun D hD => by
    rcases List.mem_cons.1 hD with rfl | hD
    · exact hm4
    · exact m4.2 D hD⟩
  clear vc14 xa14 xb14 k4 m4 kw14 mw14 hm4
  have eB : ([] ++ (flt a m L).map Prod.fst) ++ (flt m z L).map Prod.fst = (flt a z L).map Prod.fst := by rw [List.nil_append, ← List.map_append, flt_split hma hzm hme hsl]
  have eC : [] ++ (flt a z L).reverse.map Prod.fst = ((flt a z L).map Prod.fst).reverse := by rw [List.nil_append, List.map_reverse]
  rw [eB] at xb4
  rw [eC] at xc4
  rw [List.nil_append] at xa4
  have hAn : ((flt a z L).map Prod.fst).length ≤ 400 := by rw [List.length_map]; exact hfl a z
  generalize (flt a z L).map Prod.fst = A at xa4 xb4 xc4 hAn
  have hbf : Below w.heap.size w W4 := hb.trans ((hM ▸ kW4.below : Below wr.heap.size wr W4).mono hb.size)
  have hD1 : w.heap.size ≤ D1 ∧ w.heap.size ≤ D2 ∧ w.heap.size ≤ D3 ∧ w.heap.size ≤ D4 := by have := hb.size; omega
  clear ht hL ho hL4 hfl hsl eB eC kW4 hma hzm hme hil hi
  obtain ⟨va, xa, oa⟩ := xa4
  obtain ⟨vb, xb, ob⟩ := xb4
  obtain ⟨vc, xc, oc⟩ := xc4
  obtain ⟨spa, cpa, rfl, -, -, -, era⟩ := oa.els
  obtain ⟨spb, cpb, rfl, -, -, -, erb⟩ := ob.els
  obtain ⟨spc, cpc, rfl, -, -, -, erc⟩ := oc.els
  rw [List.length_reverse] at erc xc
  have ca : W4.cell? ⟨ga, 0, none⟩ = some (.slice spa A.length cpa) := VBlk.cell xa 0 (by simp)
  have cb : W4.cell? ⟨gb, 0, none⟩ = some (.slice spb A.length cpb) := VBlk.cell xb 0 (by simp)
  have cc : W4.cell? ⟨gc, 0, none⟩ = some (.slice spc A.length cpc) := VBlk.cell xc 0 (by simp)
  clear xa xb xc oa ob oc
  repeat (first | ((with_reducible refine WL.topT ?_ ?_); omega) | ((with_reducible refine WL.topF ?_ ?_); omega) | ((with_reducible refine WL.top64 ?_ ?_); omega) | refine WC.seq ?_ | refine WC.block ?_ | refine WC.region ?_ | refine WL.nil ?_ | refine WC.skip ?_ | refine WC.exit ?_ | refine WC.ret ?_ | refine WQ.then rfl ?_ | refine WQ.thenExit ?_ | refine WQ.thenRet ?_ | refine WQ.blk ?_ | refine WQ.blkRet ?_ | refine WQ.blkHere rfl ?_ | refine WQ.blkOther rfl ?_ | refine WL.pure rfl rfl rfl rfl ?_ | refine WL.on rfl rfl ?_ | refine WL.off rfl rfl rfl ?_ | refine WL.load rfl rfl rfl rfl rfl rfl (by assumption) ?_ | refine WC.condTrue rfl ?_ | refine WC.condFalse rfl ?_)
  refine WC.loop (fun i : Nat => [(8, .bool false), (11, .pointer (some ⟨ga, 0, none⟩)), (12, .pointer (some ⟨gb, 0, none⟩)), (13, .pointer (some ⟨gc, 0, none⟩)), (18, .int .i64 i)])
    (fun i w' => i ≤ A.length ∧ w'.heap = W4.heap ∧ Below w.heap.size w w') (fun i => A.length - i) 0 ⟨rfl, rfl, rfl, rfl, rfl, trivial⟩ ⟨Nat.zero_le _, rfl, hbf⟩ ?_
  rintro i wq ⟨hi, hh, hbq⟩
  have ca' := (heap_cell hh ⟨ga, 0, none⟩).trans ca
  by_cases hlt : i < A.length
  · obtain ⟨ba, ua, rfl, -, -, rda⟩ := era (by omega)
    obtain ⟨bb, ub, rfl, -, -, rdb⟩ := erb (by omega)
    obtain ⟨bc, uc, rfl, -, -, rdc⟩ := erc (by omega)
    obtain ⟨j, hj⟩ : ∃ j, j = A.length - 1 - i := ⟨_, rfl⟩
    have hjl : j < A.length := by omega
    obtain ⟨_, -, e1, r1⟩ := rda i hlt
    obtain ⟨_, -, e2, r2⟩ := rdb i hlt
    obtain ⟨_, -, e3, r3⟩ := rdc j hjl
    have er : A.reverse.getD j noKy = A.getD i noKy := by
      rw [List.getD_eq_getElem?_getD, List.getD_eq_getElem?_getD, List.getElem?_reverse hjl, show A.length - 1 - j = i by omega]
    rw [er] at e3
    have e1' := e1
    have e2' := e2
    have e3' := e3
    unfold PS1 at e1' e2' e3'
    subst e1'
    subst e2'
    subst e3'
    replace r1 := r1 0 _ rfl
    replace r2 := r2 0 _ rfl
    replace r3 := r3 0 _ rfl
    generalize A.getD i noKy = x at r1 r2 r3
    clear rda rdb rdc era erb erc e1 e2 e3 er
    repeat (first | ((with_reducible refine WL.topT ?_ ?_); omega) | ((with_reducible refine WL.topF ?_ ?_); omega) | ((with_reducible refine WL.top64 ?_ ?_); omega) | refine WC.seq ?_ | refine WC.block ?_ | refine WC.region ?_ | refine WL.nil ?_ | refine WC.skip ?_ | refine WC.exit ?_ | refine WC.ret ?_ | refine WQ.then rfl ?_ | refine WQ.thenExit ?_ | refine WQ.thenRet ?_ | refine WQ.blk ?_ | refine WQ.blkRet ?_ | refine WQ.blkHere rfl ?_ | refine WQ.blkOther rfl ?_ | refine WL.pure rfl rfl rfl rfl ?_ | refine WL.on rfl rfl ?_ | refine WL.off rfl rfl rfl ?_ | refine WL.load rfl rfl rfl rfl rfl rfl (by assumption) ?_ | refine WC.condTrue rfl ?_ | refine WC.condFalse rfl ?_)
    refine WC.drawn 23 (fun wx => wx.heap = W4.heap) fun w2 hd => ?_
    have hS : w2.heap = W4.heap := hd.heap.trans hh
    have hb2 : Below w.heap.size w w2 := hbq.trans (hd.below _)
    (((first | refine WD.free 1 rfl (by kernel_rfl) rfl rfl (fun _ _ _ _ _ h => h) rfl rfl (.inr hS) ?_ | refine WD.skip 1 rfl (by kernel_rfl) rfl rfl (fun _ _ _ _ _ h => h) rfl (.inr hS) ?_); try (first | ((with_reducible refine WD.topT ?_ ?_); omega) | ((with_reducible refine WD.topF ?_ ?_); omega) | ((with_reducible refine WD.top64 ?_ ?_); omega))); ((first | refine WD.free 5 rfl (by kernel_rfl) rfl rfl (fun _ _ _ _ _ h => h) rfl rfl (.inr hS) ?_ | refine WD.skip 5 rfl (by kernel_rfl) rfl rfl (fun _ _ _ _ _ h => h) rfl (.inr hS) ?_); try (first | ((with_reducible refine WD.topT ?_ ?_); omega) | ((with_reducible refine WD.topF ?_ ?_); omega) | ((with_reducible refine WD.top64 ?_ ?_); omega))))
    refine WD.load 0 [2, 3, 8, 9, 23] rfl (by kernel_rfl) rfl rfl (fun _ _ _ _ _ h => h) rfl rfl rfl rfl (fun wx hx => (heap_cell hx _).trans ca) hS ?_
    refine WD.idx 2 i (ua + i * 1) rfl (by kernel_rfl) rfl rfl (fun _ _ _ _ _ h => h) rfl rfl rfl rfl rfl rfl hlt rfl (.inr hS) ?_
    refine WD.load 3 [8, 9, 23] rfl (by kernel_rfl) rfl rfl (fun _ _ _ _ _ h => h) rfl rfl rfl rfl (fun wx hx => (heap_cell hx _).trans r1) hS ?_
    refine WD.load 4 [6, 7, 8, 9, 23] rfl (by kernel_rfl) rfl rfl (fun _ _ _ _ _ h => h) rfl rfl rfl rfl (fun wx hx => (heap_cell hx _).trans cb) hS ?_
    refine WD.idx 6 i (ub + i * 1) rfl (by kernel_rfl) rfl rfl (fun _ _ _ _ _ h => h) rfl rfl rfl rfl rfl rfl hlt rfl (.inr hS) ?_
    refine WD.load 7 [8, 9, 23] rfl (by kernel_rfl) rfl rfl (fun _ _ _ _ _ h => h) rfl rfl rfl rfl (fun wx hx => (heap_cell hx _).trans r2) hS ?_
    (((first | refine WD.free 8 rfl (by kernel_rfl) rfl rfl (fun _ _ _ _ _ h => h) rfl rfl (.inr hS) ?_ | refine WD.skip 8 rfl (by kernel_rfl) rfl rfl (fun _ _ _ _ _ h => h) rfl (.inr hS) ?_); try (first | ((with_reducible refine WD.topT ?_ ?_); omega) | ((with_reducible refine WD.topF ?_ ?_); omega) | ((with_reducible refine WD.top64 ?_ ?_); omega))))
    refine WD.top (congrArg Value.bool (show (!(x.toList == x.toList)) = false by simp)) ?_
    (((first | refine WD.free 9 rfl (by kernel_rfl) rfl rfl (fun _ _ _ _ _ h => h) rfl rfl (.inr hS) ?_ | refine WD.skip 9 rfl (by kernel_rfl) rfl rfl (fun _ _ _ _ _ h => h) rfl (.inr hS) ?_); try (first | ((with_reducible refine WD.topT ?_ ?_); omega) | ((with_reducible refine WD.topF ?_ ?_); omega) | ((with_reducible refine WD.top64 ?_ ?_); omega))); ((first | refine WD.free 11 rfl (by kernel_rfl) rfl rfl (fun _ _ _ _ _ h => h) rfl rfl (.inr hS) ?_ | refine WD.skip 11 rfl (by kernel_rfl) rfl rfl (fun _ _ _ _ _ h => h) rfl (.inr hS) ?_); try (first | ((with_reducible refine WD.topT ?_ ?_); omega) | ((with_reducible refine WD.topF ?_ ?_); omega) | ((with_reducible refine WD.top64 ?_ ?_); omega))); ((first | refine WD.free 18 rfl (by kernel_rfl) rfl rfl (fun _ _ _ _ _ h => h) rfl rfl (.inr hS) ?_ | refine WD.skip 18 rfl (by kernel_rfl) rfl rfl (fun _ _ _ _ _ h => h) rfl (.inr hS) ?_); try (first | ((with_reducible refine WD.topT ?_ ?_); omega) | ((with_reducible refine WD.topF ?_ ?_); omega) | ((with_reducible refine WD.top64 ?_ ?_); omega))))
    refine WD.load 10 [12, 13, 22, 23] rfl (by kernel_rfl) rfl rfl (fun _ _ _ _ _ h => h) rfl rfl rfl rfl (fun wx hx => (heap_cell hx _).trans ca) hS ?_
    refine WD.idx 12 i (ua + i * 1) rfl (by kernel_rfl) rfl rfl (fun _ _ _ _ _ h => h) rfl rfl rfl rfl rfl rfl hlt rfl (.inr hS) ?_
    refine WD.load 13 [22, 23] rfl (by kernel_rfl) rfl rfl (fun _ _ _ _ _ h => h) rfl rfl rfl rfl (fun wx hx => (heap_cell hx _).trans r1) hS ?_
    refine WD.load 14 [20, 21, 22, 23] rfl (by kernel_rfl) rfl rfl (fun _ _ _ _ _ h => h) rfl rfl rfl rfl (fun wx hx => (heap_cell hx _).trans cc) hS ?_
    refine WD.load 15 [16, 17, 19, 20, 21, 22, 23] rfl (by kernel_rfl) rfl rfl (fun _ _ _ _ _ h => h) rfl rfl rfl rfl (fun wx hx => (heap_cell hx _).trans ca) hS ?_
    (((first | refine WD.free 16 rfl (by kernel_rfl) rfl rfl (fun _ _ _ _ _ h => h) rfl rfl (.inr hS) ?_ | refine WD.skip 16 rfl (by kernel_rfl) rfl rfl (fun _ _ _ _ _ h => h) rfl (.inr hS) ?_); try (first | ((with_reducible refine WD.topT ?_ ?_); omega) | ((with_reducible refine WD.topF ?_ ?_); omega) | ((with_reducible refine WD.top64 ?_ ?_); omega))); ((first | refine WD.free 17 rfl (by kernel_rfl) rfl rfl (fun _ _ _ _ _ h => h) rfl rfl (.inr hS) ?_ | refine WD.skip 17 rfl (by kernel_rfl) rfl rfl (fun _ _ _ _ _ h => h) rfl (.inr hS) ?_); try (first | ((with_reducible refine WD.topT ?_ ?_); omega) | ((with_reducible refine WD.topF ?_ ?_); omega) | ((with_reducible refine WD.top64 ?_ ?_); omega))); ((first | refine WD.free 19 rfl (by kernel_rfl) rfl rfl (fun _ _ _ _ _ h => h) rfl rfl (.inr hS) ?_ | refine WD.skip 19 rfl (by kernel_rfl) rfl rfl (fun _ _ _ _ _ h => h) rfl (.inr hS) ?_); try (first | ((with_reducible refine WD.topT ?_ ?_); omega) | ((with_reducible refine WD.topF ?_ ?_); omega) | ((with_reducible refine WD.top64 ?_ ?_); omega))))
    refine WD.idx 20 j (uc + j * 1) rfl (by kernel_rfl) rfl rfl (fun _ _ _ _ _ h => h) rfl rfl rfl rfl rfl (by omega) hjl rfl (.inr hS) ?_
    refine WD.load 21 [22, 23] rfl (by kernel_rfl) rfl rfl (fun _ _ _ _ _ h => h) rfl rfl rfl rfl (fun wx hx => (heap_cell hx _).trans r3) hS ?_
    (((first | refine WD.free 22 rfl (by kernel_rfl) rfl rfl (fun _ _ _ _ _ h => h) rfl rfl (.inr hS) ?_ | refine WD.skip 22 rfl (by kernel_rfl) rfl rfl (fun _ _ _ _ _ h => h) rfl (.inr hS) ?_); try (first | ((with_reducible refine WD.topT ?_ ?_); omega) | ((with_reducible refine WD.topF ?_ ?_); omega) | ((with_reducible refine WD.top64 ?_ ?_); omega))))
    refine WD.top (congrArg Value.bool (show (!(x.toList == x.toList)) = false by simp)) ?_
    refine WD.one 23 (by kernel_rfl) rfl ?_
    refine WL.pure rfl rfl rfl rfl ?_
    refine WL.nil (WQ.dk (.inl rfl) ?_)
    refine WD.done (by kernel_rfl) ?_
    repeat (first | ((with_reducible refine WL.topT ?_ ?_); omega) | ((with_reducible refine WL.topF ?_ ?_); omega) | ((with_reducible refine WL.top64 ?_ ?_); omega) | refine WC.seq ?_ | refine WC.block ?_ | refine WC.region ?_ | refine WL.nil ?_ | refine WC.skip ?_ | refine WC.exit ?_ | refine WC.ret ?_ | refine WQ.then rfl ?_ | refine WQ.thenExit ?_ | refine WQ.thenRet ?_ | refine WQ.blk ?_ | refine WQ.blkRet ?_ | refine WQ.blkHere rfl ?_ | refine WQ.blkOther rfl ?_ | refine WL.pure rfl rfl rfl rfl ?_ | refine WL.on rfl rfl ?_ | refine WL.off rfl rfl rfl ?_ | refine WC.condTrue rfl ?_ | refine WC.condFalse rfl ?_)
    exact WQ.again (i + 1) ⟨rfl, rfl, rfl, rfl, rfl, trivial⟩ ⟨hlt, hS, hb2⟩ (by omega)
  · obtain rfl : i = A.length := by omega
    repeat (first | ((with_reducible refine WL.topT ?_ ?_); omega) | ((with_reducible refine WL.topF ?_ ?_); omega) | ((with_reducible refine WL.top64 ?_ ?_); omega) | refine WC.seq ?_ | refine WC.block ?_ | refine WC.region ?_ | refine WL.nil ?_ | refine WC.skip ?_ | refine WC.exit ?_ | refine WC.ret ?_ | refine WQ.then rfl ?_ | refine WQ.thenExit ?_ | refine WQ.thenRet ?_ | refine WQ.blk ?_ | refine WQ.blkRet ?_ | refine WQ.blkHere rfl ?_ | refine WQ.blkOther rfl ?_ | refine WL.pure rfl rfl rfl rfl ?_ | refine WL.on rfl rfl ?_ | refine WL.off rfl rfl rfl ?_ | refine WL.load rfl rfl rfl rfl rfl rfl (by assumption) ?_ | refine WC.condTrue rfl ?_ | refine WC.condFalse rfl ?_)
    refine WL.call rfl rfl rfl rfl rfl Try.func9 rfl (by kernel_rfl) known13_any ?_
    rintro _ w6 ⟨rfl, hb6⟩
    refine ⟨_, rfl, ?_⟩
    have m6 : MarkAt w6 [D4, D3, D2, D1] := ⟨mW4.1, fun D hD => by
      have h1 : wq.heap[D]? = some (.deferred (some [])) := by rw [hh]; exact mW4.2 D hD
      exact (hb6.block D (lt_of_block h1)).trans h1⟩
    repeat (first | ((with_reducible refine WL.topT ?_ ?_); omega) | ((with_reducible refine WL.topF ?_ ?_); omega) | ((with_reducible refine WL.top64 ?_ ?_); omega) | refine WC.seq ?_ | refine WC.block ?_ | refine WC.region ?_ | refine WL.nil ?_ | refine WC.skip ?_ | refine WC.exit ?_ | refine WC.ret ?_ | refine WQ.then rfl ?_ | refine WQ.thenExit ?_ | refine WQ.thenRet ?_ | refine WQ.blk ?_ | refine WQ.blkRet ?_ | refine WQ.blkHere rfl ?_ | refine WQ.blkOther rfl ?_ | refine WL.pure rfl rfl rfl rfl ?_ | refine WL.on rfl rfl ?_ | refine WL.off rfl rfl rfl ?_ | refine WC.condTrue rfl ?_ | refine WC.condFalse rfl ?_)
    refine WQ.retM1 [D4, D3, D2, D1] rfl rfl m6 ⟨rfl, ?_⟩
    refine (((Keep.of_below (hbq.trans (hb6.mono hbq.size)))).trans ((shut_keep _ w6).mono fun k (h : k < w.heap.size) hE => ?_)).below
    simp at hE
    omega
end K
end Go.Proofs.Ytilmfnlaenneeaa

/-
  For every script and every three texts the law TreeSplits answers true, and the arguments read as they did. No condition.
-/
namespace Go.Proofs.Ytilmfnlaenneeaa.treeSplits
open Go.ChangeShapes Go.WideShapes Go.ChangeAt Go.RowKit
open Go.ChangeMaps (open_string shut_string)
open Go.Proofs.Ytilmfnlaenneeaa

set_option maxRecDepth 100000 in
theorem lifted (os : Os) (started : os.Started) (H : Type) (enc : TypeId × Value → H) :
    ReturnsInHanded {} Try.checked os 3 .any (Rows.treeSplitsSpec.pre6 enc Try.prog Try.f3 Rows.treeSplitsRow.domain false) (Rows.treeSplitsSpec.post enc Try.prog Try.f3 false true false false) := by
  refine returnsInHanded_of_change_sized (C := Try.checked) Try.ownKnob started (by kernel_rfl) Try.func3
    (ChangeSpec.witness6 (enc := enc) (C := Try.checked) false ⟨#[], #[.slice none 0 0, .string ByteArray.empty, .string ByteArray.empty, .string ByteArray.empty], []⟩ 8 (by kernel_rfl) (by kernel_rfl) (by kernel_rfl) (by kernel_rfl)) ?_
  intro W base args ds gs before hval0 hW hcnd hsz _
  have hval : ∀ (j : Nat) t v, Try.f3.params[j]? = some t → args[j]? = some v → Value.okWide Try.prog W .any base t v := hval0
  have hW' := hW
  obtain ⟨p, q, hA0, hV, rfl, hfz, hnd⟩ := hW
  have hA : DataW.TrodAll enc Try.prog W 0 (fun _ => true) true Try.f3.params.toList args.toList ds p := hA0
  rw [Try.params3] at hA hval
  obtain ⟨v0, vs0, d0, ds0, p0, q0, hargs, rfl, rfl, h0, r0⟩ := trodAll_cons hA
  obtain ⟨v1, vs1, d1, ds1, p1, q1, rfl, rfl, rfl, h1, r1⟩ := trodAll_cons r0
  obtain ⟨v2, vs2, d2, ds2, p2, q2, rfl, rfl, rfl, h2, r2⟩ := trodAll_cons r1
  obtain ⟨v3, vs3, d3, ds3, p3, q3, rfl, rfl, rfl, h3, r3⟩ := trodAll_cons r2
  obtain ⟨rfl, rfl, rfl⟩ := trodAll_nil r3
  obtain rfl : args = #[v0, v1, v2, v3] := by cases args; simp_all
  obtain ⟨rfl, rfl⟩ := trodVars_none hV
  have k0 := h0
  have lt0 : ∀ x ∈ p0, x.block < W.heap.size := by obtain ⟨m, hm⟩ := k0; exact DataW.trod_lt m _ _ _ hm
  obtain ⟨l0, is0⟩ := K.open_steps (hval 0 22 v0 rfl rfl) h0 (fun n hn => by have := List.all_eq_true.1 hsz n (DataW.weights_mem_each (j := 0) rfl rfl n hn); simpa using this)
  have k1 := h1
  have lt1 : ∀ x ∈ p1, x.block < W.heap.size := by obtain ⟨m, hm⟩ := k1; exact DataW.trod_lt m _ _ _ hm
  obtain ⟨s1, rfl, eq1, -, hs1⟩ := open_string Try.underlying9 (hval 1 9 v1 rfl rfl) h1
  have k2 := h2
  have lt2 : ∀ x ∈ p2, x.block < W.heap.size := by obtain ⟨m, hm⟩ := k2; exact DataW.trod_lt m _ _ _ hm
  obtain ⟨s2, rfl, eq2, -, hs2⟩ := open_string Try.underlying9 (hval 2 9 v2 rfl rfl) h2
  have k3 := h3
  have lt3 : ∀ x ∈ p3, x.block < W.heap.size := by obtain ⟨m, hm⟩ := k3; exact DataW.trod_lt m _ _ _ hm
  obtain ⟨s3, rfl, eq3, -, hs3⟩ := open_string Try.underlying9 (hval 3 9 v3 rfl rfl) h3
  clear hA0 hval0
  have z1 : s1.size ≤ 140737488355328 := by
    have := sized_string hsz (j := 1) rfl (congrArg some eq1)
    rw [Array.length_toList] at this
    exact Nat.le_trans this (by decide)
  have z2 : s2.size ≤ 140737488355328 := by
    have := sized_string hsz (j := 2) rfl (congrArg some eq2)
    rw [Array.length_toList] at this
    exact Nat.le_trans this (by decide)
  have z3 : s3.size ≤ 140737488355328 := by
    have := sized_string hsz (j := 3) rfl (congrArg some eq3)
    rw [Array.length_toList] at this
    exact Nat.le_trans this (by decide)
  refine (K.splits_law is0 s1 s2 s3 z1 z2 z3).mono fun e W' ⟨he, bel⟩ => ?_
  subst he
  exact ⟨_, rfl, _, _, _, [], _, [], hW', trodAll_mk1 (shut_bool Try.underlying4 _), (trodAll_cons_mk (Below.trod Try.laid (by kernel_rfl) (of_decide_eq_true (by kernel_rfl)) k0 bel lt0) (trodAll_cons_mk (Below.trod Try.laid (by kernel_rfl) (of_decide_eq_true (by kernel_rfl)) k1 bel lt1) (trodAll_cons_mk (Below.trod Try.laid (by kernel_rfl) (of_decide_eq_true (by kernel_rfl)) k2 bel lt2) (trodAll_cons_mk (Below.trod Try.laid (by kernel_rfl) (of_decide_eq_true (by kernel_rfl)) k3 bel lt3) trodAll_mk0)))), rfl, bel.frame _, fun h => by cases h⟩

theorem over : Rows.treeSplitsRow.holds Try.pinned (OpenSpec.ofChange Rows.treeSplitsSpec) :=
  OpenClaim.holds_of_wide 3 Try.f3 rfl rfl rfl rfl rfl rfl rfl ⟨rfl, rfl, rfl, rfl, rfl⟩ rfl rfl rfl rfl rfl (by kernel_rfl) Try.func3 (by kernel_rfl)
    (of_decide_eq_true (by kernel_rfl)) (by unfold Func.isWrapper; first | (rw [if_pos (by decide +kernel)]; kernel_rfl) | (rw [if_neg (by decide +kernel)]; exact ⟨rfl, rfl⟩))
    (fun os started H enc _ => lifted os started H enc)

/-- The statement. -/
theorem proved : Rows.TreeSplitsSaid := over
end Go.Proofs.Ytilmfnlaenneeaa.treeSplits
