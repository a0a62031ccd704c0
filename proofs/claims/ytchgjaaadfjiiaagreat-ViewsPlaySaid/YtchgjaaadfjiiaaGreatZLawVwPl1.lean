/-
  For every row of rows of acts and every number the law ViewsPlay answers true, and the arguments read as they did. No condition.
-/
import Derived.Test.YtchgjaaadfjiiaaGreatZVwLh9
import Derived.ChangeMaps5
namespace Go.Proofs.YtchgjaaadfjiiaaGreat
open Go.RowKit Go.Maps
namespace Vw
open K
set_option maxRecDepth 100000
theorem tot_le (LL : List (List Ac)) (i : Nat) : tot (LL.take i) ≤ tot LL := by
  unfold tot; have : (LL.map List.length).sum = ((LL.take i).map List.length).sum + ((LL.drop i).map List.length).sum := by rw [← List.sum_append, ← List.map_append, List.take_append_drop]
  omega
theorem builtBk4 (n : Int) (p : Addr) (k c : Nat) : Tryz.prog.built bkT [(0, .int .i64 n), (4, .slice (some p) k c)] = some (bkC ⟨n, 0, 0, Dig.Z32, []⟩ (.slice (some p) k c)).toArray := by kernel_rfl
def dropE : En := { noE with kind := 6, table := 1 }
theorem drop_is (O : Nat → Prop) (f : Nat) (w : World) : IsEo O (f + 1) w dropE (enC dropE zCells) := enZ rfl rfl noTs ⟨by show R64 6; omega, by show R64 1; omega, by show R64 0; omega, by show R64 0; omega, by show R64 0; omega, by show R64 0; omega⟩
theorem drop_blk {w : World} {g f n : Nat} (hn : n ≤ 1000000) (h : VBlk enT w g (enC dropE zCells)) : IsBo (fun x => x = g) (f + 1) w ⟨n, 0, 0, Dig.Z32, [dropE]⟩ (bkC ⟨n, 0, 0, Dig.Z32, []⟩ (.slice (some ⟨g, 0, none⟩) 1 1)) := by
  refine ⟨_, rfl, ⟨some ⟨g, 0, none⟩, 1, rfl, Nat.le_refl _, by omega, (fun h => by cases h), fun _ => ⟨g, 0, rfl, h.lt, rfl, fun j hj => ?_⟩⟩, rfl, z32_byt, ⟨by show _ ≤ (n : Int); omega, by show (n : Int) ≤ _; omega⟩, by show R64 0; omega, by show R64 0; omega⟩; have hj1 : j < 1 := hj; obtain rfl : j = 0 := by omega
  exact ⟨_, rfl, drop_is _ _ _, VBlk.rangeAt h⟩
theorem drop_sm (f : Nat) (n : Int) : BkSm (f + 1) ⟨n, 0, 0, Dig.Z32, [dropE]⟩ := by
  refine ⟨by show 1 ≤ 3000; omega, fun k hk => ?_, fun e he _ => ?_⟩
  · have hk1 : k < 1 := hk
    obtain rfl : k = 0 := by omega
    exact zSm f
  · have : e = dropE := List.mem_singleton.1 he
    rw [this]; exact zLen
set_option maxHeartbeats 16000000 in
theorem play_law {w : World} {f : Nat} {v : Value} {LL : List (List Ac)} (h : IsActss (fun b => b < w.heap.size) (f + 1) w v LL) (hLL : LL.length ≤ 140737488355328) (c : Int) : Calls Tryz.prog 3 #[v, .int .i64 c] w fun e w' => e = .returned (.bool true) ∧ Below w.heap.size w w' := by
  obtain ⟨spv, capv, rfl, hc1, hc2, hc3, hrow⟩ := id h; refine enter (args := [.slice spv LL.length capv, .int .i64 c]) Tryz.func3 rfl Tryz.ntmps3 rfl ?_; refine K.kgo ?_; refine WL.call rfl rfl rfl rfl rfl Tryz.func8 rfl (by kernel_rfl) (heavy_any h) ?_; rintro _ w1 ⟨b1, hv, rfl, hlite⟩; refine ⟨_, rfl, ?_⟩; cases hv with
  | true =>
    refine K.kgo ?_; refine WL.call rfl rfl rfl rfl rfl Tryz.func9 rfl (by kernel_rfl) known_any ?_; rintro _ w2 ⟨rfl, b2⟩; refine ⟨_, rfl, ?_⟩; refine K.kgo ?_; exact WQ.ret1 rfl rfl ⟨rfl, b1.trans (b2.mono b1.size)⟩
  | false =>
  obtain ⟨hl60, htot, hlt⟩ := hlite rfl; refine K.kgo ?_; refine WL.call rfl rfl rfl rfl rfl Tryz.func10 rfl (by kernel_rfl) (pnew_any (f := f + 1)) ?_; rintro _ w2 ⟨vb0, M1, rfl, hp2, b2, m1⟩; refine ⟨_, rfl, ?_⟩; refine K.kgo ?_; refine WL.nilP rfl rfl rfl rfl rfl rfl (by kernel_rfl) ?_; refine K.kgo ?_; refine WL.call rfl rfl rfl rfl rfl Tryz.func11 rfl (by kernel_rfl) (rnew_any (f := f + 1)) ?_; rintro _ w3 ⟨rb, M2, rfl, hr3, b3, m2⟩; refine ⟨_, rfl, ?_⟩; have z1 := b1.size; have z2 := b2.size; have hlt1 := hp2.lt; have h3 : Duo w.heap.size w3 vb0 rb M1 (fun _ => False) M2 (fun _ => False) f st0 st0 0 := ⟨hp2.below b3, hr3, fun x hx => ⟨by have := m1 x hx; omega, fun hh => by have := m2 x hh; have := hlt1 x (.inl hx); omega, fun hh => hh⟩, fun x hx => ⟨by have := m2 x hx; omega, fun hh => hh⟩⟩; have c3 : Below w.heap.size w w3 := (b1.trans (b2.mono z1)).trans (b3.mono (by omega)); clear hp2 hr3 hlt1 m1 m2 b1 b2 b3 z1 z2; refine K.kgo ?_; refine WC.loop (fun q : Nat × Nat => [(0, .slice spv LL.length capv), (1, .int .i64 c), (5, .pointer (some ⟨q.2, 0, none⟩)), (6, .pointer (some ⟨rb, 0, none⟩)), (7, .int .i64 q.1)])
    (fun q wx => q.1 ≤ LL.length ∧ Below w.heap.size w wx ∧ ∃ s M D M' D', Duo w.heap.size wx q.2 rb M D M' D' f s s (5 * tot (LL.take q.1) + 2 * q.1) ∧ InvN s) (fun q => LL.length - q.1) (0, vb0) ⟨rfl, rfl, rfl, rfl, rfl, trivial⟩
    ⟨Nat.zero_le _, c3, st0, _, _, _, _, h3, inv0⟩ ?_
  clear h3 c3; rintro ⟨i, vb⟩ wl ⟨hi, bl, s, M, D, M', D', hD, hI⟩; simp only at hi hD ⊢
  by_cases hik : i < LL.length
  case neg =>
    obtain rfl : i = LL.length := by omega
    refine K.kgo ?_; refine WL.call rfl rfl rfl rfl rfl Tryz.func9 rfl (by kernel_rfl) known_any ?_; rintro _ wk ⟨rfl, bk⟩; refine ⟨_, rfl, ?_⟩; refine K.kgo ?_; exact WQ.ret1 rfl rfl ⟨rfl, bl.trans (bk.mono bl.size)⟩
  case pos =>
  have zl := bl.size; obtain ⟨bq, oq, rfl, hbq, hOq, hcells⟩ := hrow (by omega); obtain ⟨cs, -, ⟨u, rfl, hu⟩, hat⟩ := hcells i hik; have hts := tot_snoc LL hik; have htl := tot_le LL (i + 1); have hlL : ∀ x ∈ LL.getD i [], Lite (f + 1) x := hlt _ (by rw [List.getD_eq_getElem?_getD, List.getElem?_eq_getElem hik]; exact List.getElem_mem hik); generalize LL.getD i [] = L at hu hts hlL; have hcu : wl.cell? ⟨bq, oq + i * 1, none⟩ = some u := (bl.cell (p := ⟨bq, oq + i * 1, none⟩) hbq).trans (hat 0 _ rfl); obtain ⟨spu, capu, rfl, -⟩ := id hu; refine K.kgl ?_; refine WL.idx i (oq + i * 1) rfl rfl rfl rfl rfl rfl rfl rfl hik rfl ?_; refine K.kgl ?_; refine WL.call rfl rfl rfl rfl rfl Tryz.func12 rfl (by kernel_rfl) (made_any hD.r hI.1.copy (fun x hx => by omega) (hu.below bl) hlL (by omega)) ?_; rintro _ w5 ⟨b5, bc, rfl, hbo⟩; refine ⟨_, rfl, ?_⟩; have hsm : BkSm (f + 1) (madeR s L) := madeR_sm hlL (by omega); have hel : (madeR s L).ents.length = L.length := actsR_len _ _ _ _; have hbl := hbo.len; have ltM := hD.p.lt; have ltR := hD.r.lt; have hD5 := hD.below b5; have z5 := b5.size; refine WL.alloc (z := .agg (bkC noB (.slice none 0 0)).toArray) rfl rfl rfl rfl (fun _ => by kernel_rfl) fun g8 w6 f6 => ?_; refine WL.storeRow rfl rfl rfl rfl rfl rfl f6.blk hbl rfl hbo.one ?_; obtain ⟨v8, b8, -, e8⟩ := rowed bc (Below.refl w5.heap.size w5) f6; generalize w6.setRow g8 _ = w7 at v8 b8 ⊢; clear f6; have hD7 := hD5.below b8; have hb7 := IsBo.there (IsBo.below hbo b8); have c7 : Below w.heap.size w w7 := (bl.trans (b5.mono zl)).trans (b8.mono (by omega)); have z8 := b8.size; clear hbo hD5; refine K.kgo ?_; refine WC.drawn 5 (fun wx => VBlk bkT wx g8 bc) fun wa hdr => ?_; have dra : Below w7.heap.size w7 wa := hdr.below _; have hS : VBlk bkT wa g8 bc := VBlk.below v8 dra (VBlk.lt v8); clear hdr; refine K.fr [0] hS ?_; refine K.wm 1 [2, 5, 6, 7, 8, 9, 10, 11, 12] rfl rfl rfl rfl rfl rfl rfl (fun wx hx => VBlk.rangeAt hx) hbl hS ?_; refine K.fr [3] hS ?_; refine K.wm 4 [5, 6, 7, 8, 9, 10, 11, 12] rfl rfl rfl rfl rfl rfl rfl (fun wx hx => VBlk.rangeAt hx) hbl hS ?_; refine K.wo 2 ?_; have hDa := hD7.below dra; have hba := IsBo.below hb7 dra; have ca : Below w.heap.size w wa := c7.trans (dra.mono c7.size); have za := dra.size; refine WL.call rfl rfl rfl rfl rfl Tryz.func13 rfl (by kernel_rfl) (papply_any hDa.p hI (fun x hx => by omega) hba hsm (by omega)) ?_; rintro _ w9 hp9; obtain ⟨rfl, k9, M3, D3, hD9⟩ := hDa.pres hp9 (by omega) (by omega) ca.size; refine ⟨_, rfl, ?_⟩; have z9 := k9.size; have hS9 : VBlk bkT w9 g8 bc := hS.keep k9 ⟨by have := VBlk.lt hS; omega, fun hm => by have := ltM g8 (.inl hm); omega⟩; have hb9 := IsBo.keep hba k9 fun x hx _ => ⟨by omega, fun hm => by have := ltM x (.inl hm); have := (hD.a1 x hm).1; omega⟩; have c9 : Below w.heap.size w w9 := ((Keep.of_below ca).trans (k9.mono fun x (hx : x < w.heap.size) => ⟨by have := ca.size; omega, fun hm => by have := (hD.a1 x hm).1; omega⟩)).below; refine K.di hS9 ?_; replace hS := hS9; refine K.wo 5 ?_; refine WL.call rfl rfl rfl rfl rfl Tryz.func14 rfl (by kernel_rfl) (rapply15_any hD9.r (fun x hx => by omega) hb9 hsm (by omega) hI.1.copy) ?_; rintro _ w10 hp10; obtain ⟨rfl, k10, M4, D4, hD10⟩ := hD9.rres (N'' := 5 * tot (LL.take (i + 1)) + 2 * (i + 1)) hp10 (by omega) (by omega) (by omega) (by have := c9.size; omega); refine ⟨_, rfl, ?_⟩; have z10 := k10.size; have c10 : Below w.heap.size w w10 := ((Keep.of_below c9).trans (k10.mono fun x (hx : x < w.heap.size) => ⟨by have := c9.size; omega, fun hm => by have := (hD9.a2 x hm).1; omega⟩)).below; have hI2 := appR_inv hI (madeR s L); clear hp9 hp10 k9 k10 hb9 hba hDa hD9 hD7 hS hS9 hb7 hsm; generalize hA : appR s (madeR s L) = A at hD10 hI2 ⊢; obtain ⟨ac, s2⟩ := A; simp only at hD10 hI2 ⊢; refine K.dl ?_
  (refine K.fzl 6 rfl (q := ?_); refine K.fzl 7 rfl (q := ?_); refine K.fzl 8 rfl (q := ?_); refine K.fzl 9 rfl (q := ?_))
  refine K.wo 10 ?_; refine WL.on rfl rfl ?_; refine WL.call rfl rfl rfl rfl rfl Tryz.func15 rfl (by kernel_rfl) (stood_any hD10.p hD10.r hI2.1 (by omega) (by omega)) ?_; rintro _ w11 ⟨b11, rfl⟩; refine ⟨_, rfl, ?_⟩; have hD11 := hD10.below b11; have c11 := c10.trans (b11.mono c10.size); clear hD10 b11; refine K.dl ?_
  (refine K.fzl 11 rfl (q := ?_))
  refine K.wo 12 ?_; refine WL.pure rfl rfl rfl rfl ?_; refine K.dl ?_; refine WD.done (by kernel_rfl) ?_
  by_cases hic : (i : Int) = c
  case neg =>
    refine K.kgo ?_; exact WQ.again (i + 1, vb) ⟨rfl, rfl, rfl, rfl, rfl, trivial⟩ ⟨hik, c11, s2, _, _, _, _, hD11, hI2⟩ (by show LL.length - (i + 1) < LL.length - i; omega)
  case pos =>
    have hok := hD11.p; refine K.kgo ?_; refine WL.call rfl rfl rfl rfl rfl Tryz.func16 rfl (by kernel_rfl) (pcopy_any hD11.p) ?_; rintro _ w12 ⟨xb, Mx, rfl, hx, b12, mx⟩; refine ⟨_, rfl, ?_⟩; have hD12 := hD11.below b12; have c12 := c11.trans (b12.mono c11.size); obtain ⟨rcp, rOc, rv, mb, rk, rr⟩ := id hD12.r; have d2 := rr.vb.cell 2 (by simp); simp only [List.getD_cons_succ, List.getD_cons_zero] at d2; have hsn := rr.ok; refine K.kgo ?_; refine WL.nilP rfl rfl rfl rfl rfl rfl (by kernel_rfl) ?_; refine K.kgl ?_; refine WL.build (enC dropE zCells) rfl rfl rfl rfl rfl (builtE6 1) ?_; refine WL.lit1 rfl rfl rfl rfl rfl rfl rfl (drop_is (fun _ => True) f w).len ⟨by omega, by omega⟩ (by kernel_rfl) fun g13 w13 f13 => ?_; refine WL.build (bkC ⟨s2.n, 0, 0, Dig.Z32, []⟩ (.slice (some ⟨g13, 0, none⟩) 1 1)) rfl rfl rfl rfl rfl (builtBk4 _ _ _ _) ?_; have hD13 := hD12.below f13.below; have hx13 := hx.below f13.below; have c13 := c12.trans (f13.below.mono c12.size); have lt11p := hD11.p.lt; have lt11r := hD11.r.lt; have ltx := hx.lt; refine WL.call rfl rfl rfl rfl rfl Tryz.func13 rfl (by kernel_rfl) (papply_any (E := fun x => x = g13) hD13.p hI2 (fun x hx => by rw [hx]; exact VBlk.lt f13.blk) (drop_blk (by omega) f13.blk) (drop_sm f s2.n) (by show _ + 4 * 1 + 4 ≤ _; omega)) ?_; rintro _ w14 ⟨M5, D5, rfl, -, k14, -⟩; refine ⟨_, rfl, ?_⟩; have z12 := b12.size; have z13 := f13.below.size; have z14 := k14.size; have c14 : Below w.heap.size w w14 := ((Keep.of_below c13).trans (k14.mono fun x (hx : x < w.heap.size) => ⟨by have := c13.size; omega, fun hm => by have := (hD11.a1 x hm).1; omega⟩)).below; refine K.kgo ?_; refine WQ.again (i + 1, xb) ⟨rfl, rfl, rfl, rfl, rfl, trivial⟩ ⟨hik, c14, s2, Mx, _, _, _, ⟨hx13.keep k14 fun y hy => ⟨by have := ltx y hy; omega, fun hm => ?_⟩, hD13.r.keep k14 fun y hy => ⟨by have := lt11r y hy; omega, fun hm => hy.elim (hD11.a1 y hm).2.1 (hD11.a1 y hm).2.2⟩, fun y hy => ?_, fun y hy => hD11.a2 y hy⟩, hI2⟩ (by show LL.length - (i + 1) < LL.length - i; omega)
    · rcases hy with hy | hy
      · have := mx y hy; have := lt11p y (.inl hm); omega
      · exact hD11.p.sep y hm hy
    · have := mx y hy
      exact ⟨by have := c11.size; omega, fun hh => by have := lt11r y (.inl hh); omega, fun hh => by have := lt11r y (.inr hh); omega⟩
end Vw
end Go.Proofs.YtchgjaaadfjiiaaGreat

namespace Go.Proofs.YtchgjaaadfjiiaaGreat.viewsPlay
open Go.ChangeShapes Go.WideShapes Go.ChangeAt Go.RowKit
open Go.ChangeMaps (open_string shut_string)
open Go.Proofs.YtchgjaaadfjiiaaGreat

set_option maxRecDepth 100000 in
theorem lifted (os : Os) (started : os.Started) (H : Type) (enc : TypeId × Value → H) :
    ReturnsInHanded {} Tryz.checked os 3 .any (Rows.viewsPlaySpec.pre6 enc Tryz.prog Tryz.f3 Rows.viewsPlayRow.domain false) (Rows.viewsPlaySpec.post enc Tryz.prog Tryz.f3 false true false false) := by
  refine returnsInHanded_of_change_sized (C := Tryz.checked) Tryz.ownKnob started (by kernel_rfl) Tryz.func3
    (ChangeSpec.witness6 (enc := enc) (C := Tryz.checked) false ⟨#[], #[.slice none 0 0, .int .i64 0], []⟩ 8 (by kernel_rfl) (by kernel_rfl) (by kernel_rfl) (by kernel_rfl)) ?_
  intro W base args ds gs before hval0 hW hcnd hsz _; have hval : ∀ (j : Nat) t v, Tryz.f3.params[j]? = some t → args[j]? = some v → Value.okWide Tryz.prog W .any base t v := hval0; have hW' := hW; obtain ⟨p, q, hA0, hV, rfl, hfz, hnd⟩ := hW; have hA : DataW.TrodAll enc Tryz.prog W 0 (fun _ => true) true Tryz.f3.params.toList args.toList ds p := hA0; rw [Tryz.params3] at hA hval; obtain ⟨v0, vs0, d0, ds0, p0, q0, hargs, rfl, rfl, h0, r0⟩ := trodAll_cons hA; obtain ⟨v1, vs1, d1, ds1, p1, q1, rfl, rfl, rfl, h1, r1⟩ := trodAll_cons r0; obtain ⟨rfl, rfl, rfl⟩ := trodAll_nil r1; obtain rfl : args = #[v0, v1] := by cases args; simp_all
  obtain ⟨rfl, rfl⟩ := trodVars_none hV; have k0 := h0; have lt0 : ∀ x ∈ p0, x.block < W.heap.size := by obtain ⟨m, hm⟩ := k0; exact DataW.trod_lt m _ _ _ hm
  obtain ⟨f0, l0, is0, ln0⟩ := Vw.open_actss (hval 0 22 v0 rfl rfl) h0 (fun n hn => by have := List.all_eq_true.1 hsz n (DataW.weights_mem_each (j := 0) rfl rfl n hn); simpa using this); have k1 := h1; have lt1 : ∀ x ∈ p1, x.block < W.heap.size := by obtain ⟨m, hm⟩ := k1; exact DataW.trod_lt m _ _ _ hm
  obtain ⟨x1, rfl, -, -, wx1⟩ := open_int Tryz.underlying3 (hval 1 3 v1 rfl rfl) h1; clear hA0 hval0; refine (Vw.play_law is0 ln0 x1).mono fun e W' ⟨he, bel⟩ => ?_; subst he; exact ⟨_, rfl, _, _, _, [], _, [], hW', trodAll_mk1 (shut_bool Tryz.underlying4 _), (trodAll_cons_mk (Below.trod Tryz.laid (by kernel_rfl) (of_decide_eq_true (by kernel_rfl)) k0 bel lt0) (trodAll_cons_mk (Below.trod Tryz.laid (by kernel_rfl) (of_decide_eq_true (by kernel_rfl)) k1 bel lt1) trodAll_mk0)), rfl, bel.frame _, fun h => by cases h⟩

theorem over : Rows.viewsPlayRow.holds Tryz.pinned (OpenSpec.ofChange Rows.viewsPlaySpec) :=
  OpenClaim.holds_of_wide 3 Tryz.f3 rfl rfl rfl rfl rfl rfl rfl ⟨rfl, rfl, rfl, rfl, rfl⟩ rfl rfl rfl rfl rfl (by kernel_rfl) Tryz.func3 (by kernel_rfl)
    (of_decide_eq_true (by kernel_rfl)) (by unfold Func.isWrapper; first | (rw [if_pos (by decide +kernel)]; kernel_rfl) | (rw [if_neg (by decide +kernel)]; exact ⟨rfl, rfl⟩))
    (fun os started H enc _ => lifted os started H enc)

theorem proved : Rows.ViewsPlaySaid := over
end Go.Proofs.YtchgjaaadfjiiaaGreat.viewsPlay
