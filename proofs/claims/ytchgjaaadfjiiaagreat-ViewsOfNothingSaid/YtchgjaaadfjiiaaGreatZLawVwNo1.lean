/-
  For every number the law ViewsOfNothing answers true, and the arguments read as they did. No condition.
-/
import Derived.Test.YtchgjaaadfjiiaaGreatZVwLh9
import Derived.ChangeMaps5
namespace Go.Proofs.YtchgjaaadfjiiaaGreat
open Go.RowKit Go.Maps
namespace Vw
open K
set_option maxRecDepth 100000
theorem apply_nilV {w : World} {bc : List Value} : Calls Tryz.prog 13 #[.pointer none, .agg bc.toArray] w fun e w' => e = .returned (.int .i64 1) ∧ Below w.heap.size w w' := by
  refine enter (args := [.pointer none, .agg bc.toArray]) Tryz.func13 rfl Tryz.ntmps13 rfl ?_; refine K.kgn ?_; refine WL.box rfl rfl rfl rfl rfl fun g3 w1 f1 => ?_; have b1 := f1.below; clear f1; refine K.kgo ?_; refine WL.nilP rfl rfl rfl rfl rfl rfl (by kernel_rfl) ?_; refine K.kgo ?_; exact WQ.ret1 rfl rfl ⟨rfl, b1⟩
theorem cat_nilV {w : World} : Calls Tryz.prog 20 #[.pointer none] w fun e w' => e = .returned (.pointer none) ∧ w' = w := by
  refine enter (args := [.pointer none]) Tryz.func20 rfl Tryz.ntmps20 rfl ?_; refine K.kgo ?_; refine WL.nilP rfl rfl rfl rfl rfl rfl (by kernel_rfl) ?_; refine K.kgo ?_; exact WQ.ret1 rfl rfl ⟨rfl, rfl⟩
theorem copy_nilV {w : World} : Calls Tryz.prog 16 #[.pointer none] w fun e w' => e = .returned (.pointer none) ∧ w' = w := by
  refine enter (args := [.pointer none]) Tryz.func16 rfl Tryz.ntmps16 rfl ?_; refine K.kgo ?_; refine WL.nilP rfl rfl rfl rfl rfl rfl (by kernel_rfl) ?_; refine K.kgo ?_; exact WQ.ret1 rfl rfl ⟨rfl, rfl⟩
theorem docs_nilV {w : World} (t : Int) : Calls Tryz.prog 22 #[.pointer none, .int .i64 t] w fun e w' => e = .returned (.slice none 0 0) ∧ w' = w := by
  refine enter (args := [.pointer none, .int .i64 t]) Tryz.func22 rfl Tryz.ntmps22 rfl ?_; refine K.kgo ?_; refine WL.nilP rfl rfl rfl rfl rfl rfl (by kernel_rfl) ?_; refine K.kgo ?_; exact WQ.ret1 rfl rfl ⟨rfl, rfl⟩
theorem hist_nilV {w : World} (t : Int) : Calls Tryz.prog 18 #[.pointer none, .int .i64 t] w fun e w' => e = .returned (.slice none 0 0) ∧ w' = w := by
  refine enter (args := [.pointer none, .int .i64 t]) Tryz.func18 rfl Tryz.ntmps18 rfl ?_; refine K.kgo ?_; refine WL.nilP rfl rfl rfl rfl rfl rfl (by kernel_rfl) ?_; refine K.kgo ?_; exact WQ.ret1 rfl rfl ⟨rfl, rfl⟩
theorem next_nilV {w : World} (t : Int) : Calls Tryz.prog 23 #[.pointer none, .int .i64 t] w fun e w' => e = .returned (.int .i64 0) ∧ w' = w := by
  refine enter (args := [.pointer none, .int .i64 t]) Tryz.func23 rfl Tryz.ntmps23 rfl ?_; refine K.kgo ?_; refine WL.nilP rfl rfl rfl rfl rfl rfl (by kernel_rfl) ?_; refine K.kgo ?_; exact WQ.ret1 rfl rfl ⟨rfl, rfl⟩
theorem blocks_nilV {w : World} : Calls Tryz.prog 24 #[.pointer none] w fun e w' => e = .returned (.int .i64 0) ∧ w' = w := by
  refine enter (args := [.pointer none]) Tryz.func24 rfl Tryz.ntmps24 rfl ?_; refine K.kgo ?_; refine WL.nilP rfl rfl rfl rfl rfl rfl (by kernel_rfl) ?_; refine K.kgo ?_; exact WQ.ret1 rfl rfl ⟨rfl, rfl⟩
theorem doc_nilV {w : World} (t d : Int) : Calls Tryz.prog 19 #[.pointer none, .int .i64 t, .int .i64 d] w fun e w' => e = .returned (.tuple #[.agg (rwC noR zCells).toArray, .bool false]) ∧ Below w.heap.size w w' := by
  refine enter (args := [.pointer none, .int .i64 t, .int .i64 d]) Tryz.func19 rfl Tryz.ntmps19 rfl ?_; refine K.kgn ?_; refine WL.alloc (z := .agg (rwC noR zCells).toArray) rfl rfl rfl rfl (fun _ => by kernel_rfl) fun g6 w1 f1 => ?_; have v6 : VBlk prT w1 g6 (rwC noR zCells) := f1.blk; have b1 := f1.below; have e6 := f1.eq; clear f1; refine K.kgo ?_; refine WL.nilP rfl rfl rfl rfl rfl rfl (by kernel_rfl) ?_; refine K.kgo ?_; refine WL.build (rwC noR zCells) rfl rfl rfl rfl rfl builtPRow0 ?_; refine WL.storeRow rfl rfl rfl rfl rfl rfl v6 rfl rfl (rwC_one (zV_is (fun _ => True) 0 w).one) ?_; have v7 := v6.setRow (rwC noR zCells); have b7 : Below w.heap.size w (w1.setRow g6 (rwC noR zCells).toArray) := (Cr.keepRow (K := fun x => x < w.heap.size) (g := g6) (Keep.of_below b1) (fun hh => by omega) _).below; generalize w1.setRow g6 _ = w3 at v7 b7 ⊢; refine K.kgo ?_; exact WQ.retCT rfl rfl rfl rfl rfl v7 ⟨rfl, b7⟩
set_option maxHeartbeats 8000000 in
theorem nothing_law {w : World} (n : Int) : Calls Tryz.prog 6 #[.int .i64 n] w fun e w' => e = .returned (.bool true) ∧ Below w.heap.size w w' := by
  refine enter (args := [.int .i64 n]) Tryz.func6 rfl Tryz.ntmps6 rfl ?_; refine K.kgo ?_; refine WL.call rfl rfl rfl rfl rfl Tryz.func19 rfl (by kernel_rfl) (doc_nilV n n) ?_; rintro _ w1 ⟨rfl, b1⟩; refine ⟨_, rfl, ?_⟩; refine K.kgo ?_; refine WL.alloc (z := .agg (rwC noR zCells).toArray) rfl rfl rfl rfl (fun _ => by kernel_rfl) fun g4 w2 f2 => ?_; refine WL.storeRow rfl rfl rfl rfl rfl rfl f2.blk rfl rfl (rwC_one (zV_is (fun _ => True) 0 w).one) ?_; obtain ⟨v4, b4, -, -⟩ := rowed (rwC noR zCells) (Below.refl w1.heap.size w1) f2; generalize w2.setRow g4 _ = w3 at v4 b4 ⊢; clear f2; have c3 := b1.trans (b4.mono b1.size); have l4 := VBlk.lt v4; refine K.kgo ?_; refine WL.build (bkC noB (.slice none 0 0)) rfl rfl rfl rfl rfl (by kernel_rfl) ?_; refine WL.call rfl rfl rfl rfl rfl Tryz.func13 rfl (by kernel_rfl) apply_nilV ?_; rintro _ w5 ⟨rfl, b5⟩; refine ⟨_, rfl, ?_⟩; have v5 := VBlk.below v4 b5 l4; have c5 := c3.trans (b5.mono c3.size); refine K.kgo ?_; refine WL.call rfl rfl rfl rfl rfl Tryz.func20 rfl (by kernel_rfl) cat_nilV ?_; rintro _ _ ⟨rfl, rfl⟩; refine ⟨_, rfl, ?_⟩; refine K.kgo ?_; refine WL.nilP rfl rfl rfl rfl rfl rfl (by kernel_rfl) ?_; refine K.kgo ?_; refine WL.call rfl rfl rfl rfl rfl Tryz.func16 rfl (by kernel_rfl) copy_nilV ?_; rintro _ _ ⟨rfl, rfl⟩; refine ⟨_, rfl, ?_⟩; refine K.kgo ?_; refine WL.nilP rfl rfl rfl rfl rfl rfl (by kernel_rfl) ?_; refine K.kgo ?_; refine WL.loadMid rfl rfl rfl rfl rfl rfl (VBlk.rangeAt v5) rfl ?_; refine WL.on rfl rfl ?_; refine WL.build (rwC noR zCells) rfl rfl rfl rfl rfl builtRow0 ?_; refine WL.on rfl rfl ?_; refine WL.call rfl rfl rfl rfl rfl Tryz.func21 rfl (by kernel_rfl) (rowsL_any (r := noR) (zV_is (fun _ => True) 0 _).isV (zV_is (fun _ => True) 0 _).isV) ?_; rintro _ w6 ⟨b6, rfl⟩; refine ⟨_, rfl, ?_⟩; have c6 := c5.trans (b6.mono c5.size); refine K.kgo ?_; refine WL.call rfl rfl rfl rfl rfl Tryz.func22 rfl (by kernel_rfl) (docs_nilV n) ?_; rintro _ _ ⟨rfl, rfl⟩; refine ⟨_, rfl, ?_⟩; refine K.kgo ?_; refine WL.call rfl rfl rfl rfl rfl Tryz.func18 rfl (by kernel_rfl) (hist_nilV n) ?_; rintro _ _ ⟨rfl, rfl⟩; refine ⟨_, rfl, ?_⟩; refine K.kgo ?_; refine WL.call rfl rfl rfl rfl rfl Tryz.func23 rfl (by kernel_rfl) (next_nilV n) ?_; rintro _ _ ⟨rfl, rfl⟩; refine ⟨_, rfl, ?_⟩; refine K.kgo ?_; refine WL.call rfl rfl rfl rfl rfl Tryz.func24 rfl (by kernel_rfl) blocks_nilV ?_; rintro _ _ ⟨rfl, rfl⟩; refine ⟨_, rfl, ?_⟩; refine K.kgo ?_; refine WL.call rfl rfl rfl rfl rfl Tryz.func9 rfl (by kernel_rfl) known_any ?_; rintro _ w7 ⟨rfl, b7⟩; refine ⟨_, rfl, ?_⟩; refine K.kgo ?_; exact WQ.ret1 rfl rfl ⟨rfl, c6.trans (b7.mono c6.size)⟩
end Vw
end Go.Proofs.YtchgjaaadfjiiaaGreat

namespace Go.Proofs.YtchgjaaadfjiiaaGreat.viewsOfNothing
open Go.ChangeShapes Go.WideShapes Go.ChangeAt Go.RowKit
open Go.ChangeMaps (open_string shut_string)
open Go.Proofs.YtchgjaaadfjiiaaGreat

set_option maxRecDepth 100000 in
theorem lifted (os : Os) (started : os.Started) (H : Type) (enc : TypeId × Value → H) :
    ReturnsInHanded {} Tryz.checked os 6 .any (Rows.viewsOfNothingSpec.pre6 enc Tryz.prog Tryz.f6 Rows.viewsOfNothingRow.domain false) (Rows.viewsOfNothingSpec.post enc Tryz.prog Tryz.f6 false true false false) := by
  refine returnsInHanded_of_change_sized (C := Tryz.checked) Tryz.ownKnob started (by kernel_rfl) Tryz.func6
    (ChangeSpec.witness6 (enc := enc) (C := Tryz.checked) false ⟨#[], #[.int .i64 0], []⟩ 8 (by kernel_rfl) (by kernel_rfl) (by kernel_rfl) (by kernel_rfl)) ?_
  intro W base args ds gs before hval0 hW hcnd hsz _; have hval : ∀ (j : Nat) t v, Tryz.f6.params[j]? = some t → args[j]? = some v → Value.okWide Tryz.prog W .any base t v := hval0; have hW' := hW; obtain ⟨p, q, hA0, hV, rfl, hfz, hnd⟩ := hW; have hA : DataW.TrodAll enc Tryz.prog W 0 (fun _ => true) true Tryz.f6.params.toList args.toList ds p := hA0; rw [Tryz.params6] at hA hval; obtain ⟨v0, vs0, d0, ds0, p0, q0, hargs, rfl, rfl, h0, r0⟩ := trodAll_cons hA; obtain ⟨rfl, rfl, rfl⟩ := trodAll_nil r0; obtain rfl : args = #[v0] := by cases args; simp_all
  obtain ⟨rfl, rfl⟩ := trodVars_none hV; have k0 := h0; have lt0 : ∀ x ∈ p0, x.block < W.heap.size := by obtain ⟨m, hm⟩ := k0; exact DataW.trod_lt m _ _ _ hm
  obtain ⟨x0, rfl, -, -, wx0⟩ := open_int Tryz.underlying3 (hval 0 3 v0 rfl rfl) h0; clear hA0 hval0; refine (Vw.nothing_law x0).mono fun e W' ⟨he, bel⟩ => ?_; subst he; exact ⟨_, rfl, _, _, _, [], _, [], hW', trodAll_mk1 (shut_bool Tryz.underlying4 _), (trodAll_cons_mk (Below.trod Tryz.laid (by kernel_rfl) (of_decide_eq_true (by kernel_rfl)) k0 bel lt0) trodAll_mk0), rfl, bel.frame _, fun h => by cases h⟩

theorem over : Rows.viewsOfNothingRow.holds Tryz.pinned (OpenSpec.ofChange Rows.viewsOfNothingSpec) :=
  OpenClaim.holds_of_wide 6 Tryz.f6 rfl rfl rfl rfl rfl rfl rfl ⟨rfl, rfl, rfl, rfl, rfl⟩ rfl rfl rfl rfl rfl (by kernel_rfl) Tryz.func6 (by kernel_rfl)
    (of_decide_eq_true (by kernel_rfl)) (by unfold Func.isWrapper; first | (rw [if_pos (by decide +kernel)]; kernel_rfl) | (rw [if_neg (by decide +kernel)]; exact ⟨rfl, rfl⟩))
    (fun os started H enc _ => lifted os started H enc)

theorem proved : Rows.ViewsOfNothingSaid := over
end Go.Proofs.YtchgjaaadfjiiaaGreat.viewsOfNothing
