/-
  For every row of bytes the law WireDecodes answers true, and the argument reads as it did. No condition.
-/
import Derived.Test.YtdkkaliiofcflaaZLawWirDt5
import Derived.SizedLaws
import Derived.DataOpen
import Derived.ChangeMaps5
namespace Go.Proofs.Ytdkkaliiofcflaa
open Go.RowKit
namespace K
set_option maxHeartbeats 4000000 in
theorem wireDecodes_law {w : World} {v : Value} {l : List Int} (hv : Sl .u8 w v l) (hb : Frm.Byt l) (hl0 : l.length ≤ 140737488355328) :
    Calls Try.prog 5 #[v] w fun e w' => e = .returned (.bool true) ∧ Below w.heap.size w w' := by
  obtain ⟨sp, cap, rfl, -⟩ := id hv; refine enter (args := [.slice sp l.length cap]) Try.func5 rfl Try.ntmps5 rfl ?_
  by_cases hl : 8000 < l.length
  · refine K.kgo ?_
    exact WQ.ret1 rfl rfl ⟨rfl, Below.refl _ _⟩
  have hrq := rq_read (l := l) hb (by omega); have hrp := rp_read (l := l) hb (by omega); have hhash := rqRes_hash (l := l) hb; obtain ⟨r, hr⟩ : ∃ q, q = (rqRes l).1 := ⟨_, rfl⟩; obtain ⟨E, hE⟩ : ∃ q, q = (rqRes l).2 := ⟨_, rfl⟩; obtain ⟨y, hy⟩ : ∃ q, q = (rpRes l).1 := ⟨_, rfl⟩; obtain ⟨G, hG⟩ : ∃ q, q = (rpRes l).2 := ⟨_, rfl⟩; rw [← hr, ← hE] at hrq; rw [← hr] at hhash; rw [← hy, ← hG] at hrp; refine K.kgo ?_; refine WL.call rfl rfl rfl rfl rfl Try.func13 rfl (by kernel_rfl) (roomyL_any hv (by omega)) ?_; rintro _ w1 ⟨rv, rfl, hrv, k1⟩; refine ⟨_, rfl, ?_⟩; obtain ⟨sr, cr, rfl, -⟩ := id hrv; have hll : (l ++ [171]).length = l.length + 1 := by simp
  refine K.kgo ?_; refine WL.upto rfl rfl rfl rfl rfl rfl rfl (by omega) (by omega) hrv fun dv2 hdv2 => ?_; rw [show ((l.length : Int)).toNat = l.length by omega, List.take_left' rfl] at hdv2; refine WL.call rfl rfl rfl rfl rfl Try.func11 rfl (by kernel_rfl) (wdecode_all hdv2 hb (by omega)) ?_; rintro _ w2 ⟨nv, pv, rfl, k2, hn2, hp2⟩; refine ⟨_, rfl, ?_⟩; rw [← hr, ← hE]; rw [← hr] at hn2 hp2; have hC1 : (rqC r nv pv).length = 37 := by simp [rqC, hhash]
  have hO1 := rqC_ones hn2 hp2; have b2 : Below w.heap.size w w2 := k1.trans (k2.mono k1.size); have hrv2 := hrv.of_below k2; clear k1 k2 hdv2 hrv; refine K.kgo ?_; refine WL.alloc (z := .agg zReq.toArray) rfl rfl rfl rfl (fun _ => by kernel_rfl) fun g4 w3 hf0 => ?_; have hf3 : Fresh w2 g4 w3 32 zReq := hf0; clear hf0; refine K.kgo ?_; refine WL.storeRow rfl rfl rfl rfl rfl rfl hf3.blk hC1 (by rfl) hO1 ?_; have k4 : Below w2.heap.size w2 (w3.setRow g4 (rqC r nv pv).toArray) := below_setRow hf3.below (by rw [hf3.eq]; exact Nat.le_refl _) _; have X4 := hf3.blk.setRow (rqC r nv pv); clear hf3; generalize w3.setRow g4 (rqC r nv pv).toArray = w4 at k4 X4 ⊢; have b4 : Below w.heap.size w w4 := b2.trans (k4.mono b2.size); have hrv4 := hrv2.of_below k4; have hn4 := hn2.of_below k4; have hp4 := hp2.below k4; clear k4 hrv2 hn2 hp2 b2; refine K.kgo ?_; refine WL.call rfl rfl rfl rfl rfl Try.func19 rfl (by kernel_rfl) (rdecode_all (hv.of_below b4) hb (by omega)) ?_; rintro _ w5 ⟨nv2, pv2, rfl, k5, hm5, hq5⟩; refine ⟨_, rfl, ?_⟩; rw [← hr, ← hE]; rw [← hr] at hm5 hq5; have hC2 : (rqC r nv2 pv2).length = 37 := by simp [rqC, hhash]
  have hO2 := rqC_ones hm5 hq5; have b5 : Below w.heap.size w w5 := b4.trans (k5.mono b4.size); have X5 := X4.below k5 X4.lt; have hrv5 := hrv4.of_below k5; have hn5 := hn4.of_below k5; have hp5 := hp4.below k5; clear k5 X4 hrv4 hn4 hp4 b4; refine K.kgo ?_; refine WL.alloc (z := .agg zReq.toArray) rfl rfl rfl rfl (fun _ => by kernel_rfl) fun g6 w6 hf0 => ?_; have hf6 : Fresh w5 g6 w6 33 zReq := hf0; clear hf0; refine K.kgo ?_; refine WL.storeRow rfl rfl rfl rfl rfl rfl hf6.blk hC2 (by rfl) hO2 ?_; have k7 : Below w5.heap.size w5 (w6.setRow g6 (rqC r nv2 pv2).toArray) := below_setRow hf6.below (by rw [hf6.eq]; exact Nat.le_refl _) _; have Y7 := hf6.blk.setRow (rqC r nv2 pv2); clear hf6; generalize w6.setRow g6 (rqC r nv2 pv2).toArray = w7 at k7 Y7 ⊢; have b7 : Below w.heap.size w w7 := b5.trans (k7.mono b5.size); have X7 := X5.below k7 X5.lt; have hrv7 := hrv5.of_below k7; have hn7 := hn5.of_below k7; have hp7 := hp5.below k7; have hm7 := hm5.of_below k7; have hq7 := hq5.below k7; clear k7 X5 hrv5 hn5 hp5 hm5 hq5 b5; refine K.kgo ?_; refine WL.upto rfl rfl rfl rfl rfl rfl rfl (by omega) (by omega) hrv7 fun dv8 hdv8 => ?_; rw [show ((l.length : Int)).toNat = l.length by omega, List.take_left' rfl] at hdv8; refine WL.call rfl rfl rfl rfl rfl Try.func17 rfl (by kernel_rfl) (wdecodeR_all hdv8 hb (by omega)) ?_; rintro _ w8 ⟨an, ap, ad, rfl, k8, han, hap, had⟩; refine ⟨_, rfl, ?_⟩; rw [← hy, ← hG]; rw [← hy] at han hap had; have hO3 := rpC_ones han hap had; have b8 : Below w.heap.size w w8 := b7.trans (k8.mono b7.size); have X8 := X7.below k8 X7.lt; have Y8 := Y7.below k8 Y7.lt; have hrv8 := hrv7.of_below k8; have hn8 := hn7.of_below k8; have hp8 := hp7.below k8; have hm8 := hm7.of_below k8; have hq8 := hq7.below k8; clear k8 X7 Y7 hrv7 hn7 hp7 hm7 hq7 b7 hdv8; refine K.kgo ?_; refine WL.alloc (z := .agg zRep.toArray) rfl rfl rfl rfl (fun _ => by kernel_rfl) fun g8 w9 hf0 => ?_; have hf9 : Fresh w8 g8 w9 45 zRep := hf0; clear hf0; refine K.kgo ?_; refine WL.storeRow rfl rfl rfl rfl rfl rfl hf9.blk rfl (by rfl) hO3 ?_; have k10 : Below w8.heap.size w8 (w9.setRow g8 (rpC y an ap ad).toArray) := below_setRow hf9.below (by rw [hf9.eq]; exact Nat.le_refl _) _; have A10 := hf9.blk.setRow (rpC y an ap ad); clear hf9; generalize w9.setRow g8 (rpC y an ap ad).toArray = w10 at k10 A10 ⊢; have b10 : Below w.heap.size w w10 := b8.trans (k10.mono b8.size); have X10 := X8.below k10 X8.lt; have Y10 := Y8.below k10 Y8.lt; have hrv10 := hrv8.of_below k10; have hn10 := hn8.of_below k10; have hp10 := hp8.below k10; have hm10 := hm8.of_below k10; have hq10 := hq8.below k10; have han10 := han.of_below k10; have hap10 := hap.below k10; have had10 := had.of_below k10; clear k10 X8 Y8 hrv8 hn8 hp8 hm8 hq8 han hap had b8; refine K.kgo ?_; refine WL.call rfl rfl rfl rfl rfl Try.func20 rfl (by kernel_rfl) (rdecodeR_all (hv.of_below b10) hb (by omega)) ?_; rintro _ w11 ⟨bn, bp, bd, rfl, k11, hbn, hbp, hbd⟩; refine ⟨_, rfl, ?_⟩; rw [← hy, ← hG]; rw [← hy] at hbn hbp hbd; have hO4 := rpC_ones hbn hbp hbd; have b11 : Below w.heap.size w w11 := b10.trans (k11.mono b10.size); have X11 := X10.below k11 X10.lt; have Y11 := Y10.below k11 Y10.lt; have A11 := A10.below k11 A10.lt; have hrv11 := hrv10.of_below k11; have hn11 := hn10.of_below k11; have hp11 := hp10.below k11; have hm11 := hm10.of_below k11; have hq11 := hq10.below k11; have han11 := han10.of_below k11; have hap11 := hap10.below k11; have had11 := had10.of_below k11; clear k11 X10 Y10 A10 hrv10 hn10 hp10 hm10 hq10 han10 hap10 had10 b10; refine K.kgo ?_; refine WL.alloc (z := .agg zRep.toArray) rfl rfl rfl rfl (fun _ => by kernel_rfl) fun g10 w12 hf0 => ?_; have hf12 : Fresh w11 g10 w12 46 zRep := hf0; clear hf0; refine K.kgo ?_; refine WL.storeRow rfl rfl rfl rfl rfl rfl hf12.blk rfl (by rfl) hO4 ?_; have k13 : Below w11.heap.size w11 (w12.setRow g10 (rpC y bn bp bd).toArray) := below_setRow hf12.below (by rw [hf12.eq]; exact Nat.le_refl _) _; have B13 := hf12.blk.setRow (rpC y bn bp bd); clear hf12; generalize w12.setRow g10 (rpC y bn bp bd).toArray = w13 at k13 B13 ⊢; have b13 : Below w.heap.size w w13 := b11.trans (k13.mono b11.size); have X13 := X11.below k13 X11.lt; have Y13 := Y11.below k13 Y11.lt; have A13 := A11.below k13 A11.lt; have hrv13 := hrv11.of_below k13; have hn13 := hn11.of_below k13; have hp13 := hp11.below k13; have hm13 := hm11.of_below k13; have hq13 := hq11.below k13; have han13 := han11.of_below k13; have hap13 := hap11.below k13; have had13 := had11.of_below k13; have hbn13 := hbn.of_below k13; have hbp13 := hbp.below k13; have hbd13 := hbd.of_below k13; clear k13 X11 Y11 A11 hrv11 hn11 hp11 hm11 hq11 han11 hap11 had11 b11 hbn hbp hbd; refine K.kgo ?_; refine WL.loadMid rfl rfl rfl rfl rfl rfl (VBlk.rangeAt X13) hC1 ?_; refine K.kgo ?_; refine WL.loadMid rfl rfl rfl rfl rfl rfl (VBlk.rangeAt Y13) hC2 ?_; refine K.kgo ?_; refine WL.call rfl rfl rfl rfl rfl Try.func12 rfl (by kernel_rfl) (requests_any hhash hn13 hm13 hp13 hq13) ?_; rintro _ w14 ⟨rfl, k14⟩; refine ⟨_, rfl, ?_⟩; have b14 : Below w.heap.size w w14 := b13.trans (k14.mono b13.size); have X14 := X13.below k14 X13.lt; have A14 := A13.below k14 A13.lt; have B14 := B13.below k14 B13.lt; have hrv14 := hrv13.of_below k14; have hn14 := hn13.of_below k14; have hp14 := hp13.below k14; have han14 := han13.of_below k14; have hap14 := hap13.below k14; have had14 := had13.of_below k14; have hbn14 := hbn13.of_below k14; have hbp14 := hbp13.below k14; have hbd14 := hbd13.of_below k14; clear k14 X13 Y13 A13 B13 hrv13 hn13 hp13 hm13 hq13 han13 hap13 had13 hbn13 hbp13 hbd13 b13; refine K.kgo ?_; refine WL.loadMid rfl rfl rfl rfl rfl rfl (VBlk.rangeAt A14) rfl ?_; refine K.kgo ?_; refine WL.loadMid rfl rfl rfl rfl rfl rfl (VBlk.rangeAt B14) rfl ?_; refine K.kgo ?_; refine WL.call rfl rfl rfl rfl rfl Try.func18 rfl (by kernel_rfl) (replies_any han14 hbn14 hap14 hbp14 had14 hbd14) ?_; rintro _ w15 ⟨rfl, k15⟩; refine ⟨_, rfl, ?_⟩; have b15 : Below w.heap.size w w15 := b14.trans (k15.mono b14.size); have X15 := X14.below k15 X14.lt; have A15 := A14.below k15 A14.lt; have hrv15 := hrv14.of_below k15; have hn15 := hn14.of_below k15; have hp15 := hp14.below k15; have han15 := han14.of_below k15; have hap15 := hap14.below k15; have had15 := had14.of_below k15; clear k15 X14 A14 B14 hrv14 hn14 hp14 han14 hap14 had14 hbn14 hbp14 hbd14 b14; refine K.kgo ?_; refine WL.call rfl rfl rfl rfl rfl Try.func16 rfl (by kernel_rfl) (standsL_any hrv15 (hv.of_below b15) (by omega)) ?_; rintro _ w16 ⟨rfl, k16⟩; refine ⟨_, rfl, ?_⟩; have b16 : Below w.heap.size w w16 := b15.trans (k16.mono b15.size); have X16 := X15.below k16 X15.lt; have A16 := A15.below k16 A15.lt; have hn16 := hn15.of_below k16; have hp16 := hp15.below k16; have han16 := han15.of_below k16; have hap16 := hap15.below k16; have had16 := had15.of_below k16; clear k16 X15 A15 hrv15 hn15 hp15 han15 hap15 had15 b15; refine K.kgo ?_; refine WC.mid (fun _ : Unit => [(0, .slice sp l.length cap), (8, .pointer (some ⟨g8, 0, none⟩)), (11, .int .i64 G)]) (fun _ wx => Below w16.heap.size w16 wx) rfl ?_ ?_
  · by_cases hE0 : E = 0
    · obtain ⟨P, hlP, hk, hz, hfew⟩ := hrq hE0
      refine WC.condT rfl hE0 ?_; refine K.kgo ?_; refine WL.loadMid rfl rfl rfl rfl rfl rfl (VBlk.rangeAt X16) hC1 ?_; have hIs : IsRq 17 w16 r nv pv := ⟨hn16, hk.r64, hp16, hhash, hk.hbyt⟩; refine WL.call rfl rfl rfl rfl rfl Try.func7 rfl (by kernel_rfl) (rqenc_any hIs hfew (by have := hk.text; omega)) ?_; rintro _ w17 ⟨b17, rfl, ap17, q17⟩; refine ⟨_, rfl, ?_⟩; rw [if_pos hz, hk.bytes, ← hlP] at q17; rw [hz]; have k17 := ap17.below; refine K.kgo ?_; refine WL.call rfl rfl rfl rfl rfl Try.func9 rfl (by kernel_rfl) (same7_any q17.sl (hv.of_below (b16.trans (k17.mono b16.size)))) ?_; rintro _ w18 ⟨rfl, k18⟩; refine ⟨_, rfl, ?_⟩; rw [decide_eq_true rfl]; refine K.kgo ?_; exact WQ.meet () ⟨rfl, rfl, rfl, trivial⟩ (k17.trans (k18.mono k17.size))
    · refine WC.condF rfl hE0 ?_
      refine K.kgo ?_; exact WQ.meet () ⟨rfl, rfl, rfl, trivial⟩ (Below.refl _ _)
  rintro ⟨⟩ w19 k19; have b19 : Below w.heap.size w w19 := b16.trans (k19.mono b16.size); have A19 := A16.below k19 A16.lt; have han19 := han16.of_below k19; have hap19 := hap16.below k19; have had19 := had16.of_below k19; clear k19 X16 A16 hn16 hp16 han16 hap16 had16 b16; refine K.kgo ?_; refine WC.mid (fun _ : Unit => [(0, .slice sp l.length cap)]) (fun _ wx => Below w19.heap.size w19 wx) rfl ?_ ?_
  · by_cases hG0 : G = 0
    · obtain ⟨P, hlP, hk, hz, hfew, hd⟩ := hrp hG0
      refine WC.condT rfl hG0 ?_; refine K.kgo ?_; refine WL.loadMid rfl rfl rfl rfl rfl rfl (VBlk.rangeAt A19) rfl ?_; have hIs : IsRp 17 w19 y an ap ad := ⟨han19, hk.r64, hap19, had19, hk.dbyt⟩; refine WL.call rfl rfl rfl rfl rfl Try.func14 rfl (by kernel_rfl) (rpenc_any hIs hfew hd) ?_; rintro _ w20 ⟨b20, rfl, ap20, q20⟩; refine ⟨_, rfl, ?_⟩; rw [if_pos hz, hk.bytes, ← hlP] at q20; rw [hz]; have k20 := ap20.below; refine K.kgo ?_; refine WL.call rfl rfl rfl rfl rfl Try.func9 rfl (by kernel_rfl) (same7_any q20.sl (hv.of_below (b19.trans (k20.mono b19.size)))) ?_; rintro _ w21 ⟨rfl, k21⟩; refine ⟨_, rfl, ?_⟩; rw [decide_eq_true rfl]; refine K.kgo ?_; exact WQ.meet () ⟨rfl, trivial⟩ (k20.trans (k21.mono k20.size))
    · refine WC.condF rfl hG0 ?_
      refine K.kgo ?_; exact WQ.meet () ⟨rfl, trivial⟩ (Below.refl _ _)
  rintro ⟨⟩ w22 k22; have b22 : Below w.heap.size w w22 := b19.trans (k22.mono b19.size); refine K.kgo ?_; refine WL.call rfl rfl rfl rfl rfl Try.func10 rfl (by kernel_rfl) (known_any w22) ?_; rintro _ w23 ⟨rfl, k23⟩; refine ⟨_, rfl, ?_⟩; refine K.kgo ?_; exact WQ.ret1 rfl rfl ⟨rfl, b22.trans (k23.mono b22.size)⟩
end K
end Go.Proofs.Ytdkkaliiofcflaa

namespace Go.Proofs.Ytdkkaliiofcflaa
open Go.ChangeShapes Go.WideShapes Go.ChangeAt Go.RowKit
namespace K

section
variable {H : Type} {P : Program}
def WOk (P : Program) (t : TypeId) (d : DataW H) : Prop := ∀ n ∈ d.weights P t, n ≤ reachBytes
theorem weightsAll_mem {e : TypeId} : ∀ {ds : List (DataW H)} {d : DataW H} {n : Nat}, d ∈ ds → n ∈ d.weights P e → n ∈ DataW.weightsAll P e ds
  | d0 :: ds, d, n, hd, hn => by
    rw [DataW.weightsAll, List.mem_append]; rcases List.mem_cons.1 hd with rfl | hd
    · exact .inl hn
    · exact .inr (weightsAll_mem hd hn)
theorem WOk.slice {t e : TypeId} {elems spare : List (DataW H)} (hu : P.underlying t = some (.slice e)) (h : WOk P t (.slice elems spare)) : (elems.length + spare.length) * P.bytesOf e ≤ reachBytes ∧ ∀ d ∈ elems, WOk P e d := by
  unfold WOk at h; rw [DataW.weights, hu] at h; simp only [List.mem_cons, List.mem_append] at h; exact ⟨h _ (.inl rfl), fun d hd n hn => h n (.inr (.inl (weightsAll_mem hd hn)))⟩
end

section
variable {H : Type} {enc : TypeId × Value → H} {W : World} {base : Nat} {held : Bool}
theorem reach_le {n : Nat} (h : n ≤ reachBytes) : n ≤ 140737488355328 := Nat.le_trans h (by decide)

theorem open_sl2 {t e : TypeId} {fuel : Nat} {v : Value} {x : DataW H × List MemPlace} (m : Nat) (hm0 : 0 < m) (hu : Try.prog.underlying t = some (.slice e)) (hce : Try.prog.cellsOf e = m) (h : DataW.trod enc Try.prog W base (fun _ => true) held fuel t [v] = some x) :
    ∃ sp len cap, v = .slice sp len cap ∧ len ≤ cap ∧ cap ≤ 9223372036854775807 ∧ ∃ n elems rest, n < fuel ∧ (x.1 = .slice (elems.map (·.1)) rest ∨ (x.1 = .nil ∧ elems = [])) ∧ elems.length = len ∧
      ∀ i, i < len → ∃ (b o : Nat) (cs : List Value) (y : DataW H × List MemPlace), sp = some ⟨b, o, none⟩ ∧ b < W.heap.size ∧ cs.length = m ∧ W.rangeAt b (o + i * m) cs ∧ elems[i]? = some y ∧ DataW.trod enc Try.prog W base (fun _ => true) held n e cs = some y := by
  rcases DataW.trod_slice hu h with ⟨hcs, rfl⟩ | ⟨a, len, cap, elems, rest, n, rfl, hcs, rfl, hb, hl, hcap, hlen, hel, -, -⟩
  · obtain rfl : v = .slice none 0 0 := by simpa using hcs
    cases fuel with
    | zero => simp [DataW.trod] at h
    | succ f => exact ⟨none, 0, 0, rfl, Nat.le_refl _, by omega, f, [], [], by omega, .inr ⟨rfl, rfl⟩, rfl, fun i hi => absurd hi (by omega)⟩
  · obtain rfl : v = .slice (some a) len cap := by simpa using hcs
    refine ⟨some a, len, cap, rfl, hl, by unfold maxLen at hcap; exact hcap, n, elems, rest.map (·.1), by omega, .inl rfl, hlen, fun i hi => ?_⟩; have h1 := hel i hi; rw [hce] at h1; obtain ⟨y, hy⟩ : ∃ y, elems[i]? = some y := ⟨elems[i], List.getElem?_eq_getElem (by omega)⟩; rw [hy] at h1; obtain ⟨cs, hc1, hc2⟩ := Option.bind_eq_some_iff.1 h1; obtain ⟨-, hcl, hat⟩ := World.cells?_some hc1; have h00 := hel 0 (by omega); rw [hce] at h00; obtain ⟨y0, hy0⟩ : ∃ y, elems[0]? = some y := ⟨elems[0], List.getElem?_eq_getElem (by omega)⟩; rw [hy0] at h00; obtain ⟨cs0, hc01, -⟩ := Option.bind_eq_some_iff.1 h00; obtain ⟨-, hcl0, hat0⟩ := World.cells?_some hc01; have hx0 := hat0 0 hm0; have e0 : (a.add (0 * m)).add 0 = a := by rw [Nat.zero_mul]; rfl
    rw [e0, List.getElem?_eq_getElem (by omega)] at hx0; have hsp := cell_spot hx0; obtain ⟨b, o, s⟩ := a; simp only at hsp; subst hsp; refine ⟨b, o, cs, y, rfl, block_lt_of_cell hx0, hcl, fun j u hj => ?_, hy, hc2⟩; have hjl : j < m := by
      rcases Nat.lt_or_ge j m with h | h
      · exact h
      · rw [List.getElem?_eq_none (by omega)] at hj; cases hj
    have := hat j hjl; rw [addr_add, addr_add] at this; rw [this]; exact hj

set_option maxRecDepth 100000
theorem open_bytes {b0 : Nat} {r : Reach} {v : Value} {d : DataW H} {p : List MemPlace} (hval : Value.okWide Try.prog W r b0 27 v) (h : DataW.Trod enc Try.prog W base (fun _ => true) held 27 v d p) :
    (∀ n ∈ d.weights Try.prog 27, n ≤ reachBytes) → ∃ l, Sl .u8 W v l ∧ (∀ c ∈ l, 0 ≤ c ∧ c ≤ 255) ∧ l.length ≤ 140737488355328 := by
  intro hz; obtain ⟨l, hs, hw⟩ := open_sl Try.underlying27 Try.underlying5 (by kernel_rfl) hval h; refine ⟨l, hs, fun c hc => ?_, ?_⟩
  · have := hw c hc
    simp [Lit.wf, IntKind.min, IntKind.max, IntKind.bits, IntKind.signed] at this
    omega
  · obtain ⟨sp0, cap0, rfl, -⟩ := hs
    obtain ⟨fuel, hf⟩ := h; obtain ⟨sp, len, cap, e, -, -, n, elems, rest, -, hx, hlen, -⟩ := open_sl2 1 (by omega) Try.underlying27 (by kernel_rfl) (v := .slice sp0 l.length cap0) hf
    injection e with _ e2 _
    rcases hx with hx | ⟨-, rfl⟩
    · have hz' : WOk Try.prog 27 d := hz
      simp only at hx; rw [hx] at hz'; have := (hz'.slice Try.underlying27).1; rw [show Try.prog.bytesOf 5 = 1 by kernel_rfl, List.length_map, hlen] at this; exact reach_le (by omega)
    · simp at hlen; omega
end
end K
end Go.Proofs.Ytdkkaliiofcflaa

namespace Go.Proofs.Ytdkkaliiofcflaa
open Go.ChangeShapes Go.WideShapes Go.ChangeAt Go.RowKit
namespace K
section
set_option maxRecDepth 100000
variable {H : Type} {P : Program}
variable {H : Type} {enc : TypeId × Value → H} {W : World} {base : Nat} {held : Bool}
end
end K
end Go.Proofs.Ytdkkaliiofcflaa

namespace Go.Proofs.Ytdkkaliiofcflaa.wireDecodes
open Go.ChangeShapes Go.WideShapes Go.ChangeAt Go.RowKit
open Go.ChangeMaps (open_string shut_string)
open Go.Proofs.Ytdkkaliiofcflaa

set_option maxRecDepth 100000 in
theorem lifted (os : Os) (started : os.Started) (H : Type) (enc : TypeId × Value → H) :
    ReturnsInHanded {} Try.checked os 5 .any (Rows.wireDecodesSpec.pre6 enc Try.prog Try.f5 Rows.wireDecodesRow.domain false) (Rows.wireDecodesSpec.post enc Try.prog Try.f5 false true false false) := by
  refine returnsInHanded_of_change_sized (C := Try.checked) Try.ownKnob started (by kernel_rfl) Try.func5
    (ChangeSpec.witness6 (enc := enc) (C := Try.checked) false ⟨#[], #[.slice none 0 0], []⟩ 8 (by kernel_rfl) (by kernel_rfl) (by kernel_rfl) (by kernel_rfl)) ?_
  intro W base args ds gs before hval0 hW hcnd hsz _; have hval : ∀ (j : Nat) t v, Try.f5.params[j]? = some t → args[j]? = some v → Value.okWide Try.prog W .any base t v := hval0; have hW' := hW; obtain ⟨p, q, hA0, hV, rfl, hfz, hnd⟩ := hW; have hA : DataW.TrodAll enc Try.prog W 0 (fun _ => true) true Try.f5.params.toList args.toList ds p := hA0; rw [Try.params5] at hA hval; obtain ⟨v0, vs0, d0, ds0, p0, q0, hargs, rfl, rfl, h0, r0⟩ := trodAll_cons hA; obtain ⟨rfl, rfl, rfl⟩ := trodAll_nil r0; obtain rfl : args = #[v0] := by cases args; simp_all
  obtain ⟨rfl, rfl⟩ := trodVars_none hV; have k0 := h0; have lt0 : ∀ x ∈ p0, x.block < W.heap.size := by obtain ⟨m, hm⟩ := k0; exact DataW.trod_lt m _ _ _ hm
  obtain ⟨l0, sl0, by0, ln0⟩ := K.open_bytes (hval 0 27 v0 rfl rfl) h0 (fun n hn => by have := List.all_eq_true.1 hsz n (DataW.weights_mem_each (j := 0) rfl rfl n hn); simpa using this); clear hA0 hval0; refine (K.wireDecodes_law sl0 by0 ln0).mono fun e W' ⟨he, bel⟩ => ?_; subst he; exact ⟨_, rfl, _, _, _, [], _, [], hW', trodAll_mk1 (shut_bool Try.underlying4 _), (trodAll_cons_mk (Below.trod Try.laid (by kernel_rfl) (of_decide_eq_true (by kernel_rfl)) k0 bel lt0) trodAll_mk0), rfl, bel.frame _, fun h => by cases h⟩

theorem over : Rows.wireDecodesRow.holds Try.pinned (OpenSpec.ofChange Rows.wireDecodesSpec) :=
  OpenClaim.holds_of_wide 5 Try.f5 rfl rfl rfl rfl rfl rfl rfl ⟨rfl, rfl, rfl, rfl, rfl⟩ rfl rfl rfl rfl rfl (by kernel_rfl) Try.func5 (by kernel_rfl)
    (of_decide_eq_true (by kernel_rfl)) (by unfold Func.isWrapper; first | (rw [if_pos (by decide +kernel)]; kernel_rfl) | (rw [if_neg (by decide +kernel)]; exact ⟨rfl, rfl⟩))
    (fun os started H enc _ => lifted os started H enc)

theorem proved : Rows.WireDecodesSaid := over
end Go.Proofs.Ytdkkaliiofcflaa.wireDecodes
