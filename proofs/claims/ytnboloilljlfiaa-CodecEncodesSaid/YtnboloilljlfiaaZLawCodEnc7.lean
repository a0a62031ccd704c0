/-
  For every value the law CodecEncodes answers true, and the argument reads as it did. No condition.
-/
import Derived.Test.YtnboloilljlfiaaZLawCodEnc6
import Derived.StillTailTactics
import Derived.Deep.RegionLaw
import Derived.DeepKeys
import Derived.SizedLaws
import Derived.DataOpen
import Derived.ChangeMaps5
/- digest: the program's Sum. -/
namespace Go.Proofs.Ytnboloilljlfiaa
open Go.RowKit
namespace Dig

/-- The words that a digest begins with. -/
def H0 : List Int := [0x6a09e667, 0xbb67ae85, 0x3c6ef372, 0xa54ff53a, 0x510e527f, 0x9b05688c, 0x1f83d9ab, 0x5be0cd19]
/-- The state behind j blocks of l. -/
def absorb (l st : List Int) : Nat → List Int
  | 0 => st
  | j + 1 => compress K (l.drop (64 * j)) (absorb l st j)
theorem compress_length (kk by_ st : List Int) : (compress kk by_ st).length = st.length := addInto_length st _ 8
theorem absorb_length (l st : List Int) (j : Nat) : (absorb l st j).length = st.length := by
  induction j with
  | zero => rfl
  | succ j ih => rw [absorb, compress_length, ih]

/-- The last n bytes of e: a length in digits, the i last of eight laid. -/
def putLen (p : List Int) (e n : Nat) : Nat → List Int
  | 0 => p
  | i + 1 => (putLen p e n i).set (e - 1 - i) ((n : Int) * 8 / 2 ^ (8 * i) % 256)
theorem putLen_length (p : List Int) (e n i : Nat) : (putLen p e n i).length = p.length := by
  induction i with
  | zero => rfl
  | succ i ih => rw [putLen, List.length_set, ih]
/-- The words as bytes, i of them laid. -/
def outH (st : List Int) : Nat → List Int
  | 0 => List.replicate 32 0
  | i + 1 => ((((outH st i).set (4 * i) (nth st i / 16777216 % 256)).set (4 * i + 1) (nth st i / 65536 % 256)).set (4 * i + 2) (nth st i / 256 % 256)).set (4 * i + 3) (nth st i % 256)
theorem outH_length (st : List Int) (i : Nat) : (outH st i).length = 32 := by
  induction i with
  | zero => rfl
  | succ i ih => simp [outH, ih]
/-- The digest, as the program reckons it. -/
def sumL (l : List Int) : List Int :=
  let j := l.length / 64
  let rl := l.drop (64 * j)
  let p0 := (rl ++ List.replicate (128 - rl.length) 0).set rl.length 128
  outH (if 56 ≤ rl.length then absorb (putLen p0 128 l.length 8) (absorb l H0 j) 2 else absorb (putLen p0 64 l.length 8) (absorb l H0 j) 1) 8
theorem sumL_length (l : List Int) : (sumL l).length = 32 := outH_length _ _
theorem Try.infoU32 : (Try.prog.info? 74).map (fun i => (i.zero, i.size, i.bytes)) = some (some (.int .u32 0), 1, 4) := by kernel_rfl

theorem pick8 (st : List Int) (i : Nat) (h : i < 8) :
    (#[.int .u32 (nth st 0), .int .u32 (nth st 1), .int .u32 (nth st 2), .int .u32 (nth st 3), .int .u32 (nth st 4), .int .u32 (nth st 5), .int .u32 (nth st 6), .int .u32 (nth st 7)] : Array Value)[i]? = some (.int .u32 (nth st i)) := by
  match i, h with
  | 0, _ => rfl
  | 1, _ => rfl
  | 2, _ => rfl
  | 3, _ => rfl
  | 4, _ => rfl
  | 5, _ => rfl
  | 6, _ => rfl
  | 7, _ => rfl

theorem index42 (st : List Int) (i : Nat) (h : i < 8) (W : World) :
    (Instr.index 76 (.agg #[.int .u32 (nth st 0), .int .u32 (nth st 1), .int .u32 (nth st 2), .int .u32 (nth st 3), .int .u32 (nth st 4), .int .u32 (nth st 5), .int .u32 (nth st 6), .int .u32 (nth st 7)]) (.int .i64 (i : Int))).run Try.prog W = .ok (.int .u32 (nth st i)) W := by
  obtain ⟨it, hit, -, hit2, -⟩ := info_parts Try.infoU32
  exact run_index_arr W _ _ 8 _ it Try.underlying76 hit hit2 Try.underlying74 rfl _ .i64 i h _ (pick8 st i h)

/-- A hundred and twenty-eight bytes, all nought. -/
def Z128 : List Value := List.replicate 128 (.int .u8 0)
theorem zero47 (w : World) : (zeroValue 81).run Try.prog w = .ok (.agg Z128.toArray) w := by kernel_rfl

set_option maxRecDepth 100000 in
set_option maxHeartbeats 1000000 in
theorem sum_any (v : Value) (l : List Int) (w : World) (hv : Sl .u8 w v l) (hn : l.length ≤ 1152921504606846975) :
    Calls Try.prog 36 #[v] w fun e w' => e = .returned (.agg ((sumL l).map (Value.int .u8)).toArray) ∧ Below w.heap.size w w' := by
  obtain ⟨sp, cap, rfl, hc1, hc2, hrow, -⟩ := hv
  go_enter Try.func36, Try.ntmps36
  go_wp2_with fail
  refine (numbers_any _).mono ?_
  rintro e w1 ⟨rfl, hb1⟩
  obtain ⟨hB0, hB1, hb, hsz⟩ := two_alloc hb1
  clear hb1
  go_wp2_with (refine wpList_store_row rfl 77 _ _ rfl w1.heap.size (K.map (Value.int .u32)).toArray rfl rfl 77 _ (heap_alloc_new _ _) (by kernel_rfl) (by kernel_rfl) (by kernel_rfl) ?_)
  have hKb := setRow_heap _ w1.heap.size _ (K.map (Value.int .u32)).toArray 77 (0, 0) (heap_alloc_new w1 (.cells ((List.replicate 64 (0 : Int)).map (Value.int .u32)).toArray 77))
  have hkeep : Below w1.heap.size w1 ((w1.alloc (.cells ((List.replicate 64 (0 : Int)).map (Value.int .u32)).toArray 77)).setRow w1.heap.size (K.map (Value.int .u32)).toArray) :=
    below_setRow ((Below.refl _ _).alloc (Nat.le_refl _) _) (Nat.le_refl _) _
  simp only [List.replicate, List.map_cons, List.map_nil] at hKb hkeep
  generalize World.setRow _ _ _ = w2 at hKb hkeep ⊢
  have hz2 : w1.heap.size < w2.heap.size := lt_of_block hKb
  have hKk : IBlk .u32 77 w2 w1.heap.size K := hKb
  have hHh : IBlk .u8 45 w2 w.heap.size (List.replicate 32 0) := (hkeep.block w.heap.size (by omega)).trans hB0
  have hSs : IBlk .u32 76 w2 (w.heap.size + 1) H0 := (hkeep.block (w.heap.size + 1) (by omega)).trans hB1
  have hbel : Below w.heap.size w w2 := hb.trans (hkeep.mono (by omega))
  clear hKb hkeep hB0 hB1
  obtain ⟨BK, hBK⟩ : ∃ BK, BK = w1.heap.size := ⟨_, rfl⟩
  rw [← hBK] at hKk hz2 hsz ⊢
  clear hBK hb
  have hrow0 : 0 < l.length → ∃ b o, sp = some ⟨b, o, none⟩ ∧ b < w.heap.size ∧ Row .u8 w b o (l.drop (64 * 0)) := hrow
  go_loopw [5] (fun r wr => ∃ j m sq rc, m + 64 * j = l.length ∧ m ≤ rc ∧ rc ≤ 9223372036854775807 ∧ r = .slice sq m rc ∧
      (0 < m → ∃ b o, sq = some ⟨b, o, none⟩ ∧ b < w.heap.size ∧ Row .u8 w b o (l.drop (64 * j))) ∧
      IBlk .u32 77 wr BK K ∧ IBlk .u8 45 wr w.heap.size (List.replicate 32 0) ∧ IBlk .u32 76 wr (w.heap.size + 1) (absorb l H0 j) ∧ Below w.heap.size w wr)
    (fun r _ => lenOf r)
  case atStart => exact ⟨0, l.length, sp, cap, by omega, hc1, hc2, rfl, hrow0, hKk, hHh, hSs, hbel⟩
  case round =>
    clear hKk hHh hSs hbel hz2 hrow0
    obtain ⟨j, m, sq, rc, hm, hrc1, hrc2, rfl, hsq, hKk, hHh, hSs, hbel⟩ := hrel
    have hls : (absorb l H0 j).length = 8 := absorb_length l H0 j
    have hbsz := hbel.size
    by_cases h64 : 64 ≤ m
    · obtain ⟨b, o, rfl, hbw, hrw⟩ := hsq (by omega)
      have hrwr : Row .u8 wr b o (l.drop (64 * j)) := hrw.below hbel hbw
      have hstep : ∀ w', IBlk .u32 76 w' (w.heap.size + 1) (compress K (l.drop (64 * j)) (absorb l H0 j)) → Keep (fun k => k < wr.heap.size ∧ k ≠ w.heap.size + 1) wr w' →
          IBlk .u32 77 w' BK K ∧ IBlk .u8 45 w' w.heap.size (List.replicate 32 0) ∧ IBlk .u32 76 w' (w.heap.size + 1) (absorb l H0 (j + 1)) ∧ Below w.heap.size w w' := by
        intro w' hS hKp
        exact ⟨hKk.keep hKp ⟨hKk.lt, by omega⟩, hHh.keep hKp ⟨hHh.lt, by omega⟩, hS, hbel.trans (hKp.mono (fun k hk => ⟨by omega, by omega⟩)).below⟩
      have hdrop : 64 ≤ (l.drop (64 * j)).length := by rw [List.length_drop]; omega
      by_cases hcap : rc = 64
      · have hm64 : m = 64 := by omega
        subst hm64
        subst hcap
        go_wp2_with fail
        refine (take_any (w.heap.size + 1) b o 64 64 BK (absorb l H0 j) (l.drop (64 * j)) K 76 77 _ (Nat.le_refl _) (by omega) (Nat.le_refl _) (by omega) hSs hrwr hKk hls hdrop rfl).mono ?_
        rintro e w' ⟨rfl, hS', hK'⟩
        have hfin := hstep w' hS' hK'
        clear hstep hS' hK' hSs hKk hHh hbel hrwr hrw hsq
        go_wp2
        go_roundw
        case rel => exact ⟨j + 1, 0, _, 0, by omega, by omega, by omega, rfl, fun h => absurd h (by omega), hfin⟩
        case measure => simp [lenOf]
      · go_wp2_with fail
        refine (take_any (w.heap.size + 1) b o m rc BK (absorb l H0 j) (l.drop (64 * j)) K 76 77 _ h64 (by omega) hrc1 (by omega) hSs hrwr hKk hls hdrop rfl).mono ?_
        rintro e w' ⟨rfl, hS', hK'⟩
        have hfin := hstep w' hS' hK'
        have hrw2 : Row .u8 w b (o + 64) (l.drop (64 * (j + 1))) := by
          have := row_drop hrw 64; rw [List.drop_drop] at this; rwa [Nat.mul_add]
        clear hstep hS' hK' hSs hKk hHh hbel hrwr hrw hsq
        go_wp2
        go_roundw
        case rel => exact ⟨j + 1, m - 64, _, rc - 64, by omega, by omega, by omega, rfl, fun _ => ⟨b, o + 64, rfl, hbw, hrw2⟩, hfin⟩
        case measure => simp [lenOf]; omega
    · have hml : m < 64 := by omega
      have hrl : (l.drop (64 * j)).length = m := by rw [List.length_drop]; omega
      obtain ⟨rl, hrl2⟩ : ∃ rl, rl = l.drop (64 * j) := ⟨_, rfl⟩
      rw [← hrl2] at hsq hrl
      have Hrl := Lib.hid hrl2
      clear hrl2
      have hZ : VBlk 81 (wr.alloc (.cells Z128.toArray 81)) wr.heap.size Z128 := VBlk.mk wr _ _
      have hZk : Below wr.heap.size wr (wr.alloc (.cells Z128.toArray 81)) := (Below.refl _ _).alloc (Nat.le_refl _) _
      obtain ⟨cs, hcs⟩ : ∃ cs, cs = rl.map (Value.int .u8) := ⟨_, rfl⟩
      have Hcs := Lib.hid hcs
      have hcl : cs.length = m := by rw [hcs]; simpa using hrl
      have hcone : ∀ v ∈ cs, v.oneCell' = true := by rw [hcs]; intro v hv; simp at hv; obtain ⟨_, _, rfl⟩ := hv; rfl
      have hsrc : 0 < cs.length → some (⟨wr.heap.size, 0, none⟩ : Addr) = some ⟨wr.heap.size, 0, none⟩ ∧ ∃ ad, sq = some ad ∧ ∀ j v, cs[j]? = some v → wr.cell? (ad.add j) = some v := by
        intro h0
        refine ⟨rfl, ?_⟩
        obtain ⟨b, o, hsq', hbw, hr⟩ := hsq (by omega)
        refine ⟨_, hsq', fun i v hv => ?_⟩
        rw [hcs] at hv
        have hi : i < rl.length := by
          rcases Nat.lt_or_ge i rl.length with h | h
          · exact h
          · simp [h] at hv
        have := (hr.below hbel hbw) i hi
        rw [addr_add, this]
        simpa [nth, hi] using hv
      clear hcs
      have hsrc2 : 0 < cs.length → ∃ ad, sq = some ad ∧ ∀ j v, cs[j]? = some v → (wr.alloc (.cells Z128.toArray 81)).cell? (ad.add j) = some v := by
        intro h0
        obtain ⟨_, ad, e, h⟩ := hsrc h0
        exact ⟨ad, e, fun j v hv => by have := h j v hv; rw [← this]; exact World.cell?_alloc_lt _ _ _ (block_lt_of_cell this)⟩
      clear hsrc
      have HCL := Lib.hid hcl
      clear hcl
      have hz47 : ∀ w : World, (zeroValue 81).run Try.prog w = .ok (.agg Z128.toArray) w := zero47
      go_wp2_with (refine wpList_copy_splice rfl (.tmp 24) (.tmp 25) 28 28 rfl 5 Try.underlying28 (by kernel_rfl) _ _ _ _ _ _ rfl rfl wr.heap.size 0 Z128 81 hZ cs ?hn ?hpos ?hfit hcone wr.heap.size wr hZk (Nat.le_refl _) ?hh)
      case hn => rw [HCL.out]; exact (Nat.min_eq_left (by omega)).symm
      case hpos => first | exact fun h => ⟨rfl, hsrc2 h⟩ | exact hsrc2
      case hfit => rw [HCL.out]; show 0 + m ≤ 128; omega
      case hh =>
        intro w3 HG3 hB3
        rw [HCL.out]
        have hL : IBlk .u8 81 w3 wr.heap.size (rl ++ List.replicate (128 - m) 0) := by
          have e : splice Z128 0 cs = (rl ++ List.replicate (128 - m) 0).map (Value.int .u8) := by
            rw [splice_zero _ _ (by rw [HCL.out]; show m ≤ 128; omega), HCL.out, Hcs.out]
            rw [List.map_append, List.map_replicate]; unfold Z128; rw [List.drop_replicate]
          have := HG3.out
          rw [e] at this
          exact this
        have hKk3 := hKk.below hB3 hKk.lt
        have hHh3 := hHh.below hB3 hHh.lt
        have hSs3 := hSs.below hB3 hSs.lt
        have hbel3 : Below w.heap.size w w3 := hbel.trans (hB3.mono hbsz)
        have hBLK : BK ≠ wr.heap.size := by have := hKk.lt; omega
        have hBLS : w.heap.size + 1 < wr.heap.size := hSs.lt
        obtain ⟨BL, hBL⟩ : ∃ BL, BL = wr.heap.size := ⟨_, rfl⟩
        rw [← hBL] at hL hBLK hBLS ⊢
        clear hBL HG3 hB3 hKk hHh hSs hbel hbsz hsrc2 hZ hZk hcone Hcs HCL hz47 hsq
        have hLl : (rl ++ List.replicate (128 - m) 0).length = 128 := by simp [hrl]; omega
        have c0 := hL.cell m (by omega)
        have f0 := hL.free m
        by_cases h56 : 56 ≤ m
        · have h56i : (56 : Int) ≤ (m : Int) := by omega
          go_wp2_with fail
          have hP0 := hL.set m 128
          have hk4 : Keep (fun k => k ≠ BL) w3 (w3.setCell ⟨BL, m, none⟩ (.int .u8 128)) := (Keep.refl _ _).setCell (fun h => h rfl) _
          generalize World.setCell _ _ _ = w4 at hP0 hk4 ⊢
          have hKk4 := hKk3.keep hk4 hBLK
          have hHh4 := hHh3.keep hk4 (by omega)
          have hSs4 := hSs3.keep hk4 (by omega)
          have hbel4 : Below w.heap.size w w4 := hbel3.trans (hk4.mono (fun k (hk : k < w.heap.size) => by omega)).below
          clear hKk3 hHh3 hSs3 hbel3 hk4 hL hLl c0 f0
          obtain ⟨p0, hp0⟩ : ∃ p0, p0 = (rl ++ List.replicate (128 - m) 0).set m 128 := ⟨_, rfl⟩
          rw [← hp0] at hP0
          have hpl : p0.length = 128 := by rw [hp0]; simp [hrl]; omega
          have Hp0 := Lib.hid hp0
          clear hp0
          go_loopw [35] (fun c wr => ∃ i : Nat, i ≤ 8 ∧ c = .int .i64 i ∧ IBlk .u8 81 wr BL (putLen p0 128 l.length i) ∧ Keep (fun k => k ≠ BL) w4 wr) (fun c _ => 8 - (intOf c).toNat)
          case atStart => exact ⟨0, by omega, rfl, hP0, Keep.refl _ _⟩
          case round =>
            clear hP0
            obtain ⟨i, hi, rfl, hPr, hKr⟩ := hrel
            have hql : (putLen p0 128 l.length i).length = 128 := (putLen_length p0 128 l.length i).trans hpl
            by_cases h8 : i < 8
            · have c0 := hPr.cell (127 - i) (by omega)
              have f0 := hPr.free (127 - i)
              go_wp2_with fail
              go_roundw
              case rel => exact ⟨i + 1, by omega, by go_num, hPr.set _ _, hKr.setCell (fun h => h rfl) _⟩
              case measure => simp [intOf]; omega
            · have e8 : i = 8 := by omega
              rw [e8] at hPr hql
              clear e8
              have hKk5 := hKk4.keep hKr hBLK
              have hHh5 := hHh4.keep hKr (by omega)
              have hSs5 := hSs4.keep hKr (by omega)
              have hbel5 : Below w.heap.size w wr := hbel4.trans (hKr.mono (fun k (hk : k < w.heap.size) => by omega)).below
              obtain ⟨PL, hPL⟩ : ∃ PL, PL = putLen p0 128 l.length 8 := ⟨_, rfl⟩
              rw [← hPL] at hPr hql
              have HPL := Lib.hid hPL
              clear hKk4 hHh4 hSs4 hbel4 hKr hPL
              obtain ⟨S0, hS0⟩ : ∃ S0, S0 = absorb l H0 j := ⟨_, rfl⟩
              rw [← hS0] at hSs5 hls
              have HS0 := Lib.hid hS0
              clear hS0
              obtain ⟨w5, hw5⟩ : ∃ w5, w5 = wr := ⟨_, rfl⟩
              rw [← hw5] at hKk5 hHh5 hSs5 hbel5 hPr ⊢
              clear hw5
              go_wp2_with fail
              go_loopw [11] (fun c wr => ∃ i : Nat, i ≤ 2 ∧ c = .int .i64 (64 * (i : Int)) ∧ IBlk .u32 76 wr (w.heap.size + 1) (absorb PL S0 i) ∧ Keep (fun k => k < w5.heap.size ∧ k ≠ w.heap.size + 1) w5 wr) (fun c _ => 128 - (intOf c).toNat)
              case atStart => exact ⟨0, by omega, rfl, hSs5, Keep.refl _ _⟩
              case round =>
                clear hSs5
                obtain ⟨q, hq, rfl, hSr, hKr⟩ := hrel
                have hsl : (absorb PL S0 q).length = 8 := (absorb_length PL S0 q).trans hls
                have hPq := hPr.keep hKr ⟨hPr.lt, by omega⟩
                have hKq := hKk5.keep hKr ⟨hKk5.lt, by omega⟩
                by_cases hqn : q < 2
                · have hrow := row_drop hPq.row (64 * q)
                  rw [Nat.zero_add] at hrow
                  have hdl : 64 ≤ (PL.drop (64 * q)).length := by rw [List.length_drop]; omega
                  have b0 : 0 ≤ 64 * (q : Int) := by omega
                  have b1 : 64 * (q : Int) ≤ 128 := by omega
                  go_wp2_with fail
                  refine (take_any (w.heap.size + 1) BL (64 * q) (128 - 64 * q) (128 - 64 * q) BK (absorb PL S0 q) (PL.drop (64 * q)) K 76 77 _ (by omega) (by omega) (by omega) hPq.lt hSr hrow hKq hsl hdl rfl).mono ?_
                  rintro e w' ⟨rfl, hS', hK'⟩
                  have hsz' := hKr.size
                  have hK2 : Keep (fun k => k < w5.heap.size ∧ k ≠ w.heap.size + 1) w5 w' := hKr.trans (hK'.mono (fun k hk => ⟨Nat.lt_of_lt_of_le hk.1 hsz', hk.2⟩))
                  have hS2 : IBlk .u32 76 w' (w.heap.size + 1) (absorb PL S0 (q + 1)) := hS'
                  clear hS' hK' hKr hSr hPq hKq hrow
                  go_wp2_with fail
                  go_roundw
                  case rel => exact ⟨q + 1, by omega, by go_num, hS2, hK2⟩
                  case measure => simp [intOf]; omega
                · have eq2 : q = 2 := by omega
                  rw [eq2] at hSr hsl
                  clear eq2
                  have hHq := hHh5.keep hKr ⟨hHh5.lt, by omega⟩
                  have hbelq : Below w.heap.size w wr := hbel5.trans (hKr.mono (fun k (hk : k < w.heap.size) => ⟨Nat.lt_of_lt_of_le hk hbel5.size, by omega⟩)).below
                  obtain ⟨st, hst⟩ : ∃ st, st = absorb PL S0 2 := ⟨_, rfl⟩
                  rw [← hst] at hSr hsl
                  have hres : sumL l = outH st 8 := by
                    have ej : j = l.length / 64 := by omega
                    have erl : l.drop (64 * j) = rl := Hrl.out.symm
                    unfold sumL
                    simp only [← ej, erl, hrl]
                    rw [hst, HPL.out, Hp0.out, HS0.out]
                    first | (rw [if_pos h56]) | (rw [if_neg h56])
                  have Hres := Hid2.mk hres
                  clear hres hst hPq hKq hKr hPr hKk5 hHh5 hbel5
                  obtain ⟨w6, hw6⟩ : ∃ w6, w6 = wr := ⟨_, rfl⟩
                  rw [← hw6] at hSr hHq hbelq ⊢
                  clear hw6
                  have hgS : w6.heap[w.heap.size + 1]? = some (.cells (st.map (Value.int .u32)).toArray 76 (0, 0)) := hSr
                  have d0 := hSr.cell 0 (by omega)
                  have d1 := hSr.cell 1 (by omega)
                  have d2 := hSr.cell 2 (by omega)
                  have d3 := hSr.cell 3 (by omega)
                  have d4 := hSr.cell 4 (by omega)
                  have d5 := hSr.cell 5 (by omega)
                  have d6 := hSr.cell 6 (by omega)
                  have d7 := hSr.cell 7 (by omega)
                  clear hgS
                  go_wp2_with fail
                  clear d0 d1 d2 d3 d4 d5 d6 d7
                  go_loopw [58] (fun c wr => ∃ i : Nat, i ≤ 8 ∧ c = .int .i64 i ∧ IBlk .u8 45 wr w.heap.size (outH st i) ∧ Keep (fun k => k ≠ w.heap.size) w6 wr) (fun c _ => 8 - (intOf c).toNat)
                  case atStart => exact ⟨0, by omega, rfl, hHq, Keep.refl _ _⟩
                  case round =>
                    clear hHq hSr
                    obtain ⟨i, hi, rfl, hOr, hKr⟩ := hrel
                    have hol := outH_length st i
                    by_cases hi8 : i < 8
                    · have c0 := hOr.cell (4 * i) (by omega)
                      have c1 := hOr.cell (4 * i + 1) (by omega)
                      have c2 := hOr.cell (4 * i + 2) (by omega)
                      have c3 := hOr.cell (4 * i + 3) (by omega)
                      have f0 := hOr.free (4 * i)
                      have f1 := hOr.free (4 * i + 1)
                      have f2 := hOr.free (4 * i + 2)
                      have f3 := hOr.free (4 * i + 3)
                      have hix := index42 st i hi8
                      go_wp2_with fail
                      go_roundw
                      case rel => exact ⟨i + 1, by omega, by go_num, (((hOr.set _ _).set _ _).set _ _).set _ _, (((hKr.setCell (fun h => h rfl) _).setCell (fun h => h rfl) _).setCell (fun h => h rfl) _).setCell (fun h => h rfl) _⟩
                      case measure => simp [intOf]; omega
                    · have e9 : i = 8 := by omega
                      rw [e9] at hOr
                      clear e9
                      obtain ⟨hh, hhe⟩ : ∃ hh, hh = sumL l := ⟨_, rfl⟩
                      have hsl32 : hh.length = 32 := by rw [hhe]; exact sumL_length l
                      rw [← Hres.out, ← hhe] at hOr
                      have Hhe := Hid2.mk hhe
                      clear hhe
                      have hg0 : wr.heap[w.heap.size]? = some (.cells (hh.map (Value.int .u8)).toArray 45 (0, 0)) := hOr
                      have hbelf : Below w.heap.size w wr := hbelq.trans (hKr.mono (fun k (hk : k < w.heap.size) => by omega)).below
                      clear hOr hol hKr Hres hbelq
                      have hi25 : (Try.prog.info? 45).map (·.size) = some (hh.map (Value.int .u8)).toArray.size := by
                        rw [List.size_toArray, List.length_map, hsl32]; kernel_rfl
                      have hone : (hh.map (Value.int .u8)).toArray.all (·.oneCell') = true := by simp [Value.oneCell']
                      have Hi25 := Hid2.mk hi25
                      have Hone := Hid2.mk hone
                      have Hg0 := Hid2.mk hg0
                      clear hi25 hone hg0 hsl32
                      go_wp2_with (first | (refine wpList_load_row rfl 45 (.tmp 2) rfl w.heap.size rfl 45 (hh.map (Value.int .u8)).toArray (0, 0) _ Hg0.out Try.underlying45 rfl Hi25.out ?_) | (refine wpList_store_row rfl 45 (.tmp 2) (.tmp 89) rfl w.heap.size (hh.map (Value.int .u8)).toArray rfl rfl 45 (hh.map (Value.int .u8)).toArray Hg0.out Hi25.out rfl Hone.out ?_))
                      refine bodyPost_ret (results_cell_row rfl _ _ w.heap.size 45 (hh.map (Value.int .u8)).toArray (0, 0) _ rfl (setRow_heap _ _ _ _ _ _ Hg0.out) Try.underlying45 rfl Hi25.out) rfl ⟨by rw [Hhe.out], ?_⟩
                      exact below_setRow hbelf (Nat.le_refl _) _
        · have h56i : decide ((56 : Int) ≤ (m : Int)) = false := decide_eq_false (by omega)
          go_wp2_with fail
          have hP0 := hL.set m 128
          have hk4 : Keep (fun k => k ≠ BL) w3 (w3.setCell ⟨BL, m, none⟩ (.int .u8 128)) := (Keep.refl _ _).setCell (fun h => h rfl) _
          generalize World.setCell _ _ _ = w4 at hP0 hk4 ⊢
          have hKk4 := hKk3.keep hk4 hBLK
          have hHh4 := hHh3.keep hk4 (by omega)
          have hSs4 := hSs3.keep hk4 (by omega)
          have hbel4 : Below w.heap.size w w4 := hbel3.trans (hk4.mono (fun k (hk : k < w.heap.size) => by omega)).below
          clear hKk3 hHh3 hSs3 hbel3 hk4 hL hLl c0 f0
          obtain ⟨p0, hp0⟩ : ∃ p0, p0 = (rl ++ List.replicate (128 - m) 0).set m 128 := ⟨_, rfl⟩
          rw [← hp0] at hP0
          have hpl : p0.length = 128 := by rw [hp0]; simp [hrl]; omega
          have Hp0 := Lib.hid hp0
          clear hp0
          go_loopw [35] (fun c wr => ∃ i : Nat, i ≤ 8 ∧ c = .int .i64 i ∧ IBlk .u8 81 wr BL (putLen p0 64 l.length i) ∧ Keep (fun k => k ≠ BL) w4 wr) (fun c _ => 8 - (intOf c).toNat)
          case atStart => exact ⟨0, by omega, rfl, hP0, Keep.refl _ _⟩
          case round =>
            clear hP0
            obtain ⟨i, hi, rfl, hPr, hKr⟩ := hrel
            have hql : (putLen p0 64 l.length i).length = 128 := (putLen_length p0 64 l.length i).trans hpl
            by_cases h8 : i < 8
            · have c0 := hPr.cell (63 - i) (by omega)
              have f0 := hPr.free (63 - i)
              go_wp2_with fail
              go_roundw
              case rel => exact ⟨i + 1, by omega, by go_num, hPr.set _ _, hKr.setCell (fun h => h rfl) _⟩
              case measure => simp [intOf]; omega
            · have e8 : i = 8 := by omega
              rw [e8] at hPr hql
              clear e8
              have hKk5 := hKk4.keep hKr hBLK
              have hHh5 := hHh4.keep hKr (by omega)
              have hSs5 := hSs4.keep hKr (by omega)
              have hbel5 : Below w.heap.size w wr := hbel4.trans (hKr.mono (fun k (hk : k < w.heap.size) => by omega)).below
              obtain ⟨PL, hPL⟩ : ∃ PL, PL = putLen p0 64 l.length 8 := ⟨_, rfl⟩
              rw [← hPL] at hPr hql
              have HPL := Lib.hid hPL
              clear hKk4 hHh4 hSs4 hbel4 hKr hPL
              obtain ⟨S0, hS0⟩ : ∃ S0, S0 = absorb l H0 j := ⟨_, rfl⟩
              rw [← hS0] at hSs5 hls
              have HS0 := Lib.hid hS0
              clear hS0
              obtain ⟨w5, hw5⟩ : ∃ w5, w5 = wr := ⟨_, rfl⟩
              rw [← hw5] at hKk5 hHh5 hSs5 hbel5 hPr ⊢
              clear hw5
              go_wp2_with fail
              go_loopw [11] (fun c wr => ∃ i : Nat, i ≤ 1 ∧ c = .int .i64 (64 * (i : Int)) ∧ IBlk .u32 76 wr (w.heap.size + 1) (absorb PL S0 i) ∧ Keep (fun k => k < w5.heap.size ∧ k ≠ w.heap.size + 1) w5 wr) (fun c _ => 64 - (intOf c).toNat)
              case atStart => exact ⟨0, by omega, rfl, hSs5, Keep.refl _ _⟩
              case round =>
                clear hSs5
                obtain ⟨q, hq, rfl, hSr, hKr⟩ := hrel
                have hsl : (absorb PL S0 q).length = 8 := (absorb_length PL S0 q).trans hls
                have hPq := hPr.keep hKr ⟨hPr.lt, by omega⟩
                have hKq := hKk5.keep hKr ⟨hKk5.lt, by omega⟩
                by_cases hqn : q < 1
                · have hrow := row_drop hPq.row (64 * q)
                  rw [Nat.zero_add] at hrow
                  have hdl : 64 ≤ (PL.drop (64 * q)).length := by rw [List.length_drop]; omega
                  have b0 : 0 ≤ 64 * (q : Int) := by omega
                  have b1 : 64 * (q : Int) ≤ 128 := by omega
                  go_wp2_with fail
                  refine (take_any (w.heap.size + 1) BL (64 * q) (128 - 64 * q) (128 - 64 * q) BK (absorb PL S0 q) (PL.drop (64 * q)) K 76 77 _ (by omega) (by omega) (by omega) hPq.lt hSr hrow hKq hsl hdl rfl).mono ?_
                  rintro e w' ⟨rfl, hS', hK'⟩
                  have hsz' := hKr.size
                  have hK2 : Keep (fun k => k < w5.heap.size ∧ k ≠ w.heap.size + 1) w5 w' := hKr.trans (hK'.mono (fun k hk => ⟨Nat.lt_of_lt_of_le hk.1 hsz', hk.2⟩))
                  have hS2 : IBlk .u32 76 w' (w.heap.size + 1) (absorb PL S0 (q + 1)) := hS'
                  clear hS' hK' hKr hSr hPq hKq hrow
                  go_wp2_with fail
                  go_roundw
                  case rel => exact ⟨q + 1, by omega, by go_num, hS2, hK2⟩
                  case measure => simp [intOf]; omega
                · have eq2 : q = 1 := by omega
                  rw [eq2] at hSr hsl
                  clear eq2
                  have hHq := hHh5.keep hKr ⟨hHh5.lt, by omega⟩
                  have hbelq : Below w.heap.size w wr := hbel5.trans (hKr.mono (fun k (hk : k < w.heap.size) => ⟨Nat.lt_of_lt_of_le hk hbel5.size, by omega⟩)).below
                  obtain ⟨st, hst⟩ : ∃ st, st = absorb PL S0 1 := ⟨_, rfl⟩
                  rw [← hst] at hSr hsl
                  have hres : sumL l = outH st 8 := by
                    have ej : j = l.length / 64 := by omega
                    have erl : l.drop (64 * j) = rl := Hrl.out.symm
                    unfold sumL
                    simp only [← ej, erl, hrl]
                    rw [hst, HPL.out, Hp0.out, HS0.out]
                    first | (rw [if_pos h56]) | (rw [if_neg h56])
                  have Hres := Hid2.mk hres
                  clear hres hst hPq hKq hKr hPr hKk5 hHh5 hbel5
                  obtain ⟨w6, hw6⟩ : ∃ w6, w6 = wr := ⟨_, rfl⟩
                  rw [← hw6] at hSr hHq hbelq ⊢
                  clear hw6
                  have hgS : w6.heap[w.heap.size + 1]? = some (.cells (st.map (Value.int .u32)).toArray 76 (0, 0)) := hSr
                  have d0 := hSr.cell 0 (by omega)
                  have d1 := hSr.cell 1 (by omega)
                  have d2 := hSr.cell 2 (by omega)
                  have d3 := hSr.cell 3 (by omega)
                  have d4 := hSr.cell 4 (by omega)
                  have d5 := hSr.cell 5 (by omega)
                  have d6 := hSr.cell 6 (by omega)
                  have d7 := hSr.cell 7 (by omega)
                  clear hgS
                  go_wp2_with fail
                  clear d0 d1 d2 d3 d4 d5 d6 d7
                  go_loopw [58] (fun c wr => ∃ i : Nat, i ≤ 8 ∧ c = .int .i64 i ∧ IBlk .u8 45 wr w.heap.size (outH st i) ∧ Keep (fun k => k ≠ w.heap.size) w6 wr) (fun c _ => 8 - (intOf c).toNat)
                  case atStart => exact ⟨0, by omega, rfl, hHq, Keep.refl _ _⟩
                  case round =>
                    clear hHq hSr
                    obtain ⟨i, hi, rfl, hOr, hKr⟩ := hrel
                    have hol := outH_length st i
                    by_cases hi8 : i < 8
                    · have c0 := hOr.cell (4 * i) (by omega)
                      have c1 := hOr.cell (4 * i + 1) (by omega)
                      have c2 := hOr.cell (4 * i + 2) (by omega)
                      have c3 := hOr.cell (4 * i + 3) (by omega)
                      have f0 := hOr.free (4 * i)
                      have f1 := hOr.free (4 * i + 1)
                      have f2 := hOr.free (4 * i + 2)
                      have f3 := hOr.free (4 * i + 3)
                      have hix := index42 st i hi8
                      go_wp2_with fail
                      go_roundw
                      case rel => exact ⟨i + 1, by omega, by go_num, (((hOr.set _ _).set _ _).set _ _).set _ _, (((hKr.setCell (fun h => h rfl) _).setCell (fun h => h rfl) _).setCell (fun h => h rfl) _).setCell (fun h => h rfl) _⟩
                      case measure => simp [intOf]; omega
                    · have e9 : i = 8 := by omega
                      rw [e9] at hOr
                      clear e9
                      obtain ⟨hh, hhe⟩ : ∃ hh, hh = sumL l := ⟨_, rfl⟩
                      have hsl32 : hh.length = 32 := by rw [hhe]; exact sumL_length l
                      rw [← Hres.out, ← hhe] at hOr
                      have Hhe := Hid2.mk hhe
                      clear hhe
                      have hg0 : wr.heap[w.heap.size]? = some (.cells (hh.map (Value.int .u8)).toArray 45 (0, 0)) := hOr
                      have hbelf : Below w.heap.size w wr := hbelq.trans (hKr.mono (fun k (hk : k < w.heap.size) => by omega)).below
                      clear hOr hol hKr Hres hbelq
                      have hi25 : (Try.prog.info? 45).map (·.size) = some (hh.map (Value.int .u8)).toArray.size := by
                        rw [List.size_toArray, List.length_map, hsl32]; kernel_rfl
                      have hone : (hh.map (Value.int .u8)).toArray.all (·.oneCell') = true := by simp [Value.oneCell']
                      have Hi25 := Hid2.mk hi25
                      have Hone := Hid2.mk hone
                      have Hg0 := Hid2.mk hg0
                      clear hi25 hone hg0 hsl32
                      go_wp2_with (first | (refine wpList_load_row rfl 45 (.tmp 2) rfl w.heap.size rfl 45 (hh.map (Value.int .u8)).toArray (0, 0) _ Hg0.out Try.underlying45 rfl Hi25.out ?_) | (refine wpList_store_row rfl 45 (.tmp 2) (.tmp 89) rfl w.heap.size (hh.map (Value.int .u8)).toArray rfl rfl 45 (hh.map (Value.int .u8)).toArray Hg0.out Hi25.out rfl Hone.out ?_))
                      refine bodyPost_ret (results_cell_row rfl _ _ w.heap.size 45 (hh.map (Value.int .u8)).toArray (0, 0) _ rfl (setRow_heap _ _ _ _ _ _ Hg0.out) Try.underlying45 rfl Hi25.out) rfl ⟨by rw [Hhe.out], ?_⟩
                      exact below_setRow hbelf (Nat.le_refl _) _

end Dig
end Go.Proofs.Ytnboloilljlfiaa

/- digest's reference: its small functions, and what a block is taken in by. -/
namespace Go.Proofs.Ytnboloilljlfiaa
open Go.RowKit
namespace Dig

set_option maxHeartbeats 400000 in
theorem r_any (x n : Int) (w : World) (hn : 0 ≤ n) (hn2 : n ≤ 32) :
    Calls Try.prog 52 #[.int .u32 x, .int .u64 n] w fun e w' => e = .returned (.int .u32 (rotr x n)) ∧ w = w' := by
  go_enter Try.func52, Try.ntmps52
  go_wp2
  go_ret
  exact ⟨rfl, rfl⟩
theorem r_same (x n : Int) (w : World) (hn : 0 ≤ n) (hn2 : n ≤ 32) :
    Calls Try.prog 52 #[.int .u32 x, .int .u64 n] w fun e w' => e = .returned (.int .u32 (rotr x n)) ∧ w' = w :=
  (r_any x n w hn hn2).mono fun _ _ ⟨a, b⟩ => ⟨a, b.symm⟩

set_option maxRecDepth 100000 in
set_option maxHeartbeats 1000000 in
theorem k_any (w : World) :
    Calls Try.prog 46 #[] w fun e w' => e = .returned (.agg (K.map (Value.int .u32)).toArray) ∧ Below w.heap.size w w' := by
  go_enter Try.func46, Try.ntmps46
  go_wp2_with (first | (refine wpList_build_to rfl 77 _ rfl (K.map (Value.int .u32)).toArray (by kernel_rfl) ?_) | (refine wpList_store_row rfl 77 _ _ rfl w.heap.size (K.map (Value.int .u32)).toArray rfl rfl 77 _ (heap_alloc_new _ _) (by kernel_rfl) (by kernel_rfl) (by kernel_rfl) ?_))
  refine bodyPost_ret (results_cell_row rfl _ _ w.heap.size 77 (K.map (Value.int .u32)).toArray (0, 0) _ rfl (setRow_heap _ _ _ _ _ _ (heap_alloc_new _ _)) Try.underlying77 rfl (by kernel_rfl)) rfl ⟨rfl, ?_⟩
  exact below_setRow ((Below.refl _ _).alloc (Nat.le_refl _) _) (Nat.le_refl _) _

/-- Sixty-four words, all nought. -/
def Z64 : List Int := List.replicate 64 0
theorem zero43 (w : World) : (zeroValue 77).run Try.prog w = .ok (.agg (Z64.map (Value.int .u32)).toArray) w := by kernel_rfl
def Z8 : List Int := List.replicate 8 0
theorem zero41 (w : World) : (zeroValue 75).run Try.prog w = .ok (.agg (Z8.map (Value.int .u32)).toArray) w := by kernel_rfl

theorem mk8' (T : TypeId) (w : World) (l : List Int) (h : l.length = 8) :
    IBlk .u32 T (w.alloc (.cells #[.int .u32 (nth l 0), .int .u32 (nth l 1), .int .u32 (nth l 2), .int .u32 (nth l 3), .int .u32 (nth l 4), .int .u32 (nth l 5), .int .u32 (nth l 6), .int .u32 (nth l 7)] T)) w.heap.size l := by
  have := VBlk.mk w (l.map (Value.int .u32)) T
  match l, h with
  | [a, b, c, d, e, f, g, i], _ => exact this

set_option maxRecDepth 100000 in
set_option maxHeartbeats 2000000 in
theorem block_any (bb ob n cap bk : Nat) (st by_ kk : List Int) (T' : TypeId) (w : World) (hn : 64 ≤ n) (hn2 : n ≤ 9223372036854775807)
    (hbb : bb < w.heap.size) (hby : Row .u8 w bb ob by_) (hkk : IBlk .u32 T' w bk kk) (hl1 : st.length = 8) (hl2 : 64 ≤ by_.length) (hl3 : kk.length = 64) :
    Calls Try.prog 47 #[.agg (st.map (Value.int .u32)).toArray, .slice (some ⟨bb, ob, none⟩) n cap, .pointer (some ⟨bk, 0, none⟩)] w
      fun e w' => e = .returned (.agg ((compress kk by_ st).map (Value.int .u32)).toArray) ∧ Below w.heap.size w w' := by
  have hbk := hkk.lt
  have hz43 := zero43
  have hz41 := zero41
  go_enter Try.func47, Try.ntmps47
  go_wp2
  clear hz43 hz41
  obtain ⟨hA, hB, hC, hbel, hsz⟩ := three_alloc w (.cells (st.map (Value.int .u32)).toArray 75) (.cells (Z8.map (Value.int .u32)).toArray 75) (.cells (Z64.map (Value.int .u32)).toArray 77)
  generalize World.alloc _ _ = w0 at hA hB hC hbel hsz ⊢
  have hS : IBlk .u32 75 w0 w.heap.size st := hA
  have hR : IBlk .u32 75 w0 (w.heap.size + 1) Z8 := hB
  have hW : IBlk .u32 77 w0 (w.heap.size + 1 + 1) (load by_ 0) := hC
  clear hA hB hC
  go_loopw [8] (fun c wr => ∃ i : Nat, i ≤ 16 ∧ c = .int .i64 i ∧ IBlk .u32 77 wr (w.heap.size + 1 + 1) (load by_ i) ∧ Keep (fun k => k ≠ w.heap.size + 1 + 1) w0 wr)
    (fun c _ => 16 - (intOf c).toNat)
  case atStart => exact ⟨0, by omega, rfl, hW, Keep.refl _ _⟩
  case round =>
    clear hW
    obtain ⟨i, hi, rfl, hWr, hKr⟩ := hrel
    have hlw := load_length by_ i
    by_cases h16 : i < 16
    · have hrow : Row .u8 wr bb ob by_ := (hby.below hbel hbb).keep hKr (by omega)
      have c0 := hWr.cell i (by omega)
      have f0 := hWr.free i
      have a0 := hrow.at (4 * i) (by omega)
      have a1 := hrow.at' (4 * i + 1) (ob + (4 * i + 1)) (by omega) (by omega)
      have a2 := hrow.at' (4 * i + 2) (ob + (4 * i + 2)) (by omega) (by omega)
      have a3 := hrow.at' (4 * i + 3) (ob + (4 * i + 3)) (by omega) (by omega)
      have b0 : 4 * (i : Int) < n := by omega
      have b1 : 4 * (i : Int) + 1 < n := by omega
      have b2 : 4 * (i : Int) + 2 < n := by omega
      have b3 : 4 * (i : Int) + 3 < n := by omega
      go_wp2_with fail
      go_region
      go_wp2
      go_roundw
      case rel => exact ⟨i + 1, by omega, by go_num, hWr.set _ _, (hKr.setCell (fun h => h rfl) _).drewN 1⟩
      case measure => simp [intOf]; omega
    · have e16 : i = 16 := by omega
      rw [e16] at hWr
      clear e16 hlw
      have hi16 : decide ((i : Int) < 16) = false := decide_eq_false (by omega)
      go_wp2
      go_loopw [9] (fun c wr => ∃ i : Nat, i ≤ 48 ∧ c = .int .i64 (16 + (i : Int)) ∧ IBlk .u32 77 wr (w.heap.size + 1 + 1) (sched (load by_ 16) i) ∧ Keep (fun k => k ≠ w.heap.size + 1 + 1) w0 wr)
        (fun c _ => 64 - (intOf c).toNat)
      case atStart => exact ⟨0, by omega, rfl, hWr, hKr⟩
      case round =>
        clear hWr hKr
        obtain ⟨i, hi2, rfl, hWr, hKr⟩ := hrel
        have hlw : (sched (load by_ 16) i).length = 64 := (sched_length (load by_ 16) i).trans (load_length by_ 16)
        by_cases h48 : i < 48
        · have c0 := hWr.cell (16 + i) (by omega)
          have c1 := hWr.cell' (16 + i - 15) (i + 1) (by omega) (by omega)
          have c2 := hWr.cell' (16 + i - 2) (i + 14) (by omega) (by omega)
          have c3 := hWr.cell i (by omega)
          have c4 := hWr.cell' (16 + i - 7) (i + 9) (by omega) (by omega)
          have f0 := hWr.free (16 + i)
          go_wp2_with fail
          refine wp_region_still_tail 29 (by kernel_rfl) (by kernel_rfl) ?_
          simp only [List.take_succ_cons, List.take_zero, List.drop_succ_cons, List.drop_zero]
          rw [show ({ heap := wr.heap, tape := wr.tape, drawn := wr.drawn + 1, os := wr.os, output := wr.output } : World) = wr.drew from rfl]
          have g0 : (i : Int) < 64 := by omega
          have g9 : (i : Int) + 9 < 64 := by omega
          have g1 : (16 + (i : Int)) < 64 := by omega
          have g16 : 0 ≤ (16 + (i : Int)) := by omega
          have gt : (16 + (i : Int)).toNat = 16 + i := by omega
          have e1 : IntKind.i64.wrap (16 + (i : Int) - 16) = (i : Int) := (IntWalk.i64_in _ (by omega)).trans (by omega)
          have e2 : IntKind.i64.wrap (16 + (i : Int) - 7) = (i : Int) + 9 := (IntWalk.i64_in _ (by omega)).trans (by omega)
          have p9 : 0 ≤ (i : Int) + 9 := by omega
          have t9 : ((i : Int) + 9).toNat = i + 9 := by omega
          have c9 := hWr.cell (i + 9) (by omega)
          repeat (first | still_step | still_call (r_same _ _ _ (by decide) (by decide)))
          clear e1 e2 gt
          refine wpStill_nil ?_
          go_wp2
          go_roundw
          case rel => exact ⟨i + 1, by omega, by go_num, hWr.set _ _, (hKr.setCell (fun h => h rfl) _).drewN 1⟩
          case measure => simp [intOf]; omega
        · have e48 : i = 48 := by omega
          rw [e48] at hWr hlw
          clear e48
          have hd48 : decide (16 + (i : Int) < 64) = false := decide_eq_false (by omega)
          have hSr := hS.keep hKr (by omega)
          have hRr := hR.keep hKr (by omega)
          have hkr : IBlk .u32 T' wr bk kk := (hkk.below hbel hbk).keep hKr (by omega)
          have hbelr : Below w.heap.size w wr := hbel.trans (hKr.mono (fun k (hk : k < w.heap.size) => by omega)).below
          have hBz : w.heap.size + 1 + 1 < wr.heap.size := hWr.lt
          have d0 := hSr.cell 0 (by omega)
          have d1 := hSr.cell 1 (by omega)
          have d2 := hSr.cell 2 (by omega)
          have d3 := hSr.cell 3 (by omega)
          have d4 := hSr.cell 4 (by omega)
          have d5 := hSr.cell 5 (by omega)
          have d6 := hSr.cell 6 (by omega)
          have d7 := hSr.cell 7 (by omega)
          go_wp2
          have hV := mk8' 75 wr st hl1
          have hK2 : Keep (fun k => k < wr.heap.size) wr _ := Keep.of_below ((Below.refl wr.heap.size wr).alloc (Nat.le_refl _) (.cells #[.int .u32 (nth st 0), .int .u32 (nth st 1), .int .u32 (nth st 2), .int .u32 (nth st 3), .int .u32 (nth st 4), .int .u32 (nth st 5), .int .u32 (nth st 6), .int .u32 (nth st 7)] 75))
          generalize World.alloc _ _ = w2 at hV hK2 ⊢
          clear d0 d1 d2 d3 d4 d5 d6 d7 hS hR hbel
          have hS2 := hSr.keep hK2 hSr.lt
          have hR2 := hRr.keep hK2 hRr.lt
          have hk2 := hkr.keep hK2 hkr.lt
          have hW2 := hWr.keep hK2 hWr.lt
          have hbel2 : Below w.heap.size w w2 := hbelr.trans (hK2.mono (fun k (hk : k < w.heap.size) => by omega)).below
          clear hSr hRr hkr hWr hbelr hK2 hKr
          generalize wr.heap.size = Bv at hV hBz ⊢
          obtain ⟨W, hWW⟩ : ∃ W, W = sched (load by_ 16) 48 := ⟨_, rfl⟩
          rw [← hWW] at hW2 hlw
          have HW := Hid2.mk hWW
          clear hWW
          go_loopw [13] (fun c wr => ∃ i : Nat, i ≤ 64 ∧ c = .int .i64 i ∧ IBlk .u32 75 wr Bv (rounds kk W st i) ∧ Keep (fun k => k ≠ Bv) w2 wr)
            (fun c _ => 64 - (intOf c).toNat)
          case atStart => exact ⟨0, by omega, rfl, hV, Keep.refl _ _⟩
          case round =>
            clear hV
            obtain ⟨r, hr, rfl, hVr, hKr⟩ := hrel
            have hlv := rounds_length kk W st r hl1
            obtain ⟨v, hvv⟩ : ∃ v, v = rounds kk W st r := ⟨_, rfl⟩
            rw [← hvv] at hVr hlv
            have Hv := Hid2.mk hvv
            clear hvv
            by_cases hr64 : r < 64
            · have hkkr := hk2.keep hKr (by omega)
              have hWr := hW2.keep hKr (by omega)
              have d0 := hVr.cell 0 (by omega)
              have d1 := hVr.cell 1 (by omega)
              have d2 := hVr.cell 2 (by omega)
              have d3 := hVr.cell 3 (by omega)
              have d4 := hVr.cell 4 (by omega)
              have d5 := hVr.cell 5 (by omega)
              have d6 := hVr.cell 6 (by omega)
              have d7 := hVr.cell 7 (by omega)
              have f0 := hVr.free
              have k0 := hkkr.cell r (by omega)
              have w0 := hWr.cell r (by omega)
              go_wp2_with fail
              go_quiet (fail)
              go_wp2_with fail
              go_quiet ((go_at_call 52; exact quiet_add_left (r_any _ _ _ (by omega) (by omega))))
              go_wp2_with fail
              go_quiet ((go_at_call 52; exact quiet_add_left (r_any _ _ _ (by omega) (by omega))))
              go_wp2
              go_roundw
              case rel =>
                refine ⟨r + 1, by omega, by go_num, ?_, oth8 (hKr.drewN _) (fun h => h rfl) _ _ _ _ _ _ _ _⟩
                rw [rounds, ← Hv.out]
                exact set8 (hVr.drewN _) hlv _ _ _ _ _ _ _ _
              case measure => simp [intOf]; omega
            · have e64 : r = 64 := by omega
              have hd64 : decide ((r : Int) < 64) = false := decide_eq_false (by omega)
              have hVf : IBlk .u32 75 wr Bv (rounds kk W st 64) := by rw [← e64, ← Hv.out]; exact hVr
              have hSr := hS2.keep hKr (by omega)
              have hRr := hR2.keep hKr (by omega)
              have hbelr : Below w.heap.size w wr := hbel2.trans (hKr.mono (fun k (hk : k < w.heap.size) => by omega)).below
              have hl8 := rounds_length kk W st 64 hl1
              have hres : compress kk by_ st = addInto st (rounds kk W st 64) 8 := by rw [HW.out]; rfl
              have Hres := Hid2.mk hres
              obtain ⟨z, hz⟩ : ∃ z, z = rounds kk W st 64 := ⟨_, rfl⟩
              rw [← hz] at hVf hl8
              have Hz := Hid2.mk hz
              clear hz hres e64 hVr hlv Hv HW hKr hS2 hR2 hbel2 hW2 hk2 hlw
              go_wp2
              obtain ⟨w3, hw3⟩ : ∃ w3, w3 = wr := ⟨_, rfl⟩
              rw [← hw3] at hVf hSr hRr hbelr ⊢
              clear hw3
              go_loopw [18] (fun c wr => ∃ i : Nat, i ≤ 8 ∧ c = .int .i64 i ∧ IBlk .u32 75 wr w.heap.size (addInto st z i) ∧ Keep (fun k => k ≠ w.heap.size) w3 wr)
                (fun c _ => 8 - (intOf c).toNat)
              case atStart => exact ⟨0, by omega, rfl, hSr, Keep.refl _ _⟩
              case round =>
                clear hSr
                obtain ⟨q, hq, rfl, hSr, hKr⟩ := hrel
                have hls : (addInto st z q).length = 8 := (addInto_length st z q).trans hl1
                by_cases h8 : q < 8
                · have hVr := hVf.keep hKr (by omega)
                  have s0 := hSr.cell q (by omega)
                  have v0 := hVr.cell q (by omega)
                  have f0 := hSr.free q
                  go_wp2_with fail
                  go_region
                  go_wp2
                  go_roundw
                  case rel => exact ⟨q + 1, by omega, by go_num, hSr.set _ _, (hKr.setCell (fun h => h rfl) _).drewN 1⟩
                  case measure => simp [intOf]; omega
                · have e8 : q = 8 := by omega
                  have hd8 : decide ((q : Int) < 8) = false := decide_eq_false (by omega)
                  obtain ⟨hh, hhe⟩ : ∃ hh, hh = compress kk by_ st := ⟨_, rfl⟩
                  have hSf : IBlk .u32 75 wr w.heap.size hh := by rw [hhe, Hres.out, ← Hz.out, ← e8]; exact hSr
                  have hhl : hh.length = 8 := by rw [hhe, compress_length, hl1]
                  have Hhe := Hid2.mk hhe
                  have hRr2 := hRr.keep hKr (by omega)
                  have hbelf : Below w.heap.size w wr := hbelr.trans (hKr.mono (fun k (hk : k < w.heap.size) => by omega)).below
                  clear hhe e8 hSr hVf Hres Hz hls hRr hbelr hKr
                  have d0 := hSf.cell 0 (by omega)
                  have d1 := hSf.cell 1 (by omega)
                  have d2 := hSf.cell 2 (by omega)
                  have d3 := hSf.cell 3 (by omega)
                  have d4 := hSf.cell 4 (by omega)
                  have d5 := hSf.cell 5 (by omega)
                  have d6 := hSf.cell 6 (by omega)
                  have d7 := hSf.cell 7 (by omega)
                  have hg1 : wr.heap[w.heap.size + 1]? = some (.cells (Z8.map (Value.int .u32)).toArray 75 (0, 0)) := hRr2
                  have eq8 : (#[.int .u32 (nth hh 0), .int .u32 (nth hh 1), .int .u32 (nth hh 2), .int .u32 (nth hh 3), .int .u32 (nth hh 4), .int .u32 (nth hh 5), .int .u32 (nth hh 6), .int .u32 (nth hh 7)] : Array Value) = (hh.map (Value.int .u32)).toArray := by
                    conv => rhs; rw [eight hh hhl]
                    rfl
                  have hone : (#[.int .u32 (nth hh 0), .int .u32 (nth hh 1), .int .u32 (nth hh 2), .int .u32 (nth hh 3), .int .u32 (nth hh 4), .int .u32 (nth hh 5), .int .u32 (nth hh 6), .int .u32 (nth hh 7)] : Array Value).all (·.oneCell') = true := by rw [eq8]; simp [Value.oneCell']
                  have Hone := Hid2.mk hone
                  clear hone
                  have Eq8 := Hid2.mk eq8
                  have Hg1 := Hid2.mk hg1
                  clear eq8 hg1
                  go_wp2_with (refine wpList_store_row rfl 75 (.tmp 6) (.tmp 195) rfl (w.heap.size + 1) (#[.int .u32 (nth hh 0), .int .u32 (nth hh 1), .int .u32 (nth hh 2), .int .u32 (nth hh 3), .int .u32 (nth hh 4), .int .u32 (nth hh 5), .int .u32 (nth hh 6), .int .u32 (nth hh 7)]) rfl rfl 75 (Z8.map (Value.int .u32)).toArray Hg1.out (by kernel_rfl) rfl Hone.out ?_)
                  refine bodyPost_ret (results_cell_row rfl _ _ (w.heap.size + 1) 75 _ (0, 0) _ rfl (setRow_heap _ _ _ _ _ _ Hg1.out) Try.underlying75 rfl (by kernel_rfl)) rfl ⟨by rw [Eq8.out, Hhe.out], ?_⟩
                  exact below_setRow hbelf (by omega) _

end Dig
end Go.Proofs.Ytnboloilljlfiaa

/- digest's reference: Sum. -/
namespace Go.Proofs.Ytnboloilljlfiaa
open Go.RowKit
namespace Dig

theorem elemBytes : Elem Try.prog 28 5 1 := Elem.mk' (k := .u8) (x := 0) Try.underlying28 (by kernel_rfl)

/-- n noughts behind a list. -/
def zs (n : Nat) : List Int := List.replicate n 0
/-- The length in digits, its i first bytes. -/
def lenB (n : Nat) : Nat → List Int
  | 0 => []
  | i + 1 => lenB n i ++ [(n : Int) * 8 / 2 ^ (8 * (7 - i)) % 256]
theorem lenB_length (n i : Nat) : (lenB n i).length = i := by
  induction i with
  | zero => rfl
  | succ i ih => simp [lenB, ih]

def Z32 : List Int := List.replicate 32 0
theorem zero25 (w : World) : (zeroValue 45).run Try.prog w = .ok (.agg (Z32.map (Value.int .u8)).toArray) w := by kernel_rfl

/-- How many noughts are laid behind n bytes and the mark. -/
def padN (n : Nat) : Nat := (119 - n % 64) % 64
theorem padN_stop (n z : Nat) (hz : z ≤ padN n) : ((n + 1 + z) % 64 = 56) ↔ z = padN n := by unfold padN at *; omega
/-- The padded message. -/
def padded (l : List Int) : List Int := l ++ [128] ++ zs (padN l.length) ++ lenB l.length 8
/-- The words as bytes, n bytes laid. -/
def outR (st : List Int) : Nat → List Int
  | 0 => Z32
  | i + 1 => (outR st i).set i (nth st (i / 4) / 2 ^ (24 - 8 * (i % 4)) % 256)
theorem outR_length (st : List Int) (i : Nat) : (outR st i).length = 32 := by
  induction i with
  | zero => rfl
  | succ i ih => simp [outR, ih]
/-- The digest, as the reference reckons it. -/
def refL (l : List Int) : List Int := outR (absorb (padded l) H0 ((padded l).length / 64)) 32

theorem buf_open {k : IntKind} {e : TypeId} {w : World} {base n c : Nat} {sp : Option Addr} {l : List Int} (h : Buf k e w base (.slice sp n c) l) (h0 : 0 < l.length) :
    ∃ g, sp = some ⟨g, 0, none⟩ ∧ n = l.length ∧ base ≤ g ∧ g < w.heap.size ∧ l.length ≤ c ∧ c ≤ 9223372036854775807 ∧ Row k w g 0 l := by
  rcases h.block with ⟨e1, e2⟩ | ⟨g, cap, rest, e1, hg, h1, h2, hb, -⟩
  · rw [e2] at h0; simp at h0
  · injection e1 with e1 e2 e3
    subst e1 e2 e3
    exact ⟨g, rfl, rfl, hg, hb.lt, h1, by unfold maxLen at h2; exact h2, h.row⟩
theorem keep_setRow {K : Nat → Prop} {a w : World} (h : Keep K a w) {g : Nat} (hg : ¬ K g) (cs : Array Value) : Keep K a (w.setRow g cs) :=
  h.trans ⟨rfl, rfl, rfl, by simp, fun k hk => setRow_other w g k cs (fun e => hg (e ▸ hk))⟩
theorem one_alloc {w w1 : World} {A : Obj} (hb : Below (w.alloc A).heap.size (w.alloc A) w1) :
    w1.heap[w.heap.size]? = some A ∧ Below w.heap.size w w1 ∧ w.heap.size + 1 ≤ w1.heap.size := by
  have hs : (w.alloc A).heap.size = w.heap.size + 1 := by simp
  refine ⟨?_, ?_, ?_⟩
  · rw [hb.block _ (by rw [hs]; omega), heap_alloc_new]
  · exact ((Below.refl _ _).alloc (Nat.le_refl _) _).trans (hb.mono (by rw [hs]; omega))
  · rw [← hs]; exact hb.size

theorem block_any8 (bb ob n cap bk : Nat) (st by_ kk : List Int) (T' : TypeId) (w : World) (hn : 64 ≤ n) (hn2 : n ≤ 9223372036854775807)
    (hbb : bb < w.heap.size) (hby : Row .u8 w bb ob by_) (hkk : IBlk .u32 T' w bk kk) (hl1 : st.length = 8) (hl2 : 64 ≤ by_.length) (hl3 : kk.length = 64) :
    Calls Try.prog 47 #[.agg #[.int .u32 (nth st 0), .int .u32 (nth st 1), .int .u32 (nth st 2), .int .u32 (nth st 3), .int .u32 (nth st 4), .int .u32 (nth st 5), .int .u32 (nth st 6), .int .u32 (nth st 7)], .slice (some ⟨bb, ob, none⟩) n cap, .pointer (some ⟨bk, 0, none⟩)] w
      fun e w' => e = .returned (.agg ((compress kk by_ st).map (Value.int .u32)).toArray) ∧ Below w.heap.size w w' := by
  have e : (#[.int .u32 (nth st 0), .int .u32 (nth st 1), .int .u32 (nth st 2), .int .u32 (nth st 3), .int .u32 (nth st 4), .int .u32 (nth st 5), .int .u32 (nth st 6), .int .u32 (nth st 7)] : Array Value) = (st.map (Value.int .u32)).toArray := by
    conv => rhs; rw [eight st hl1]
    rfl
  rw [e]
  exact block_any bb ob n cap bk st by_ kk T' w hn hn2 hbb hby hkk hl1 hl2 hl3

set_option maxRecDepth 100000 in
set_option maxHeartbeats 2000000 in
theorem refSum_any (v : Value) (l : List Int) (w : World) (hv : Sl .u8 w v l) (hn : l.length ≤ 35184372088832) :
    Calls Try.prog 37 #[v] w fun e w' => e = .returned (.agg ((refL l).map (Value.int .u8)).toArray) ∧ Below w.heap.size w w' := by
  have hv2 := hv
  obtain ⟨sp, cap, rfl, -, -, -, -⟩ := hv2
  have hz25 := zero25
  have hE0 : Buf .u8 5 ((w.alloc (.cells (Z32.map (Value.int .u8)).toArray 45)).alloc (.cells #[] 5)) (w.heap.size + 1) (.slice (some ⟨w.heap.size + 1, 0, none⟩) 0 0) [] := by
    have := Buf.empty (k := .u8) (e := 5) (w := w.alloc (.cells (Z32.map (Value.int .u8)).toArray 45)) (base := w.heap.size + 1) (by simp)
    simpa using this
  have hBe : Below w.heap.size w ((w.alloc (.cells (Z32.map (Value.int .u8)).toArray 45)).alloc (.cells #[] 5)) := ((Below.refl _ w).alloc (Nat.le_refl _) _).alloc (by simp) _
  have hSe := hv.of_below hBe
  have hHe : IBlk .u8 45 ((w.alloc (.cells (Z32.map (Value.int .u8)).toArray 45)).alloc (.cells #[] 5)) w.heap.size Z32 := IBlk.alloc (VBlk.mk w _ _) _
  have hze : ((w.alloc (.cells (Z32.map (Value.int .u8)).toArray 45)).alloc (.cells #[] 5)).heap.size = w.heap.size + 2 := by simp
  obtain ⟨W0, hW0⟩ : ∃ W0, W0 = ((w.alloc (.cells (Z32.map (Value.int .u8)).toArray 45)).alloc (.cells #[] 5)) := ⟨_, rfl⟩
  have hE1 := hE0
  rw [← hW0] at hHe hBe hze hE0 hSe
  have HE1 := Hid2.mk hE1
  have HW0 := Hid2.mk hW0
  clear hE1 hW0
  go_enter Try.func37, Try.ntmps37
  go_wp2_with (refine wpList_app rfl (.tmp 11) (.tmp 12) 28 rfl elemBytes (w.heap.size + 1) _ [] rfl HE1.out _ l rfl (by rw [← HW0.out]; exact hSe) l.length ?h1 ?h2 ?h3 ?h4 ?h5)
  case h1 => simp
  case h2 => unfold maxLen; omega
  case h3 => omega
  case h4 => simp
  case h5 =>
    intro sp1 c1 w1 hb1 hk1
    try rw [List.nil_append] at hb1
    rw [← HW0.out] at hk1
    have hs1 := hk1.size
    go_wp2_with (refine wpList_app rfl (.tmp 13) (.tmp 14) 28 rfl elemBytes (w.heap.size + 1) _ l rfl (hb1.alloc _) _ [128] rfl (Sl.one .u8 w1 128 5) (l.length + 1) ?h1 ?h2 ?h3 ?h4 ?h5)
    case h1 => simp
    case h2 => unfold maxLen; omega
    case h3 => omega
    case h4 => simp; omega
    case h5 =>
      intro sp2 c2 w2 hb2 hk2
      have hk02 : Keep (fun k => k < w.heap.size + 1) W0 w2 := (hk1.trans ((Keep.refl _ w1).alloc (fun k (hk : k < w.heap.size + 1) => by omega) _)).trans hk2
      have hbz : 0 ≤ padN l.length := Nat.zero_le _
      have hpz : padN l.length ≤ 63 := by unfold padN; omega
      clear hb1 hk1 hk2 hs1
      have hb20 : Buf .u8 5 w2 (w.heap.size + 1) (.slice sp2 (l.length + 1) c2) (l ++ [128] ++ zs 0) := by simpa [zs] using hb2
      clear hb2
      obtain ⟨M0, hM0⟩ : ∃ M0 : List Int, M0 = l ++ [128] := ⟨_, rfl⟩
      have hM0l : M0.length = l.length + 1 := by rw [hM0]; simp
      rw [← hM0] at hb20
      have HM0 := Hid2.mk hM0
      have HM0l := Hid2.mk hM0l
      clear hM0 hM0l
      go_wp2_with fail
      go_loopw [3] (fun v wr => ∃ z n sp c, z ≤ padN l.length ∧ n = l.length + 1 + z ∧ v = .slice sp n c ∧ Buf .u8 5 wr (w.heap.size + 1) (.slice sp n c) (M0 ++ zs z) ∧ Keep (fun k => k < w.heap.size + 1) W0 wr)
        (fun v _ => l.length + 65 - lenOf v)
      case atStart => exact ⟨0, _, _, _, by omega, rfl, rfl, hb20, hk02⟩
      case round =>
        clear hb20 hk02
        obtain ⟨z, n, sp3, c3, hz, hn1, rfl, hbr, hkr⟩ := hrel
        have Hn1 := Hid2.mk hn1
        have hnb : n ≤ l.length + 64 := by omega
        have hsr := hkr.size
        by_cases hzp : z = padN l.length
        · have ht : (((n : Int) % 64) != 56) = false := by
            have := (padN_stop l.length z hz).2 hzp
            rw [← hn1] at this
            rw [bne_eq_false_iff_eq]; omega
          have hn2 : n = l.length + 1 + padN l.length := by rw [hn1, hzp]
          have hbr2 : Buf .u8 5 wr (w.heap.size + 1) (.slice sp3 n c3) (M0 ++ zs (padN l.length) ++ lenB l.length 0) := by
            rw [← hzp]; simpa [lenB] using hbr
          have Hn2 := Hid2.mk hn2
          have hMl : (M0 ++ zs (padN l.length)).length = n := by rw [List.length_append, HM0l.out, hn2]; simp [zs]
          clear hn1 hzp Hn1 hbr hn2
          obtain ⟨M1, hM1⟩ : ∃ M1 : List Int, M1 = M0 ++ zs (padN l.length) := ⟨_, rfl⟩
          rw [← hM1] at hbr2 hMl
          have HM1 := Hid2.mk hM1
          have HM1l := Hid2.mk hMl
          clear hM1 hMl
          go_wp2_with fail
          go_loopw [3, 5] (fun v i wr => ∃ j nn sp c, j ≤ 8 ∧ nn = n + j ∧ i = .int .i64 (7 - (j : Int)) ∧ v = .slice sp nn c ∧ Buf .u8 5 wr (w.heap.size + 1) (.slice sp nn c) (M1 ++ lenB l.length j) ∧ Keep (fun k => k < w.heap.size + 1) W0 wr)
            (fun _ i _ => (intOf i + 1).toNat)
          case atStart => exact ⟨0, n, sp3, c3, by omega, rfl, rfl, rfl, hbr2, hkr⟩
          case round =>
            clear hbr2 hkr hsr
            obtain ⟨j, nn, sp4, c4, hj, hnn, rfl, rfl, hbr, hkr⟩ := hrel
            have Hnn := Hid2.mk hnn
            have hnb2 : nn ≤ l.length + 72 := by omega
            have hsr := hkr.size
            by_cases hj8 : j < 8
            · clear hnn
              go_wp2_with (refine wpList_app rfl (.tmp 31) (.tmp 38) 28 rfl elemBytes (w.heap.size + 1) _ (M1 ++ lenB l.length j) rfl (hbr.alloc _) _ [(l.length : Int) * 8 / 2 ^ (8 * (7 - j)) % 256] rfl (Sl.one .u8 wr _ 5) (nn + 1) ?g1 ?g2 ?g3 ?g4 ?g5)
              case g1 => rw [List.length_append, HM1l.out, lenB_length, Hnn.out]; rfl
              case g2 => unfold maxLen; omega
              case g3 => omega
              case g4 => simp; omega
              case g5 =>
                intro sp5 c5 w5 hb5 hk5
                have hb6 : Buf .u8 5 w5 (w.heap.size + 1) (.slice sp5 (nn + 1) c5) (M1 ++ lenB l.length (j + 1)) := by
                  rw [lenB]; first | exact hb5 | (rw [← List.append_assoc]; exact hb5)
                have hk6 : Keep (fun k => k < w.heap.size + 1) W0 w5 := (hkr.trans ((Keep.refl _ wr).alloc (fun k (hk : k < w.heap.size + 1) => by omega) _)).trans hk5
                clear hb5 hk5 hbr hkr hsr
                go_wp2_with fail
                go_roundw
                case rel => exact ⟨j + 1, nn + 1, sp5, c5, by omega, by rw [Hnn.out]; rfl, by go_num, rfl, hb6, hk6⟩
                case measure => simp [intOf]; omega
            · have e8 : j = 8 := by omega
              have hdj : decide ((j : Int) ≤ 7) = false := decide_eq_false (by omega)
              rw [e8] at hbr
              clear hnn
              have hnn8 : nn = n + 8 := by rw [Hnn.out, e8]
              obtain ⟨M, hM⟩ : ∃ M : List Int, M = M1 ++ lenB l.length 8 := ⟨_, rfl⟩
              rw [← hM] at hbr
              have hpad : M = padded l := by rw [hM, HM1.out, HM0.out]; rfl
              have hMl : M.length = nn := by rw [hM, List.length_append, HM1l.out, lenB_length, hnn8]
              have hN64 : nn = 64 * (nn / 64) := by
                have := (padN_stop l.length (padN l.length) (Nat.le_refl _)).2 rfl
                have := Hn2.out
                omega
              obtain ⟨q, hq⟩ : ∃ q, q = nn / 64 := ⟨_, rfl⟩
              rw [← hq] at hN64
              rw [← hMl] at hbr
              obtain ⟨g, rfl, -, hgB, hgl, hc4, hc4', hrowM⟩ := buf_open hbr (by omega)
              have hHr := hHe.keep hkr (by omega)
              have hbelr : Below w.heap.size w wr := hBe.trans (hkr.mono (fun k (hk : k < w.heap.size) => by omega)).below
              have Hpad := Hid2.mk hpad
              have HMl := Hid2.mk hMl
              have HN64 := Hid2.mk hN64
              have Hq := Hid2.mk hq
              clear hM hMl hpad hN64 hq hnn8 e8 hbr hkr hsr HM0 HM1 hHe hBe hSe hE0 HE1 hv
              go_wp2_with fail
              refine (k_any _).mono ?_
              rintro e w6 ⟨rfl, hk6⟩
              obtain ⟨hSb, hb6, hz6⟩ := one_alloc hk6
              clear hk6
              have hz43 := zero43
              go_wp2_with (refine wpList_store_row rfl 77 (.tmp 7) (.tmp 41) rfl w6.heap.size (K.map (Value.int .u32)).toArray rfl rfl 77 _ (heap_alloc_new _ _) (by kernel_rfl) (by kernel_rfl) (by kernel_rfl) ?_)
              have hKb : IBlk .u32 77 _ w6.heap.size K := setRow_heap _ w6.heap.size _ (K.map (Value.int .u32)).toArray 77 (0, 0) (heap_alloc_new w6 (.cells (Z64.map (Value.int .u32)).toArray 77))
              have hkeep : Below w6.heap.size w6 ((w6.alloc (.cells (Z64.map (Value.int .u32)).toArray 77)).setRow w6.heap.size (K.map (Value.int .u32)).toArray) :=
                below_setRow ((Below.refl _ _).alloc (Nat.le_refl _) _) (Nat.le_refl _) _
              generalize World.setRow _ _ _ = w7 at hKb hkeep ⊢
              have hS7 : IBlk .u32 75 w7 wr.heap.size H0 := (hkeep.block wr.heap.size (by omega)).trans hSb
              have hM7 : Row .u8 w7 g 0 M := (hrowM.below hb6 hgl).below hkeep (by omega)
              have hH7 : IBlk .u8 45 w7 w.heap.size Z32 := (hHr.below hb6 hHr.lt).below hkeep (by have := hHr.lt; omega)
              have hbel7 : Below w.heap.size w w7 := hbelr.trans ((hb6.mono hbelr.size).trans (hkeep.mono (by have := hbelr.size; omega)))
              have hg7 : g < w7.heap.size := by have := hkeep.size; omega
              have hBSg : g < wr.heap.size := hgl
              have hBKl : wr.heap.size < w6.heap.size := by omega
              have hBKz : w6.heap.size < w7.heap.size := hKb.lt
              have hBw : w.heap.size < g := by omega
              clear hSb hkeep hrowM hHr hbelr hb6 hz6 hz43 hz25 hgl
              generalize w6.heap.size = BK at hKb hBKl hBKz ⊢
              generalize wr.heap.size = BS at hS7 hBSg hBKl ⊢
              have Hn := HMl.out
              have hq1 : nn ≤ 64 * q := by have := HN64.out; omega
              have hq2 : 64 * q ≤ nn := by have := HN64.out; omega
              rw [Hn] at hc4
              clear Hn
              go_loopw [8] (fun c wr => ∃ i : Nat, i ≤ q ∧ c = .int .i64 (64 * (i : Int)) ∧ IBlk .u32 75 wr BS (absorb M H0 i) ∧ Keep (fun k => k < w7.heap.size ∧ k ≠ BS) w7 wr) (fun c _ => 64 * q - (intOf c).toNat)
              case atStart => exact ⟨0, by omega, rfl, hS7, Keep.refl _ _⟩
              case round =>
                clear hS7
                obtain ⟨i, hi, rfl, hSr, hKr⟩ := hrel
                have hsl : (absorb M H0 i).length = 8 := absorb_length M H0 i
                have hMr := hM7.keep hKr ⟨hg7, by omega⟩
                have hKbr := hKb.keep hKr ⟨hBKz, by omega⟩
                by_cases hiq : i < q
                · have hrow := row_drop hMr (64 * i)
                  rw [Nat.zero_add] at hrow
                  have hdl : 64 ≤ (M.drop (64 * i)).length := by rw [List.length_drop, HMl.out]; omega
                  have b0 : 0 ≤ 64 * (i : Int) := by omega
                  have b1 : 64 * (i : Int) + 64 ≤ c4 := by omega
                  have hil : (64 * (i : Int)) < (nn : Int) := by omega
                  have d0 := hSr.cell 0 (by omega)
                  have d1 := hSr.cell 1 (by omega)
                  have d2 := hSr.cell 2 (by omega)
                  have d3 := hSr.cell 3 (by omega)
                  have d4 := hSr.cell 4 (by omega)
                  have d5 := hSr.cell 5 (by omega)
                  have d6 := hSr.cell 6 (by omega)
                  have d7 := hSr.cell 7 (by omega)
                  go_wp2_with fail
                  refine wp_region_still_tail 6 (by kernel_rfl) (by kernel_rfl) ?_
                  simp only [List.take_succ_cons, List.take_zero, List.drop_succ_cons, List.drop_zero]
                  rw [show ({ heap := wr.heap, tape := wr.tape, drawn := wr.drawn + 1, os := wr.os, output := wr.output } : World) = wr.drew from rfl]
                  have g1 : 64 * (i : Int) ≤ 64 * (i : Int) + 64 := by omega
                  have g2 : 0 ≤ 64 * (i : Int) + 64 := by omega
                  have t1 : (64 * (i : Int)).toNat = 64 * i := by omega
                  have t2 : (64 * (i : Int) + 64).toNat = 64 * i + 64 := by omega
                  have t3 : ¬ c4 = 64 * i := by omega
                  have e1 : IntKind.i64.wrap (64 * (i : Int) + 64) = 64 * (i : Int) + 64 := IntWalk.i64_in _ (by omega)
                  repeat still_step
                  clear e1 t1 t2 t3
                  try refine wpStill_nil ?_
                  have hMd : Row .u8 wr.drew g (64 * i) (M.drop (64 * i)) := hrow
                  have hKd : IBlk .u32 77 wr.drew BK K := hKbr
                  have hgd : g < wr.drew.heap.size := by have := hKr.size; show g < wr.heap.size; omega
                  go_wp2_with fail
                  refine (block_any8 g (64 * i) 64 (c4 - 64 * i) BK (absorb M H0 i) (M.drop (64 * i)) K 77 _ (Nat.le_refl _) (by omega) hgd hMd hKd hsl hdl rfl).mono ?_
                  rintro e w' ⟨rfl, hb'⟩
                  have hBSw : BS < wr.heap.size := hSr.lt
                  have hS' : IBlk .u32 75 w' BS (absorb M H0 i) := hSr.of_block (hb'.block BS hBSw)
                  have hgS : w'.heap[BS]? = some (.cells ((absorb M H0 i).map (Value.int .u32)).toArray 75 (0, 0)) := hS'
                  have hsz8 : (Try.prog.info? 75).map (·.size) = some ((compress K (M.drop (64 * i)) (absorb M H0 i)).map (Value.int .u32)).toArray.size := by
                    rw [List.size_toArray, List.length_map, compress_length, hsl]; kernel_rfl
                  have hsz9 : ((absorb M H0 i).map (Value.int .u32)).toArray.size = ((compress K (M.drop (64 * i)) (absorb M H0 i)).map (Value.int .u32)).toArray.size := by
                    rw [List.size_toArray, List.length_map, List.size_toArray, List.length_map, compress_length]
                  have hone : ((compress K (M.drop (64 * i)) (absorb M H0 i)).map (Value.int .u32)).toArray.all (·.oneCell') = true := by simp [Value.oneCell']
                  have HgS := Hid2.mk hgS
                  have Hsz8 := Hid2.mk hsz8
                  have Hsz9 := Hid2.mk hsz9
                  have Hone := Hid2.mk hone
                  have hKp : Keep (fun k => k < w7.heap.size ∧ k ≠ BS) w7 w' := hKr.trans (((Keep.refl _ wr).drewN 1).trans ((Keep.of_below hb').mono (fun k hk => by have := hKr.size; show k < wr.heap.size; omega)))
                  clear hgS hsz8 hsz9 hone hMd hKd hgd d0 d1 d2 d3 d4 d5 d6 d7 hb' hrow hMr hKbr hKr hSr
                  go_wp2_with (refine wpList_store_row rfl 75 (.tmp 6) (.tmp 54) rfl BS _ rfl rfl 75 _ HgS.out Hsz8.out Hsz9.out Hone.out ?_)
                  have hS2 : IBlk .u32 75 (w'.setRow BS ((compress K (M.drop (64 * i)) (absorb M H0 i)).map (Value.int .u32)).toArray) BS (absorb M H0 (i + 1)) := setRow_heap _ _ _ _ _ _ HgS.out
                  have hKp2 : Keep (fun k => k < w7.heap.size ∧ k ≠ BS) w7 (w'.setRow BS ((compress K (M.drop (64 * i)) (absorb M H0 i)).map (Value.int .u32)).toArray) := keep_setRow hKp (fun h => h.2 rfl) _
                  clear hKp HgS Hsz8 Hsz9 Hone hS'
                  go_wp2_with fail
                  go_roundw
                  case rel => exact ⟨i + 1, by omega, by go_num, hS2, hKp2⟩
                  case measure => simp [intOf]; omega
                · have eiq : i = q := by omega
                  have hil : decide ((64 * (i : Int)) < (nn : Int)) = false := decide_eq_false (by omega)
                  rw [eiq] at hSr
                  have hHr := hH7.keep hKr ⟨hH7.lt, by omega⟩
                  have hbelr : Below w.heap.size w wr := hbel7.trans (hKr.mono (fun k (hk : k < w.heap.size) => ⟨Nat.lt_of_lt_of_le hk hbel7.size, by omega⟩)).below
                  obtain ⟨st, hst⟩ : ∃ st, st = absorb M H0 q := ⟨_, rfl⟩
                  have hstl : st.length = 8 := by rw [hst]; exact absorb_length M H0 q
                  rw [← hst] at hSr
                  have hres : outR st 32 = refL l := by
                    have e1 : M.length / 64 = q := by rw [HMl.out, Hq.out]
                    rw [hst, ← e1, Hpad.out]; rfl
                  have Hres := Hid2.mk hres
                  clear hres hst hMr hKbr hKr hsl eiq hKb hM7 hH7 hbel7 Hpad
                  have hz25 := zero25
                  go_wp2_with fail
                  clear hz25
                  have hO := VBlk.mk wr (Z32.map (Value.int .u8)) 45
                  have hKo : Below wr.heap.size wr (wr.alloc (.cells (Z32.map (Value.int .u8)).toArray 45)) := (Below.refl _ _).alloc (Nat.le_refl _) _
                  generalize World.alloc _ _ = w8 at hO hKo ⊢
                  have hO8 : IBlk .u8 45 w8 wr.heap.size (outR st 0) := hO
                  have hS8 := hSr.below hKo hSr.lt
                  have hH8 := hHr.below hKo hHr.lt
                  have hbel8 : Below w.heap.size w w8 := hbelr.trans (hKo.mono hbelr.size)
                  have hBO : BS < wr.heap.size := hSr.lt
                  have hHO : w.heap.size < wr.heap.size := hHr.lt
                  clear hO hKo hSr hHr hbelr
                  generalize wr.heap.size = BO at hO8 hBO hHO ⊢
                  go_loopw [10] (fun c wr => ∃ i : Nat, i ≤ 32 ∧ c = .int .i64 i ∧ IBlk .u8 45 wr BO (outR st i) ∧ Keep (fun k => k ≠ BO) w8 wr) (fun c _ => 32 - (intOf c).toNat)
                  case atStart => exact ⟨0, by omega, rfl, hO8, Keep.refl _ _⟩
                  case round =>
                    clear hO8
                    obtain ⟨i, hi, rfl, hOr, hKr⟩ := hrel
                    have hol := outR_length st i
                    by_cases hi32 : i < 32
                    · have hSr := hS8.keep hKr (by omega)
                      have c0 := hSr.cell (i / 4) (by omega)
                      have c1 := hOr.cell i (by omega)
                      have f1 := hOr.free i
                      have b4 : (i : Int) / 4 < 8 := by omega
                      have b5 : (i : Int) % 4 ≤ 3 := by omega
                      have b6 : 0 ≤ (i : Int) % 4 := by omega
                      go_wp2_with fail
                      go_roundw
                      case rel => exact ⟨i + 1, by omega, by go_num, hOr.set _ _, hKr.setCell (fun h => h rfl) _⟩
                      case measure => simp [intOf]; omega
                    · have e9 : i = 32 := by omega
                      have hd32 : decide ((i : Int) < 32) = false := decide_eq_false (by omega)
                      rw [e9, Hres.out] at hOr
                      clear e9
                      obtain ⟨hh, hhe⟩ : ∃ hh, hh = refL l := ⟨_, rfl⟩
                      rw [← hhe] at hOr
                      have hhl : hh.length = 32 := by rw [hhe]; exact outR_length _ _
                      have Hhe := Hid2.mk hhe
                      have hHr := hH8.keep hKr (by omega)
                      have hbelf : Below w.heap.size w wr := hbel8.trans (hKr.mono (fun k (hk : k < w.heap.size) => by omega)).below
                      have hgO : wr.heap[BO]? = some (.cells (hh.map (Value.int .u8)).toArray 45 (0, 0)) := hOr
                      have hgH : wr.heap[w.heap.size]? = some (.cells (Z32.map (Value.int .u8)).toArray 45 (0, 0)) := hHr
                      have hi25 : (Try.prog.info? 45).map (·.size) = some (hh.map (Value.int .u8)).toArray.size := by
                        rw [List.size_toArray, List.length_map, hhl]; kernel_rfl
                      have hi26 : (Z32.map (Value.int .u8)).toArray.size = (hh.map (Value.int .u8)).toArray.size := by
                        rw [List.size_toArray, List.length_map, List.size_toArray, List.length_map, hhl]; rfl
                      have hone : (hh.map (Value.int .u8)).toArray.all (·.oneCell') = true := by simp [Value.oneCell']
                      have HgO := Hid2.mk hgO
                      have HgH := Hid2.mk hgH
                      have Hi25 := Hid2.mk hi25
                      have Hi26 := Hid2.mk hi26
                      have Hone := Hid2.mk hone
                      clear hhe hOr hHr hH8 hS8 hbel8 hKr hgO hgH hi25 hi26 hone hol hhl Hres
                      go_wp2_with (first | (refine wpList_load_row rfl 45 (.tmp 9) rfl BO rfl 45 (hh.map (Value.int .u8)).toArray (0, 0) _ HgO.out Try.underlying45 rfl Hi25.out ?_) | (refine wpList_store_row rfl 45 (.tmp 2) (.tmp 72) rfl w.heap.size (hh.map (Value.int .u8)).toArray rfl rfl 45 (Z32.map (Value.int .u8)).toArray HgH.out Hi25.out Hi26.out Hone.out ?_))
                      refine bodyPost_ret (results_cell_row rfl _ _ w.heap.size 45 (hh.map (Value.int .u8)).toArray (0, 0) _ rfl (setRow_heap _ _ _ _ _ _ HgH.out) Try.underlying45 rfl Hi25.out) rfl ⟨by rw [Hhe.out], ?_⟩
                      exact below_setRow hbelf (Nat.le_refl _) _
        · have ht : (((n : Int) % 64) != 56) = true := by
            have : ¬ n % 64 = 56 := fun h => hzp ((padN_stop l.length z hz).1 (by rw [← hn1]; exact h))
            rw [bne_iff_ne]; omega
          have hzlt : z < padN l.length := by omega
          have hMl : (M0 ++ zs z).length = n := by rw [List.length_append, HM0l.out, hn1]; simp [zs]
          have HMl := Hid2.mk hMl
          clear hMl hn1 hzp
          go_wp2_with (refine wpList_app rfl (.tmp 20) (.tmp 21) 28 rfl elemBytes (w.heap.size + 1) _ (M0 ++ zs z) rfl (hbr.alloc _) _ [0] rfl (Sl.one .u8 wr 0 5) (n + 1) ?g1 ?g2 ?g3 ?g4 ?g5)
          case g1 => rw [HMl.out]; rfl
          case g2 => unfold maxLen; omega
          case g3 => omega
          case g4 => simp; omega
          case g5 =>
            intro sp5 c5 w5 hb5 hk5
            have hb6 : Buf .u8 5 w5 (w.heap.size + 1) (.slice sp5 (n + 1) c5) (M0 ++ zs (z + 1)) := by
              have e : M0 ++ zs (z + 1) = M0 ++ (zs z ++ [0]) := by unfold zs; rw [List.replicate_succ']
              rw [e]; first | exact hb5 | (rw [← List.append_assoc]; exact hb5)
            have hk6 : Keep (fun k => k < w.heap.size + 1) W0 w5 := (hkr.trans ((Keep.refl _ wr).alloc (fun k (hk : k < w.heap.size + 1) => by omega) _)).trans hk5
            clear hb5 hk5 hbr hkr hsr
            go_wp2_with fail
            go_roundw
            case rel => exact ⟨z + 1, n + 1, sp5, c5, by omega, by rw [Hn1.out]; rfl, rfl, hb6, hk6⟩
            case measure => simp [lenOf]; omega

end Dig
end Go.Proofs.Ytnboloilljlfiaa

/- digest: what the program reckons and what the reference reckons are one. Plain lists: no walk. -/
namespace Go.Proofs.Ytnboloilljlfiaa
namespace Dig

theorem ext_nth (a b : List Int) (hl : a.length = b.length) (h : ∀ i, i < a.length → nth a i = nth b i) : a = b := by
  apply List.ext_getElem hl
  intro i h1 h2
  have := h i h1
  simpa [nth, h1, h2] using this
theorem nth_outR (st : List Int) (n i : Nat) (hi : i < n) (hn : n ≤ 32) : nth (outR st n) i = nth st (i / 4) / 2 ^ (24 - 8 * (i % 4)) % 256 := by
  induction n with
  | zero => omega
  | succ n ih =>
    rw [outR]
    by_cases h : i = n
    · subst h; exact nth_set_eq _ _ _ (by rw [outR_length]; omega)
    · rw [nth_set_ne _ _ _ _ h]; exact ih (by omega) (by omega)
theorem nth_outH (st : List Int) (n i : Nat) (hi : i < 4 * n) (hn : n ≤ 8) : nth (outH st n) i = nth st (i / 4) / 2 ^ (24 - 8 * (i % 4)) % 256 := by
  induction n with
  | zero => omega
  | succ n ih =>
    rw [outH]
    have hl := outH_length st n
    by_cases h3 : i = 4 * n + 3
    · subst h3
      rw [nth_set_eq _ _ _ (by simp [hl]; omega), show (4 * n + 3) / 4 = n from by omega, show (4 * n + 3) % 4 = 3 from by omega]
      simp
    · rw [nth_set_ne _ _ _ _ h3]
      by_cases h2 : i = 4 * n + 2
      · subst h2
        rw [nth_set_eq _ _ _ (by simp [hl]; omega), show (4 * n + 2) / 4 = n from by omega, show (4 * n + 2) % 4 = 2 from by omega]
        rfl
      · rw [nth_set_ne _ _ _ _ h2]
        by_cases h1 : i = 4 * n + 1
        · subst h1
          rw [nth_set_eq _ _ _ (by simp [hl]; omega), show (4 * n + 1) / 4 = n from by omega, show (4 * n + 1) % 4 = 1 from by omega]
          rfl
        · rw [nth_set_ne _ _ _ _ h1]
          by_cases h0 : i = 4 * n
          · subst h0
            rw [nth_set_eq _ _ _ (by simp [hl]; omega), show (4 * n) / 4 = n from by omega, show (4 * n) % 4 = 0 from by omega]
            rfl
          · rw [nth_set_ne _ _ _ _ h0]; exact ih (by omega) (by omega)
theorem outR_eq (st : List Int) : outR st 32 = outH st 8 :=
  ext_nth _ _ (by rw [outR_length, outH_length]) (fun i hi => by
    rw [outR_length] at hi
    rw [nth_outR st 32 i hi (Nat.le_refl _), nth_outH st 8 i (by omega) (Nat.le_refl _)])

theorem nth_left (a b : List Int) (i : Nat) (h : i < a.length) : nth (a ++ b) i = nth a i := by
  simp [nth, List.getElem?_append_left h]
theorem nth_right (a b : List Int) (i : Nat) (h : a.length ≤ i) : nth (a ++ b) i = nth b (i - a.length) := by
  simp [nth, List.getElem?_append_right h]
theorem nth_drop (a : List Int) (n i : Nat) : nth (a.drop n) i = nth a (n + i) := by simp [nth]
theorem nth_zs (n i : Nat) : nth (zs n) i = 0 := by
  unfold nth zs
  by_cases h : i < n
  · simp [h]
  · simp [List.getElem?_eq_none (show (List.replicate n (0 : Int)).length ≤ i by simp; omega)]

theorem load_congr (a b : List Int) (n : Nat) (hn : n ≤ 16) (h : ∀ i, i < 64 → nth a i = nth b i) : load a n = load b n := by
  induction n with
  | zero => rfl
  | succ n ih =>
    rw [load, load, ih (by omega)]
    unfold wordAt
    rw [h _ (by omega), h _ (by omega), h _ (by omega), h _ (by omega)]
theorem compress_congr (kk a b st : List Int) (h : ∀ i, i < 64 → nth a i = nth b i) : compress kk a st = compress kk b st := by
  unfold compress; rw [load_congr a b 16 (Nat.le_refl _) h]
theorem absorb_congr (a b st : List Int) (e : Nat) (h : ∀ i, i < 64 * e → nth a i = nth b i) : absorb a st e = absorb b st e := by
  induction e with
  | zero => rfl
  | succ e ih =>
    rw [absorb, absorb, ih (fun i hi => h i (by omega))]
    exact compress_congr _ _ _ _ (fun i hi => by rw [nth_drop, nth_drop]; exact h _ (by omega))
theorem absorb_add (a st : List Int) (j e : Nat) : absorb a st (j + e) = absorb (a.drop (64 * j)) (absorb a st j) e := by
  induction e with
  | zero => rfl
  | succ e ih =>
    rw [← Nat.add_assoc, absorb, absorb, ih, List.drop_drop, Nat.mul_add]

theorem nth_lenB (n i t : Nat) (h : t < i) : nth (lenB n i) t = (n : Int) * 8 / 2 ^ (8 * (7 - t)) % 256 := by
  induction i with
  | zero => omega
  | succ i ih =>
    rw [lenB]
    by_cases ht : t < i
    · rw [nth_left _ _ _ (by rw [lenB_length]; exact ht)]; exact ih ht
    · have : t = i := by omega
      subst this
      rw [nth_right _ _ _ (by rw [lenB_length]; exact Nat.le_refl _), lenB_length, Nat.sub_self]
      rfl
theorem nth_putLen (p : List Int) (E n i x : Nat) (hE : E ≤ p.length) (hi : i ≤ E) :
    nth (putLen p E n i) x = if E - i ≤ x ∧ x < E then (n : Int) * 8 / 2 ^ (8 * (E - 1 - x)) % 256 else nth p x := by
  induction i with
  | zero => rw [if_neg (by omega)]; rfl
  | succ i ih =>
    rw [putLen]
    by_cases hx : x = E - 1 - i
    · rw [if_pos (by omega), hx, nth_set_eq _ _ _ (by rw [putLen_length]; omega)]
      rw [show E - 1 - (E - 1 - i) = i from by omega]
    · rw [nth_set_ne _ _ _ _ hx, ih (by omega)]
      by_cases h1 : E - i ≤ x ∧ x < E
      · rw [if_pos h1, if_pos (by omega)]
      · rw [if_neg h1, if_neg (by omega)]

theorem zs_length (n : Nat) : (zs n).length = n := by simp [zs]
theorem padded_length (l : List Int) : (padded l).length = l.length + 1 + padN l.length + 8 := by
  unfold padded; rw [List.length_append, List.length_append, List.length_append, lenB_length, zs_length]; rfl
theorem padded_lo (l : List Int) (y : Nat) (h : y < l.length) : nth (padded l) y = nth l y := by
  unfold padded; rw [List.append_assoc, List.append_assoc, nth_left _ _ _ h]
theorem padded_at (l : List Int) (y : Nat) (h : y = l.length) : nth (padded l) y = 128 := by
  unfold padded; rw [List.append_assoc, List.append_assoc, nth_right _ _ _ (by omega), h, Nat.sub_self]; rfl
theorem padded_mid (l : List Int) (y : Nat) (h : l.length < y) (h2 : y < l.length + 1 + padN l.length) : nth (padded l) y = 0 := by
  unfold padded
  have h1 : (l ++ [128]).length = l.length + 1 := by simp
  rw [List.append_assoc (l ++ [128]), nth_right _ _ _ (by omega), nth_left _ _ _ (by rw [zs_length]; omega), nth_zs]
theorem padded_hi (l : List Int) (y t : Nat) (h : y = l.length + 1 + padN l.length + t) (ht : t < 8) : nth (padded l) y = (l.length : Int) * 8 / 2 ^ (8 * (7 - t)) % 256 := by
  unfold padded
  have h1 : (l ++ [128] ++ zs (padN l.length)).length = l.length + 1 + padN l.length := by rw [List.length_append, zs_length]; simp
  rw [nth_right _ _ _ (by omega), h1, h, Nat.add_sub_cancel_left, nth_lenB _ _ _ ht]

theorem refL_eq (l : List Int) : refL l = sumL l := by
  have hrl : (l.drop (64 * (l.length / 64))).length = l.length % 64 := by rw [List.length_drop]; omega
  have hpl := padded_length l
  have hpre : ∀ i, i ≤ l.length / 64 → absorb (padded l) H0 i = absorb l H0 i := fun i hi =>
    absorb_congr _ _ _ _ (fun x hx => padded_lo l x (by omega))
  have key : ∀ e, (padded l).length / 64 = l.length / 64 + e → e ≤ 2 → l.length % 64 + 1 + padN l.length + 8 = 64 * e →
      refL l = outH (absorb (putLen ((l.drop (64 * (l.length / 64)) ++ List.replicate (128 - l.length % 64) 0).set (l.length % 64) 128) (64 * e) l.length 8) (absorb l H0 (l.length / 64)) e) 8 := by
    intro e he he2 hlen
    unfold refL
    rw [outR_eq, he, absorb_add, hpre _ (Nat.le_refl _)]
    congr 1
    refine absorb_congr _ _ _ _ (fun x hx => ?_)
    obtain ⟨rl, hrle⟩ : ∃ rl, rl = l.drop (64 * (l.length / 64)) := ⟨_, rfl⟩
    have hrx : ∀ y, nth rl y = nth l (64 * (l.length / 64) + y) := fun y => by rw [hrle, nth_drop]
    rw [← hrle] at hrl ⊢
    have hbl : (rl ++ List.replicate (128 - l.length % 64) (0 : Int)).length = 128 := by
      rw [List.length_append, hrl, List.length_replicate]; omega
    rw [nth_drop, nth_putLen _ _ _ _ _ (by rw [List.length_set, hbl]; omega) (by omega)]
    by_cases h1 : x < l.length % 64
    · rw [if_neg (by omega), nth_set_ne _ _ _ _ (by omega), nth_left _ _ _ (by rw [hrl]; exact h1), hrx]
      exact padded_lo l _ (by omega)
    · by_cases h2 : x = l.length % 64
      · rw [if_neg (by omega), h2, nth_set_eq _ _ _ (by rw [hbl]; omega)]
        exact padded_at l _ (by omega)
      · by_cases h3 : x < 64 * e - 8
        · rw [if_neg (by omega), nth_set_ne _ _ _ _ h2, nth_right _ _ _ (by rw [hrl]; omega), padded_mid l _ (by omega) (by omega)]
          exact (nth_zs _ _).symm
        · rw [if_pos (by omega), padded_hi l _ (x - (64 * e - 8)) (by omega) (by omega), show 7 - (x - (64 * e - 8)) = 64 * e - 1 - x from by omega]
  unfold sumL
  simp only [hrl]
  by_cases h56 : 56 ≤ l.length % 64
  · rw [if_pos h56]
    exact key 2 (by unfold padN at hpl; omega) (by omega) (by unfold padN; omega)
  · rw [if_neg h56]
    exact key 1 (by unfold padN at hpl; omega) (by omega) (by unfold padN; omega)

theorem outH_range (st : List Int) : ∀ i, i < 32 → 0 ≤ nth (outH st 8) i ∧ nth (outH st 8) i ≤ 255 := by
  intro i hi
  rw [nth_outH st 8 i (by omega) (Nat.le_refl _)]
  omega
theorem sumL_range (l : List Int) : ∀ i, i < 32 → 0 ≤ nth (sumL l) i ∧ nth (sumL l) i ≤ 255 := outH_range _

end Dig
end Go.Proofs.Ytnboloilljlfiaa

/- append onto a slice of the call's own, as one step of a region that draws its order. -/
namespace Go.Proofs.Ytnboloilljlfiaa
open Go.RowKit

theorem wp_app {P : Program} {w : World} {o : Oper} {a : Act} {K : Act → World → Prop} {Q : Exit → Act → World → Prop} (s x : Operand) (t : TypeId)
    (ho : o.op = .call { callee := .builtin .append, args := #[s, x], argTypes := #[t, t] }) {e : TypeId} {k : IntKind} {bytes : Nat} (E : Elem P t e bytes)
    (base : Nat) (v : Value) (l : List Int) (hs : a.eval s = v) (hown : Buf k e w base v l) (xv : Value) (l2 : List Int) (hx : a.eval x = xv) (hsl : Sl k w xv l2)
    (n : Nat) (hn : l.length + l2.length = n) (hb1 : n ≤ maxLen) (hb2 : n * bytes ≤ 140737488355328) (hbase : base ≤ w.heap.size)
    (h : ∀ sp c w', Buf k e w' base (.slice sp n c) (l ++ l2) → Keep (fun b => b < base) w w' → K (a.put o.dst (.slice sp n c)) w') : o.wp P a w K Q := by
  subst hn
  obtain ⟨i, z, hi, hz, hz1, hz2, hz3⟩ := E.ex
  obtain ⟨sp, cap, rfl, hc1, hc2, hrow, hnil⟩ := hsl
  have go : ∀ v' w', w'.ownsRow base e 1 v' (l.length + l2.length) (l.map (Value.int k) ++ l2.map (Value.int k)) → w.grownBy w' v.ownBlock → K (a.put o.dst v') w' := by
    intro v' w' h1 h2
    have h1' : Buf k e w' base v' (l ++ l2) := by
      unfold Buf; rw [List.map_append, List.length_append]; exact h1
    have hk := keep_grown h2 (fun g hg => (hown.own g hg).1) hbase
    rcases h1'.block with ⟨e1, e2⟩ | ⟨g, c, r, e1, -⟩
    · subst e1
      have e3 : l.length + l2.length = 0 := by rw [← List.length_append, e2]; rfl
      rw [e3] at h
      exact h none 0 w' h1' hk
    · subst e1
      rw [List.length_append] at h1' ⊢
      exact h _ c w' h1' hk
  by_cases h0 : sp = none
  · subst h0
    have hc0 := hnil rfl
    subst hc0
    have hl2 : l2 = [] := List.eq_nil_of_length_eq_zero (by omega)
    subst hl2
    have hrun := run_append_owned_none (P := P) (w := w) base t o.type e i 1 E.ht hi v l.length _ hown
    have hgo := go v w (by unfold Buf at hown; simpa using hown) (World.grownBy.refl _ _)
    have hx' : a.eval x = .slice none 0 0 := hx
    unfold Oper.wp
    simp [execOp, ho, resolve, invoke, builtin, hs, hx', hrun, Result.andThen]
    exact hgo
  · obtain ⟨ad, had⟩ := Option.ne_none_iff_exists'.1 h0
    refine wp_append_own w s x t ho base e i z 1 bytes E.ht hi hz hz1 hz2 hz3 (by decide) v l.length _ hs hown ad l2.length cap (l2.map (Value.int k)) (by rw [hx, had]) (by simp) ?_ ?_ hb1 hb2 hbase (fun v' w' h1 h2 _ => go v' w' h1 h2)
    · intro j u hu
      have hj : j < l2.length := by
        rcases Nat.lt_or_ge j l2.length with h | h
        · exact h
        · simp [h] at hu
      obtain ⟨b, o, e1, hlt, hr⟩ := hrow (by omega)
      rw [e1] at had
      cases had
      rw [addr_add, hr j hj]
      simpa [nth, hj] using hu
    · intro u hu
      obtain ⟨_, _, rfl⟩ := List.mem_map.1 hu
      rfl

theorem step_app {P : Program} {ops : Array Oper} {w : World} {o : Oper} {a : Act} {K : Act → World → Prop} {Q : Exit → Act → World → Prop} {F : Prop} (hgd : o.guard = none) (s x : Operand) (t : TypeId)
    (ho : o.op = .call { callee := .builtin .append, args := #[s, x], argTypes := #[t, t] }) {e : TypeId} {k : IntKind} {bytes : Nat} (E : Elem P t e bytes)
    (base : Nat) (v : Value) (l : List Int) (hs : a.eval s = v) (hown : Buf k e w base v l) (xv : Value) (l2 : List Int) (hx : a.eval x = xv) (hsl : Sl k w xv l2)
    (n : Nat) (hn : l.length + l2.length = n) (hb1 : n ≤ maxLen) (hb2 : n * bytes ≤ 140737488355328) (hbase : base ≤ w.heap.size)
    (h : ∀ sp c w', Buf k e w' base (.slice sp n c) (l ++ l2) → Keep (fun b => b < base) w w' → K (a.put o.dst (.slice sp n c)) w') :
    if Region.wanted o (yielded ops a.tmps) = true then Oper.wp P o a w K Q else F := by
  rw [if_pos (by simp [Region.wanted, hgd])]
  exact wp_app s x t ho E base v l hs hown xv l2 hx hsl n hn hb1 hb2 hbase h

end Go.Proofs.Ytnboloilljlfiaa

/- digest.Sum and the reference's, as one; marks. -/
namespace Go.Proofs.Ytnboloilljlfiaa
open Go.RowKit
namespace Dig

theorem refSum_s (v : Value) (l : List Int) (w : World) (hv : Sl .u8 w v l) (hn : l.length ≤ 35184372088832) :
    Calls Try.prog 37 #[v] w fun e w' => e = .returned (.agg ((sumL l).map (Value.int .u8)).toArray) ∧ Below w.heap.size w w' := by
  rw [← refL_eq]; exact refSum_any v l w hv hn
theorem progSum_s (v : Value) (l : List Int) (w : World) (hv : Sl .u8 w v l) (hn : l.length ≤ 35184372088832) :
    Calls Try.prog 36 #[v] w fun e w' => e = .returned (.agg ((sumL l).map (Value.int .u8)).toArray) ∧ Below w.heap.size w w' :=
  sum_any v l w hv (by omega)
/-- A mark ahead, in a new block. -/
theorem mark_buf (W : World) (m : Int) : Buf .u8 5 (W.alloc (.cells #[.int .u8 m] 5)) W.heap.size (.slice (some ⟨W.heap.size, 0, none⟩) 1 1) [m] :=
  Buf.mk (k := .u8) (e := 5) (w := W) [m] [] (Nat.le_refl _) (by unfold maxLen; simp)
theorem blk_sl {W : World} {b : Nat} {l : List Int} (h : IBlk .u8 45 W b l) (hl : l.length = 32) : Sl .u8 W (.slice (some ⟨b, 0, none⟩) 32 32) l := by
  have := Sl.mk (k := .u8) (w := W) (b := b) (o := 0) (cap := 32) (l := l) (by omega) (by omega) h.lt h.row
  rw [hl] at this; exact this
theorem info25 (l : List Int) (hl : l.length = 32) : (Try.prog.info? 45).map (·.size) = some (l.map (Value.int .u8)).toArray.size := by
  rw [List.size_toArray, List.length_map, hl]; kernel_rfl
theorem size25 (l : List Int) (hl : l.length = 32) : (Z32.map (Value.int .u8)).toArray.size = (l.map (Value.int .u8)).toArray.size := by
  rw [List.size_toArray, List.length_map, List.size_toArray, List.length_map, hl]; rfl
theorem one25 (l : List Int) : (l.map (Value.int .u8)).toArray.all (·.oneCell') = true := by simp [Value.oneCell']
theorem sum_named (l : List Int) : ∃ hh : List Int, Hid2 (hh = sumL l) ∧ Hid2 (hh.length = 32) := ⟨sumL l, Hid2.mk rfl, Hid2.mk (sumL_length l)⟩
theorem step_store_row {P : Program} {ops : Array Oper} {o : Oper} {a : Act} {w : World} {K : Act → World → Prop} {Q : Exit → Act → World → Prop} {F : Prop} (hgd : o.guard = none) (ty : TypeId) (x y : Operand) (ho : o.op = .store ty x y)
    (g : Nat) (cells : Array Value) (hx : a.eval x = .pointer (some ⟨g, 0, none⟩)) (hy : a.eval y = .agg cells)
    (t : TypeId) (old : Array Value) (hg : w.heap[g]? = some (.cells old t (0, 0))) (hi : (P.info? ty).map (·.size) = some cells.size)
    (hold : old.size = cells.size) (h1 : cells.all (·.oneCell') = true)
    (h : K (a.put o.dst undef) (w.setRow g cells)) : if Region.wanted o (yielded ops a.tmps) = true then Oper.wp P o a w K Q else F := by
  rw [if_pos (by simp [Region.wanted, hgd])]
  exact wp_store_row ty x y ho g cells hx hy t old hg hi hold h1 h

end Dig
end Go.Proofs.Ytnboloilljlfiaa

/- Equality of arrays of integers. -/
namespace Go.Proofs.Ytnboloilljlfiaa
open Go.RowKit

theorem part_int {P : Program} (w : World) {e : TypeId} {k : IntKind} (he : P.underlying e = some (.int k)) (l : List Int) (i : Nat) (hi : i < l.length) :
    (part e (l.map (Value.int k)).toArray i).run P w = .ok (.int k (nth l i)) w := by
  have hagg : (isAgg e).run P w = .ok false w := by
    unfold isAgg; rw [Sem.run_bind, run_underlying he w]; rfl
  have hc : (l.map (Value.int k)).toArray[i]? = some (.int k (nth l i)) := by simp [nth, hi]
  simp [part, Sem.run_bind, hagg, hc]
theorem eqItems_ints {P : Program} (w : World) (d : Nat) {e : TypeId} {k : IntKind} (he : P.underlying e = some (.int k)) (xs ys : List Int) :
    ∀ is : List Nat, (∀ i ∈ is, i < xs.length ∧ i < ys.length) → (Op.eqItems (d + 1) e 1 (xs.map (Value.int k)).toArray (ys.map (Value.int k)).toArray is).run P w = .ok (is.all fun i => nth xs i == nth ys i) w
  | [], _ => by simp [Op.eqItems]
  | i :: is, h => by
    obtain ⟨h1, h2⟩ := h i (by simp)
    have ih := eqItems_ints w d he xs ys is (fun j hj => h j (by simp [hj]))
    simp only [Op.eqItems, Sem.run_bind, Nat.mul_one, part_int w he xs i h1, part_int w he ys i h2, Result.andThen_ok, run_equalIn_int w d e k k (nth xs i) (nth ys i) he, List.all_cons]
    by_cases hx : (nth xs i == nth ys i) = true
    · simp [hx, ih]
    · simp [hx]
theorem all_nth (xs ys : List Int) (n : Nat) (ha : xs.length = n) (hb : ys.length = n) : ((List.range n).all fun i => nth xs i == nth ys i) = decide (xs = ys) := by
  rw [Bool.eq_iff_iff]
  simp only [List.all_eq_true, List.mem_range, beq_iff_eq, decide_eq_true_eq]
  constructor
  · intro h
    apply List.ext_getElem (ha.trans hb.symm)
    intro i h1 h2
    have := h i (by omega)
    simpa [nth, h1, h2] using this
  · intro h i _; rw [h]
theorem run_eql_ints {P : Program} (w : World) {t e : TypeId} {k : IntKind} {n : Nat} {i : TypeInfo} (hu : P.underlying t = some (.array n e)) (he : P.underlying e = some (.int k)) (hi : P.info? e = some i) (hs : i.size = 1)
    (xs ys : List Int) (ha : xs.length = n) (hb : ys.length = n) :
    (binOp .eql t (.agg (xs.map (Value.int k)).toArray) (.agg (ys.map (Value.int k)).toArray)).run P w = .ok (.bool (decide (xs = ys))) w := by
  have hc : P.cellsOf e = 1 := by simp [Program.cellsOf, hi, hs]
  have h1 : (Op.equalIn (9999 + 1) t (.agg (xs.map (Value.int k)).toArray) (.agg (ys.map (Value.int k)).toArray)).run P w = .ok (decide (xs = ys)) w := by
    rw [run_equalIn_array w 9999 _ _ hu hi, hc, eqItems_ints w 9998 he xs ys (List.range n) (fun j hj => by simp at hj; omega), all_nth xs ys n ha hb]
  have hg : (binOp .eql t (.agg (xs.map (Value.int k)).toArray) (.agg (ys.map (Value.int k)).toArray)).run P w = ((Op.equalIn 10000 t (.agg (xs.map (Value.int k)).toArray) (.agg (ys.map (Value.int k)).toArray)).run P w).andThen fun b w' => .ok (.bool b) w' := run_eql_struct w t _ _
  rw [hg, h1]; rfl

end Go.Proofs.Ytnboloilljlfiaa

/- Digests of values (chapters 2, 7): Leaf, Hash, the program's and the document's; two digests compared. -/
namespace Go.Proofs.Ytnboloilljlfiaa
open Go.RowKit
namespace K
abbrev hashC (h : List Int) : List Value := h.map (Value.int .u8)
theorem hash_eql (a b : List Int) (ha : a.length = 32) (hb : b.length = 32) (W : World) : (binOp .eql 45 (.agg (hashC a).toArray) (.agg (hashC b).toArray)).run Try.prog W = .ok (.bool (decide (a = b))) W := by
  have hq : (Try.prog.info? 5).map (fun i => (i.zero, i.size, i.bytes)) = some (some (.int .u8 0), 1, 1) := by kernel_rfl
  obtain ⟨ie, hie, he⟩ := Option.map_eq_some_iff.1 hq
  obtain ⟨-, he2⟩ := Prod.mk.inj he
  exact run_eql_ints W Try.underlying45 Try.underlying5 hie (Prod.mk.inj he2).1 a b ha hb
theorem hash_guard (x y : Operand) (a b : Array Value) (W : World) : (eqGuard .eql 45 x y (.agg a) (.agg b)).run Try.prog W = .ok () W := by
  have h : Try.prog.eqGuardType Try.prog.depth 45 = false := by kernel_rfl
  simp [eqGuard, h]
section
variable {n : Nat} {Q : Exit → Act → World → Prop} {l : Env} {w w' : World} {ops : Array Oper} {o : Oper} {rest : List Oper} {d : Nat}
/-- Two digests, compared. -/
theorem WL.eqlH {x y : Operand} {t2 : Nat} {a b : List Int} (hg : o.guard = none) (hd : o.dst = some d) (hn : Nat.blt d n = true) (ho : o.op = .binOp .eql 45 x y t2) (hx : evl l x = some (.agg (hashC a).toArray)) (hy : evl l y = some (.agg (hashC b).toArray))
    (ha : a.length = 32) (hb : b.length = 32) (h : WL n ops Q rest ((d, .bool (decide (a = b))) :: l) w) : WL n ops Q (o :: rest) l w :=
  WL.step hg hd hn (fun c hc => by
    unfold execOp
    rw [ho]
    simp only [hc.eval hx, hc.eval hy, Sem.run_bind, hash_guard, Result.andThen_ok, hash_eql a b ha hb w]
    rfl) h
end
theorem leaf_any {w : World} {v : Value} {l : List Int} (hv : Sl .u8 w v l) (hn : l.length ≤ 17592186044416) :
    Calls Try.prog 24 #[v] w fun e w' => e = .returned (.agg (hashC (Dig.sumL (0 :: l))).toArray) ∧ Below w.heap.size w w' := by
  refine enter (args := [v]) Try.func24 rfl Try.ntmps24 rfl ?_
  repeat (first | ((with_reducible refine WL.topT ?_ ?_); omega) | ((with_reducible refine WL.topF ?_ ?_); omega) | ((with_reducible refine WL.top64 ?_ ?_); omega) | refine WC.seq ?_ | refine WC.block ?_ | refine WC.region ?_ | refine WL.nil ?_ | refine WC.skip ?_ | refine WC.exit ?_ | refine WC.ret ?_ | refine WQ.then rfl ?_ | refine WQ.thenExit ?_ | refine WQ.thenRet ?_ | refine WQ.blk ?_ | refine WQ.blkRet ?_ | refine WQ.blkHere rfl ?_ | refine WQ.blkOther rfl ?_ | refine WL.pure rfl rfl rfl rfl ?_ | refine WL.on rfl rfl ?_ | refine WL.off rfl rfl rfl ?_ | refine WC.condTrue rfl ?_ | refine WC.condFalse rfl ?_)
  refine WL.alloc (z := .agg (hashC Dig.Z32).toArray) rfl rfl rfl rfl (Dig.zero25) fun g w1 hf => ?_
  have hf' : Fresh w g w1 45 (hashC Dig.Z32) := hf
  clear hf
  have hz := hf'.size
  have he := hf'.eq
  repeat (first | ((with_reducible refine WL.topT ?_ ?_); omega) | ((with_reducible refine WL.topF ?_ ?_); omega) | ((with_reducible refine WL.top64 ?_ ?_); omega) | refine WC.seq ?_ | refine WC.block ?_ | refine WC.region ?_ | refine WL.nil ?_ | refine WC.skip ?_ | refine WC.exit ?_ | refine WC.ret ?_ | refine WQ.then rfl ?_ | refine WQ.thenExit ?_ | refine WQ.thenRet ?_ | refine WQ.blk ?_ | refine WQ.blkRet ?_ | refine WQ.blkHere rfl ?_ | refine WQ.blkOther rfl ?_ | refine WL.pure rfl rfl rfl rfl ?_ | refine WL.on rfl rfl ?_ | refine WL.off rfl rfl rfl ?_ | refine WC.condTrue rfl ?_ | refine WC.condFalse rfl ?_)
  refine WL.lit rfl rfl rfl rfl rfl rfl rfl fun b2 w2 hb2 hk2 hg2 => ?_
  have hw2 : Below w.heap.size w w2 := hf'.below.trans (hk2.mono (by omega))
  repeat (first | ((with_reducible refine WL.topT ?_ ?_); omega) | ((with_reducible refine WL.topF ?_ ?_); omega) | ((with_reducible refine WL.top64 ?_ ?_); omega) | refine WC.seq ?_ | refine WC.block ?_ | refine WC.region ?_ | refine WL.nil ?_ | refine WC.skip ?_ | refine WC.exit ?_ | refine WC.ret ?_ | refine WQ.then rfl ?_ | refine WQ.thenExit ?_ | refine WQ.thenRet ?_ | refine WQ.blk ?_ | refine WQ.blkRet ?_ | refine WQ.blkHere rfl ?_ | refine WQ.blkOther rfl ?_ | refine WL.pure rfl rfl rfl rfl ?_ | refine WL.on rfl rfl ?_ | refine WL.off rfl rfl rfl ?_ | refine WC.condTrue rfl ?_ | refine WC.condFalse rfl ?_)
  refine WL.app rfl rfl rfl rfl rfl hb2 rfl (hv.of_below hw2) (by simp only [List.length_cons, List.length_nil]; omega) fun b3 w3 hb3 hg3 => ?_
  have hk3 : Below w1.heap.size w1 w3 := hk2.trans (hg3.old hk2.size hg2)
  refine WL.call rfl rfl rfl rfl rfl Try.func36 rfl (by kernel_rfl) (Dig.progSum_s b3 _ w3 hb3.sl (by rw [List.length_append]; simp only [List.length_cons, List.length_nil]; omega)) ?_
  rintro _ w4 ⟨rfl, hk4⟩
  refine ⟨_, rfl, ?_⟩
  have hk4' : Below w1.heap.size w1 w4 := hk3.trans (hk4.mono hk3.size)
  have B4 := hf'.blk.below hk4' hf'.blk.lt
  have hlen : (hashC (Dig.sumL (0 :: l))).length = 32 := by rw [List.length_map]; exact Dig.sumL_length _
  refine WL.storeRow rfl rfl rfl rfl rfl rfl B4 hlen (by rfl) (Ones.int _ _) ?_
  repeat (first | ((with_reducible refine WL.topT ?_ ?_); omega) | ((with_reducible refine WL.topF ?_ ?_); omega) | ((with_reducible refine WL.top64 ?_ ?_); omega) | refine WC.seq ?_ | refine WC.block ?_ | refine WC.region ?_ | refine WL.nil ?_ | refine WC.skip ?_ | refine WC.exit ?_ | refine WC.ret ?_ | refine WQ.then rfl ?_ | refine WQ.thenExit ?_ | refine WQ.thenRet ?_ | refine WQ.blk ?_ | refine WQ.blkRet ?_ | refine WQ.blkHere rfl ?_ | refine WQ.blkOther rfl ?_ | refine WL.pure rfl rfl rfl rfl ?_ | refine WL.on rfl rfl ?_ | refine WL.off rfl rfl rfl ?_ | refine WC.condTrue rfl ?_ | refine WC.condFalse rfl ?_)
  exact WQ.retC rfl rfl rfl hlen (B4.setRow _) ⟨rfl, below_setRow (hf'.below.trans (hk4'.mono (by omega))) (by omega) _⟩
theorem rleaf_any {w : World} {v : Value} {l : List Int} (hv : Sl .u8 w v l) (hn : l.length ≤ 17592186044416) :
    Calls Try.prog 25 #[v] w fun e w' => e = .returned (.agg (hashC (Dig.sumL (0 :: l))).toArray) ∧ Below w.heap.size w w' := by
  refine enter (args := [v]) Try.func25 rfl Try.ntmps25 rfl ?_
  repeat (first | ((with_reducible refine WL.topT ?_ ?_); omega) | ((with_reducible refine WL.topF ?_ ?_); omega) | ((with_reducible refine WL.top64 ?_ ?_); omega) | refine WC.seq ?_ | refine WC.block ?_ | refine WC.region ?_ | refine WL.nil ?_ | refine WC.skip ?_ | refine WC.exit ?_ | refine WC.ret ?_ | refine WQ.then rfl ?_ | refine WQ.thenExit ?_ | refine WQ.thenRet ?_ | refine WQ.blk ?_ | refine WQ.blkRet ?_ | refine WQ.blkHere rfl ?_ | refine WQ.blkOther rfl ?_ | refine WL.pure rfl rfl rfl rfl ?_ | refine WL.on rfl rfl ?_ | refine WL.off rfl rfl rfl ?_ | refine WC.condTrue rfl ?_ | refine WC.condFalse rfl ?_)
  refine WL.alloc (z := .agg (hashC Dig.Z32).toArray) rfl rfl rfl rfl (Dig.zero25) fun g w1 hf => ?_
  have hf' : Fresh w g w1 45 (hashC Dig.Z32) := hf
  clear hf
  have hz := hf'.size
  have he := hf'.eq
  repeat (first | ((with_reducible refine WL.topT ?_ ?_); omega) | ((with_reducible refine WL.topF ?_ ?_); omega) | ((with_reducible refine WL.top64 ?_ ?_); omega) | refine WC.seq ?_ | refine WC.block ?_ | refine WC.region ?_ | refine WL.nil ?_ | refine WC.skip ?_ | refine WC.exit ?_ | refine WC.ret ?_ | refine WQ.then rfl ?_ | refine WQ.thenExit ?_ | refine WQ.thenRet ?_ | refine WQ.blk ?_ | refine WQ.blkRet ?_ | refine WQ.blkHere rfl ?_ | refine WQ.blkOther rfl ?_ | refine WL.pure rfl rfl rfl rfl ?_ | refine WL.on rfl rfl ?_ | refine WL.off rfl rfl rfl ?_ | refine WC.condTrue rfl ?_ | refine WC.condFalse rfl ?_)
  refine WL.lit rfl rfl rfl rfl rfl rfl rfl fun b2 w2 hb2 hk2 hg2 => ?_
  have hw2 : Below w.heap.size w w2 := hf'.below.trans (hk2.mono (by omega))
  repeat (first | ((with_reducible refine WL.topT ?_ ?_); omega) | ((with_reducible refine WL.topF ?_ ?_); omega) | ((with_reducible refine WL.top64 ?_ ?_); omega) | refine WC.seq ?_ | refine WC.block ?_ | refine WC.region ?_ | refine WL.nil ?_ | refine WC.skip ?_ | refine WC.exit ?_ | refine WC.ret ?_ | refine WQ.then rfl ?_ | refine WQ.thenExit ?_ | refine WQ.thenRet ?_ | refine WQ.blk ?_ | refine WQ.blkRet ?_ | refine WQ.blkHere rfl ?_ | refine WQ.blkOther rfl ?_ | refine WL.pure rfl rfl rfl rfl ?_ | refine WL.on rfl rfl ?_ | refine WL.off rfl rfl rfl ?_ | refine WC.condTrue rfl ?_ | refine WC.condFalse rfl ?_)
  refine WL.app rfl rfl rfl rfl rfl hb2 rfl (hv.of_below hw2) (by simp only [List.length_cons, List.length_nil]; omega) fun b3 w3 hb3 hg3 => ?_
  have hk3 : Below w1.heap.size w1 w3 := hk2.trans (hg3.old hk2.size hg2)
  refine WL.call rfl rfl rfl rfl rfl Try.func37 rfl (by kernel_rfl) (Dig.refSum_s b3 _ w3 hb3.sl (by rw [List.length_append]; simp only [List.length_cons, List.length_nil]; omega)) ?_
  rintro _ w4 ⟨rfl, hk4⟩
  refine ⟨_, rfl, ?_⟩
  have hk4' : Below w1.heap.size w1 w4 := hk3.trans (hk4.mono hk3.size)
  have B4 := hf'.blk.below hk4' hf'.blk.lt
  have hlen : (hashC (Dig.sumL (0 :: l))).length = 32 := by rw [List.length_map]; exact Dig.sumL_length _
  refine WL.storeRow rfl rfl rfl rfl rfl rfl B4 hlen (by rfl) (Ones.int _ _) ?_
  repeat (first | ((with_reducible refine WL.topT ?_ ?_); omega) | ((with_reducible refine WL.topF ?_ ?_); omega) | ((with_reducible refine WL.top64 ?_ ?_); omega) | refine WC.seq ?_ | refine WC.block ?_ | refine WC.region ?_ | refine WL.nil ?_ | refine WC.skip ?_ | refine WC.exit ?_ | refine WC.ret ?_ | refine WQ.then rfl ?_ | refine WQ.thenExit ?_ | refine WQ.thenRet ?_ | refine WQ.blk ?_ | refine WQ.blkRet ?_ | refine WQ.blkHere rfl ?_ | refine WQ.blkOther rfl ?_ | refine WL.pure rfl rfl rfl rfl ?_ | refine WL.on rfl rfl ?_ | refine WL.off rfl rfl rfl ?_ | refine WC.condTrue rfl ?_ | refine WC.condFalse rfl ?_)
  exact WQ.retC rfl rfl rfl hlen (B4.setRow _) ⟨rfl, below_setRow (hf'.below.trans (hk4'.mono (by omega))) (by omega) _⟩
/-- A value's digest. -/
def hashR (v : V) : List Int := if (encR v).2 ≠ 0 then Dig.Z32 else Dig.sumL (0 :: (encR v).1)
theorem encR_ok' {v : V} (h : (encR v).2 = 0) : chk 16 v = 0 ∧ (encV 16 v).length ≤ 65536 ∧ (encR v).1 = encV 16 v := by
  unfold encR at h ⊢
  by_cases hc : chk 16 v = 0
  · rw [if_neg (by simpa using hc)] at h ⊢
    by_cases hb : 65536 < (encV 16 v).length
    · rw [if_pos hb] at h; cases h
    · rw [if_neg hb]; exact ⟨hc, by omega, rfl⟩
  · rw [if_pos hc] at h; exact absurd h hc
theorem hashR_len (v : V) : (hashR v).length = 32 := by unfold hashR; split; rfl; exact Dig.sumL_length _
def HashPost (w : World) (v : V) (e : Ending) (w' : World) : Prop := e = .returned (.tuple #[.agg (hashC (hashR v)).toArray, .int .i64 (encR v).2]) ∧ Below w.heap.size w w'
theorem hash_any {f : Nat} {w : World} {v : V} {cs : List Value} (h : IsV f w v cs) (hlen : chk 16 v = 0 → (encV 16 v).length ≤ 70368744177664) :
    Calls Try.prog 16 #[.agg cs.toArray] w (HashPost w v) := by
  have hcs := h.len
  refine enter (args := [.agg cs.toArray]) Try.func16 rfl Try.ntmps16 rfl ?_
  repeat (first | ((with_reducible refine WL.topT ?_ ?_); omega) | ((with_reducible refine WL.topF ?_ ?_); omega) | ((with_reducible refine WL.top64 ?_ ?_); omega) | refine WC.seq ?_ | refine WC.block ?_ | refine WC.region ?_ | refine WL.nil ?_ | refine WC.skip ?_ | refine WC.exit ?_ | refine WC.ret ?_ | refine WQ.then rfl ?_ | refine WQ.thenExit ?_ | refine WQ.thenRet ?_ | refine WQ.blk ?_ | refine WQ.blkRet ?_ | refine WQ.blkHere rfl ?_ | refine WQ.blkOther rfl ?_ | refine WL.pure rfl rfl rfl rfl ?_ | refine WL.on rfl rfl ?_ | refine WL.off rfl rfl rfl ?_ | refine WC.condTrue rfl ?_ | refine WC.condFalse rfl ?_)
  refine WL.box rfl rfl rfl rfl rfl fun g w1 hf => ?_
  have hf' : Fresh w g w1 25 cs := hf
  clear hf
  refine WL.alloc (z := .agg (hashC Dig.Z32).toArray) rfl rfl rfl rfl (Dig.zero25) fun g2 w2 hf2 => ?_
  have hf2' : Fresh w1 g2 w2 45 (hashC Dig.Z32) := hf2
  clear hf2
  have hz1 := hf'.size
  have hz2 := hf2'.size
  have he1 := hf'.eq
  have he2 := hf2'.eq
  have hw2 : Below w.heap.size w w2 := hf'.below.trans (hf2'.below.mono (by omega))
  have B1 := hf'.blk.below hf2'.below hf'.blk.lt
  repeat (first | ((with_reducible refine WL.topT ?_ ?_); omega) | ((with_reducible refine WL.topF ?_ ?_); omega) | ((with_reducible refine WL.top64 ?_ ?_); omega) | refine WC.seq ?_ | refine WC.block ?_ | refine WC.region ?_ | refine WL.nil ?_ | refine WC.skip ?_ | refine WC.exit ?_ | refine WC.ret ?_ | refine WQ.then rfl ?_ | refine WQ.thenExit ?_ | refine WQ.thenRet ?_ | refine WQ.blk ?_ | refine WQ.blkRet ?_ | refine WQ.blkHere rfl ?_ | refine WQ.blkOther rfl ?_ | refine WL.pure rfl rfl rfl rfl ?_ | refine WL.on rfl rfl ?_ | refine WL.off rfl rfl rfl ?_ | refine WC.condTrue rfl ?_ | refine WC.condFalse rfl ?_)
  refine WL.loadMid rfl rfl rfl rfl rfl rfl (VBlk.rangeAt B1) hcs ?_
  refine WL.call rfl rfl rfl rfl rfl Try.func8 rfl (by kernel_rfl) (encode_any (h.below hw2) hlen) ?_
  rintro _ w3 ⟨b, rfl, hb, hk3, -⟩
  refine ⟨_, rfl, ?_⟩
  have hw3 : Below w.heap.size w w3 := hw2.trans (hk3.mono (by omega))
  have B23 := hf2'.blk.below hk3 hf2'.blk.lt
  have hz3 := hk3.size
  by_cases he : (encR v).2 = 0
  · have hR : hashR v = Dig.sumL (0 :: (encR v).1) := by unfold hashR; rw [if_neg (by simpa using he)]
    have hl65 := (encR_ok' he).2.1
    rw [← (encR_ok' he).2.2] at hl65
    repeat (first | ((with_reducible refine WL.topT ?_ ?_); omega) | ((with_reducible refine WL.topF ?_ ?_); omega) | ((with_reducible refine WL.top64 ?_ ?_); omega) | refine WC.seq ?_ | refine WC.block ?_ | refine WC.region ?_ | refine WL.nil ?_ | refine WC.skip ?_ | refine WC.exit ?_ | refine WC.ret ?_ | refine WQ.then rfl ?_ | refine WQ.thenExit ?_ | refine WQ.thenRet ?_ | refine WQ.blk ?_ | refine WQ.blkRet ?_ | refine WQ.blkHere rfl ?_ | refine WQ.blkOther rfl ?_ | refine WL.pure rfl rfl rfl rfl ?_ | refine WL.on rfl rfl ?_ | refine WL.off rfl rfl rfl ?_ | refine WC.condTrue rfl ?_ | refine WC.condFalse rfl ?_)
    refine WL.call rfl rfl rfl rfl rfl Try.func24 rfl (by kernel_rfl) (leaf_any hb.sl (by omega)) ?_
    rintro _ w4 ⟨rfl, hk4⟩
    refine ⟨_, rfl, ?_⟩
    have hlen2 : (hashC (Dig.sumL (0 :: (encR v).1))).length = 32 := by rw [List.length_map]; exact Dig.sumL_length _
    have B24 := B23.below hk4 B23.lt
    refine WL.storeRow rfl rfl rfl rfl rfl rfl B24 hlen2 (by rfl) (Ones.int _ _) ?_
    repeat (first | ((with_reducible refine WL.topT ?_ ?_); omega) | ((with_reducible refine WL.topF ?_ ?_); omega) | ((with_reducible refine WL.top64 ?_ ?_); omega) | refine WC.seq ?_ | refine WC.block ?_ | refine WC.region ?_ | refine WL.nil ?_ | refine WC.skip ?_ | refine WC.exit ?_ | refine WC.ret ?_ | refine WQ.then rfl ?_ | refine WQ.thenExit ?_ | refine WQ.thenRet ?_ | refine WQ.blk ?_ | refine WQ.blkRet ?_ | refine WQ.blkHere rfl ?_ | refine WQ.blkOther rfl ?_ | refine WL.pure rfl rfl rfl rfl ?_ | refine WL.on rfl rfl ?_ | refine WL.off rfl rfl rfl ?_ | refine WC.condTrue rfl ?_ | refine WC.condFalse rfl ?_)
    exact WQ.retCT rfl rfl rfl rfl hlen2 (B24.setRow _) ⟨by rw [hR, he], below_setRow (hw3.trans (hk4.mono (by omega))) (by omega) _⟩
  · have hR : hashR v = Dig.Z32 := by unfold hashR; rw [if_pos he]
    repeat (first | ((with_reducible refine WL.topT ?_ ?_); omega) | ((with_reducible refine WL.topF ?_ ?_); omega) | ((with_reducible refine WL.top64 ?_ ?_); omega) | refine WC.seq ?_ | refine WC.block ?_ | refine WC.region ?_ | refine WL.nil ?_ | refine WC.skip ?_ | refine WC.exit ?_ | refine WC.ret ?_ | refine WQ.then rfl ?_ | refine WQ.thenExit ?_ | refine WQ.thenRet ?_ | refine WQ.blk ?_ | refine WQ.blkRet ?_ | refine WQ.blkHere rfl ?_ | refine WQ.blkOther rfl ?_ | refine WL.pure rfl rfl rfl rfl ?_ | refine WL.on rfl rfl ?_ | refine WL.off rfl rfl rfl ?_ | refine WC.condTrue rfl ?_ | refine WC.condFalse rfl ?_)
    refine WL.build (hashC Dig.Z32) rfl rfl rfl rfl rfl (by kernel_rfl) ?_
    repeat (first | ((with_reducible refine WL.topT ?_ ?_); omega) | ((with_reducible refine WL.topF ?_ ?_); omega) | ((with_reducible refine WL.top64 ?_ ?_); omega) | refine WC.seq ?_ | refine WC.block ?_ | refine WC.region ?_ | refine WL.nil ?_ | refine WC.skip ?_ | refine WC.exit ?_ | refine WC.ret ?_ | refine WQ.then rfl ?_ | refine WQ.thenExit ?_ | refine WQ.thenRet ?_ | refine WQ.blk ?_ | refine WQ.blkRet ?_ | refine WQ.blkHere rfl ?_ | refine WQ.blkOther rfl ?_ | refine WL.pure rfl rfl rfl rfl ?_ | refine WL.on rfl rfl ?_ | refine WL.off rfl rfl rfl ?_ | refine WC.condTrue rfl ?_ | refine WC.condFalse rfl ?_)
    refine WL.storeRow rfl rfl rfl rfl rfl rfl B23 (by rfl) (by rfl) (Ones.int _ _) ?_
    repeat (first | ((with_reducible refine WL.topT ?_ ?_); omega) | ((with_reducible refine WL.topF ?_ ?_); omega) | ((with_reducible refine WL.top64 ?_ ?_); omega) | refine WC.seq ?_ | refine WC.block ?_ | refine WC.region ?_ | refine WL.nil ?_ | refine WC.skip ?_ | refine WC.exit ?_ | refine WC.ret ?_ | refine WQ.then rfl ?_ | refine WQ.thenExit ?_ | refine WQ.thenRet ?_ | refine WQ.blk ?_ | refine WQ.blkRet ?_ | refine WQ.blkHere rfl ?_ | refine WQ.blkOther rfl ?_ | refine WL.pure rfl rfl rfl rfl ?_ | refine WL.on rfl rfl ?_ | refine WL.off rfl rfl rfl ?_ | refine WC.condTrue rfl ?_ | refine WC.condFalse rfl ?_)
    exact WQ.retCT rfl rfl rfl rfl (by rfl) (B23.setRow _) ⟨by rw [hR]; rfl, below_setRow hw3 (by omega) _⟩
theorem rhash_any {f : Nat} {w : World} {v : V} {cs : List Value} (h : IsV f w v cs) (hlen : chk 16 v = 0 → (encV 16 v).length ≤ 70368744177664) :
    Calls Try.prog 17 #[.agg cs.toArray] w (HashPost w v) := by
  have hcs := h.len
  refine enter (args := [.agg cs.toArray]) Try.func17 rfl Try.ntmps17 rfl ?_
  repeat (first | ((with_reducible refine WL.topT ?_ ?_); omega) | ((with_reducible refine WL.topF ?_ ?_); omega) | ((with_reducible refine WL.top64 ?_ ?_); omega) | refine WC.seq ?_ | refine WC.block ?_ | refine WC.region ?_ | refine WL.nil ?_ | refine WC.skip ?_ | refine WC.exit ?_ | refine WC.ret ?_ | refine WQ.then rfl ?_ | refine WQ.thenExit ?_ | refine WQ.thenRet ?_ | refine WQ.blk ?_ | refine WQ.blkRet ?_ | refine WQ.blkHere rfl ?_ | refine WQ.blkOther rfl ?_ | refine WL.pure rfl rfl rfl rfl ?_ | refine WL.on rfl rfl ?_ | refine WL.off rfl rfl rfl ?_ | refine WC.condTrue rfl ?_ | refine WC.condFalse rfl ?_)
  refine WL.box rfl rfl rfl rfl rfl fun g w1 hf => ?_
  have hf' : Fresh w g w1 25 cs := hf
  clear hf
  refine WL.alloc (z := .agg (hashC Dig.Z32).toArray) rfl rfl rfl rfl (Dig.zero25) fun g2 w2 hf2 => ?_
  have hf2' : Fresh w1 g2 w2 45 (hashC Dig.Z32) := hf2
  clear hf2
  have hz1 := hf'.size
  have hz2 := hf2'.size
  have he1 := hf'.eq
  have he2 := hf2'.eq
  have hw2 : Below w.heap.size w w2 := hf'.below.trans (hf2'.below.mono (by omega))
  have B1 := hf'.blk.below hf2'.below hf'.blk.lt
  repeat (first | ((with_reducible refine WL.topT ?_ ?_); omega) | ((with_reducible refine WL.topF ?_ ?_); omega) | ((with_reducible refine WL.top64 ?_ ?_); omega) | refine WC.seq ?_ | refine WC.block ?_ | refine WC.region ?_ | refine WL.nil ?_ | refine WC.skip ?_ | refine WC.exit ?_ | refine WC.ret ?_ | refine WQ.then rfl ?_ | refine WQ.thenExit ?_ | refine WQ.thenRet ?_ | refine WQ.blk ?_ | refine WQ.blkRet ?_ | refine WQ.blkHere rfl ?_ | refine WQ.blkOther rfl ?_ | refine WL.pure rfl rfl rfl rfl ?_ | refine WL.on rfl rfl ?_ | refine WL.off rfl rfl rfl ?_ | refine WC.condTrue rfl ?_ | refine WC.condFalse rfl ?_)
  refine WL.loadMid rfl rfl rfl rfl rfl rfl (VBlk.rangeAt B1) hcs ?_
  refine WL.call rfl rfl rfl rfl rfl Try.func15 rfl (by kernel_rfl) (rencode_any (h.below hw2) hlen) ?_
  rintro _ w3 ⟨b, rfl, hb, hk3, -⟩
  refine ⟨_, rfl, ?_⟩
  have hw3 : Below w.heap.size w w3 := hw2.trans (hk3.mono (by omega))
  have B23 := hf2'.blk.below hk3 hf2'.blk.lt
  have hz3 := hk3.size
  by_cases he : (encR v).2 = 0
  · have hR : hashR v = Dig.sumL (0 :: (encR v).1) := by unfold hashR; rw [if_neg (by simpa using he)]
    have hl65 := (encR_ok' he).2.1
    rw [← (encR_ok' he).2.2] at hl65
    repeat (first | ((with_reducible refine WL.topT ?_ ?_); omega) | ((with_reducible refine WL.topF ?_ ?_); omega) | ((with_reducible refine WL.top64 ?_ ?_); omega) | refine WC.seq ?_ | refine WC.block ?_ | refine WC.region ?_ | refine WL.nil ?_ | refine WC.skip ?_ | refine WC.exit ?_ | refine WC.ret ?_ | refine WQ.then rfl ?_ | refine WQ.thenExit ?_ | refine WQ.thenRet ?_ | refine WQ.blk ?_ | refine WQ.blkRet ?_ | refine WQ.blkHere rfl ?_ | refine WQ.blkOther rfl ?_ | refine WL.pure rfl rfl rfl rfl ?_ | refine WL.on rfl rfl ?_ | refine WL.off rfl rfl rfl ?_ | refine WC.condTrue rfl ?_ | refine WC.condFalse rfl ?_)
    refine WL.call rfl rfl rfl rfl rfl Try.func25 rfl (by kernel_rfl) (rleaf_any hb.sl (by omega)) ?_
    rintro _ w4 ⟨rfl, hk4⟩
    refine ⟨_, rfl, ?_⟩
    have hlen2 : (hashC (Dig.sumL (0 :: (encR v).1))).length = 32 := by rw [List.length_map]; exact Dig.sumL_length _
    have B24 := B23.below hk4 B23.lt
    refine WL.storeRow rfl rfl rfl rfl rfl rfl B24 hlen2 (by rfl) (Ones.int _ _) ?_
    repeat (first | ((with_reducible refine WL.topT ?_ ?_); omega) | ((with_reducible refine WL.topF ?_ ?_); omega) | ((with_reducible refine WL.top64 ?_ ?_); omega) | refine WC.seq ?_ | refine WC.block ?_ | refine WC.region ?_ | refine WL.nil ?_ | refine WC.skip ?_ | refine WC.exit ?_ | refine WC.ret ?_ | refine WQ.then rfl ?_ | refine WQ.thenExit ?_ | refine WQ.thenRet ?_ | refine WQ.blk ?_ | refine WQ.blkRet ?_ | refine WQ.blkHere rfl ?_ | refine WQ.blkOther rfl ?_ | refine WL.pure rfl rfl rfl rfl ?_ | refine WL.on rfl rfl ?_ | refine WL.off rfl rfl rfl ?_ | refine WC.condTrue rfl ?_ | refine WC.condFalse rfl ?_)
    exact WQ.retCT rfl rfl rfl rfl hlen2 (B24.setRow _) ⟨by rw [hR, he], below_setRow (hw3.trans (hk4.mono (by omega))) (by omega) _⟩
  · have hR : hashR v = Dig.Z32 := by unfold hashR; rw [if_pos he]
    repeat (first | ((with_reducible refine WL.topT ?_ ?_); omega) | ((with_reducible refine WL.topF ?_ ?_); omega) | ((with_reducible refine WL.top64 ?_ ?_); omega) | refine WC.seq ?_ | refine WC.block ?_ | refine WC.region ?_ | refine WL.nil ?_ | refine WC.skip ?_ | refine WC.exit ?_ | refine WC.ret ?_ | refine WQ.then rfl ?_ | refine WQ.thenExit ?_ | refine WQ.thenRet ?_ | refine WQ.blk ?_ | refine WQ.blkRet ?_ | refine WQ.blkHere rfl ?_ | refine WQ.blkOther rfl ?_ | refine WL.pure rfl rfl rfl rfl ?_ | refine WL.on rfl rfl ?_ | refine WL.off rfl rfl rfl ?_ | refine WC.condTrue rfl ?_ | refine WC.condFalse rfl ?_)
    refine WL.build (hashC Dig.Z32) rfl rfl rfl rfl rfl (by kernel_rfl) ?_
    repeat (first | ((with_reducible refine WL.topT ?_ ?_); omega) | ((with_reducible refine WL.topF ?_ ?_); omega) | ((with_reducible refine WL.top64 ?_ ?_); omega) | refine WC.seq ?_ | refine WC.block ?_ | refine WC.region ?_ | refine WL.nil ?_ | refine WC.skip ?_ | refine WC.exit ?_ | refine WC.ret ?_ | refine WQ.then rfl ?_ | refine WQ.thenExit ?_ | refine WQ.thenRet ?_ | refine WQ.blk ?_ | refine WQ.blkRet ?_ | refine WQ.blkHere rfl ?_ | refine WQ.blkOther rfl ?_ | refine WL.pure rfl rfl rfl rfl ?_ | refine WL.on rfl rfl ?_ | refine WL.off rfl rfl rfl ?_ | refine WC.condTrue rfl ?_ | refine WC.condFalse rfl ?_)
    refine WL.storeRow rfl rfl rfl rfl rfl rfl B23 (by rfl) (by rfl) (Ones.int _ _) ?_
    repeat (first | ((with_reducible refine WL.topT ?_ ?_); omega) | ((with_reducible refine WL.topF ?_ ?_); omega) | ((with_reducible refine WL.top64 ?_ ?_); omega) | refine WC.seq ?_ | refine WC.block ?_ | refine WC.region ?_ | refine WL.nil ?_ | refine WC.skip ?_ | refine WC.exit ?_ | refine WC.ret ?_ | refine WQ.then rfl ?_ | refine WQ.thenExit ?_ | refine WQ.thenRet ?_ | refine WQ.blk ?_ | refine WQ.blkRet ?_ | refine WQ.blkHere rfl ?_ | refine WQ.blkOther rfl ?_ | refine WL.pure rfl rfl rfl rfl ?_ | refine WL.on rfl rfl ?_ | refine WL.off rfl rfl rfl ?_ | refine WC.condTrue rfl ?_ | refine WC.condFalse rfl ?_)
    exact WQ.retCT rfl rfl rfl rfl (by rfl) (B23.setRow _) ⟨by rw [hR]; rfl, below_setRow hw3 (by omega) _⟩
end K
end Go.Proofs.Ytnboloilljlfiaa

/- The document's Clone (chapter 5). -/
namespace Go.Proofs.Ytnboloilljlfiaa
open Go.RowKit
namespace K
section
variable {n : Nat} {Q : Exit → Act → World → Prop} {l : Env} {w w' : World} {ops : Array Oper} {o : Oper} {rest : List Oper} {d : Nat}
/-- append of nothing. -/
theorem WL.app0 {s x : Operand} {t e sz : Nat} {sp xp : Option Addr} {m cap xc : Nat} (hg : o.guard = none) (hd : o.dst = some d) (hn : Nat.blt d n = true)
    (ho : o.op = .call { callee := .builtin .append, args := #[s, x], argTypes := #[t, t] }) (ht : tyOf ty t = some (.slice e sz)) (hs : evl l s = some (.slice sp m cap)) (hc : m ≤ cap) (hx : evl l x = some (.slice xp 0 xc))
    (h : WL n ops Q rest ((d, .slice sp m cap) :: l) w) : WL n ops Q (o :: rest) l w :=
  WL.step hg hd hn (fun a ha => by
    obtain ⟨hu, hsz⟩ := TyOk.of tyOk ht
    have hs' : (sizeOf e).run Try.prog w = .ok sz w := by
      cases hq : Try.prog.info? e with
      | none => rw [hq] at hsz; cases hsz
      | some q => rw [hq] at hsz; simp at hsz; simp [sizeOf, typeInfo, hq, hsz]
    unfold execOp
    simp only [ho, resolve, invoke, builtin, Sem.run_bind, Sem.run_pure, Result.andThen_ok, List.map_toArray, List.map_cons, List.map_nil, ha.eval hs, ha.eval hx]
    have hrun : (Builtin.append_ #[t, t] o.type #[.slice sp m cap, .slice xp 0 xc]).run Try.prog w = .ok (.slice sp m cap) w := by
      cases sp <;> cases xp <;> simp [Builtin.append_, run_underlying hu, hs', Builtin.lenOf, Builtin.firstCells, hc, loadCells, loadCellsFrom, storeCells]
    rw [hrun]
    rfl) h
end
theorem strs_slV {w : World} {v : Value} {l : List ByteArray} (h : Strs w v l) (h0 : 0 < l.length) : SlV w (fun _ => True) 1 v l.length (l.map Value.string) := by
  obtain ⟨sp, cap, rfl, h1, h2, -, h4⟩ := h
  obtain ⟨b, o, rfl, hb, hr⟩ := h4 h0
  refine ⟨by simp, Ones.str l, _, cap, rfl, h1, h2, (fun h => by cases h), fun _ => ⟨b, o, rfl, hb, trivial, fun j hj => ?_⟩⟩
  rw [List.length_map] at hj
  rw [hr j hj]
  simp [hj]
/-- An own row of texts reads so. -/
theorem own_strs {w : World} {O : Nat → Prop} {v : Value} {l : List ByteArray} (h : OwnV 9 1 w O v l.length (l.map Value.string)) (hz : ∀ s ∈ l, s.size ≤ 140737488355328) : Els 1 noT strP O w v l := by
  obtain ⟨q1, q2, sp, cap, rfl, h4, h5, h6, h7⟩ := h.slV
  refine ⟨sp, cap, rfl, h4, h5, h6, fun h0 => ?_⟩
  obtain ⟨b, o, e, hb, hO, hr⟩ := h7 h0
  refine ⟨b, o, e, hb, hO, fun j hj => ⟨[.string (l.getD j noT)], rfl, ⟨rfl, ?_⟩, fun i u hu => ?_⟩⟩
  · exact hz _ (by simp [hj])
  · cases i with
    | zero =>
      have := hr j (by simpa using hj)
      simp at hu
      rw [Nat.mul_one, Nat.add_zero, this, ← hu]
      simp [hj]
    | succ i => simp at hu

/-- No list in a value is longer. -/
def Sm (B : Nat) : Nat → V → Prop
  | 0, _ => False
  | f + 1, v => v.names.length ≤ B ∧ v.kids.length ≤ B ∧ ∀ x ∈ v.kids, Sm B f x
theorem grtK_sm {B f : Nat} (ih : ∀ (v : V) (n : Nat), Sml f v → grt B f v n ≤ B → n + 1 ≤ grt B f v n ∧ Sm B f v) : ∀ (l : List V) (n : Nat), (∀ x ∈ l, Sml f x) → grtK B (grt B f) l n ≤ B → n + l.length ≤ grtK B (grt B f) l n ∧ ∀ x ∈ l, Sm B f x
  | [], n, _, _ => ⟨by simp [grtK], fun x hx => by cases hx⟩
  | k :: r, n, h, hB => by
    unfold grtK at hB ⊢
    by_cases hn : n ≤ B
    · rw [if_pos hn] at hB ⊢
      have hle : grt B f k n ≤ B := by
        rcases Nat.lt_or_ge B (grt B f k n) with h1 | h1
        · rw [grtK_over r h1] at hB; omega
        · exact h1
      have h1 := ih k n (h k (by simp)) hle
      have h2 := grtK_sm ih r (grt B f k n) (fun x hx => h x (List.mem_cons_of_mem _ hx)) hB
      refine ⟨by simp only [List.length_cons]; omega, fun x hx => ?_⟩
      rcases List.mem_cons.1 hx with rfl | hx
      · exact h1.2
      · exact h2.2 x hx
    · rw [if_neg hn] at hB; omega
theorem grt_sm {B : Nat} : ∀ (f : Nat) (v : V) (n : Nat), Sml f v → grt B f v n ≤ B → n + 1 ≤ grt B f v n ∧ Sm B f v
  | 0, _, _, h, _ => h.elim
  | f + 1, v, n, h, hB => by
    unfold grt at hB ⊢
    have := grtK_sm (grt_sm f) v.kids _ h.2.2 hB
    exact ⟨by omega, by omega, by omega, this.2⟩

set_option maxHeartbeats 8000000 in
theorem clone_any {B : Nat} (hB : B ≤ 1000000) : ∀ (f : Nat) {w : World} {v : V} {cs : List Value}, IsV f w v cs → Sm B f v →
    Calls Try.prog 14 #[.agg cs.toArray] w fun e w' => Below w.heap.size w w' ∧ ∃ cs', e = .returned (.agg cs'.toArray) ∧ IsVo (fun b => w.heap.size ≤ b) f w' v cs'
  | 0, _, _, _, h, _ => h.elim
  | f + 1, w, v, cs, h, hm => by
    obtain ⟨sn, sk, rfl, wk, wn, ws, wt, hnames, hkids⟩ := h
    obtain ⟨hmn, hmk, hms⟩ := hm
    obtain ⟨sp, cap, rfl, hcap1, hcap2, hrow⟩ := hkids
    refine enter (args := [.agg (six v sn (.slice sp v.kids.length cap)).toArray]) Try.func14 rfl Try.ntmps14 rfl ?_
    repeat (first | ((with_reducible refine WL.topT ?_ ?_); omega) | ((with_reducible refine WL.topF ?_ ?_); omega) | ((with_reducible refine WL.top64 ?_ ?_); omega) | refine WC.seq ?_ | refine WC.block ?_ | refine WC.region ?_ | refine WL.nil ?_ | refine WC.skip ?_ | refine WC.exit ?_ | refine WC.ret ?_ | refine WQ.then rfl ?_ | refine WQ.thenExit ?_ | refine WQ.thenRet ?_ | refine WQ.blk ?_ | refine WQ.blkRet ?_ | refine WQ.blkHere rfl ?_ | refine WQ.blkOther rfl ?_ | refine WL.pure rfl rfl rfl rfl ?_ | refine WL.on rfl rfl ?_ | refine WL.off rfl rfl rfl ?_ | refine WC.condTrue rfl ?_ | refine WC.condFalse rfl ?_)
    refine WL.box rfl rfl rfl rfl rfl fun g1 w1 hf1 => ?_
    have hf1' : Fresh w g1 w1 25 (six v sn (.slice sp v.kids.length cap)) := hf1
    clear hf1
    refine WL.alloc (z := .agg zCells.toArray) rfl rfl rfl rfl (fun _ => by kernel_rfl) fun g2 w2 hf2 => ?_
    have hf2' : Fresh w1 g2 w2 25 zCells := hf2
    clear hf2
    have hz1 := hf1'.size
    have hz2 := hf2'.size
    have he1 := hf1'.eq
    have he2 := hf2'.eq
    have hw2 : Below w.heap.size w w2 := hf1'.below.trans (hf2'.below.mono hf1'.below.size)
    have B1 := hf1'.blk.below hf2'.below hf1'.blk.lt
    have B2 := hf2'.blk
    clear hf1' hf2'
    repeat (first | refine WC.seq ?_ | refine WC.block ?_ | refine WC.region ?_ | refine WL.nil ?_ | refine WC.skip ?_ | refine WC.exit ?_ | refine WC.ret ?_ | refine WQ.then rfl ?_ | refine WQ.thenExit ?_ | refine WQ.thenRet ?_ | refine WQ.blk ?_ | refine WQ.blkRet ?_ | refine WQ.blkHere rfl ?_ | refine WQ.blkOther rfl ?_)
    refine WL.mid (fun _ : Value => [(1, .pointer (some ⟨g1, 0, none⟩)), (2, .pointer (some ⟨g2, 0, none⟩))]) (fun sx wx => VBlk 25 wx g1 (six v sx (.slice sp v.kids.length cap)) ∧ VBlk 25 wx g2 zCells ∧ Below w.heap.size w wx ∧
      Els 1 noT strP (fun b => w.heap.size ≤ b ∧ b ≠ g1 ∧ b ≠ g2) wx sx v.names ∧ sx.oneCell' = true) rfl ?_ ?_
    · refine WL.empty rfl rfl rfl rfl rfl fun g5 w3 hf3 => ?_
      have hf3' : Fresh w2 g5 w3 9 [] := hf3
      clear hf3
      have hz3 := hf3'.size
      have he3 := hf3'.eq
      have hb3 := hf3'.blk
      have hw3 : Below w.heap.size w w3 := hw2.trans (hf3'.below.mono hw2.size)
      have B13 := B1.below hf3'.below B1.lt
      have B23 := B2.below hf3'.below B2.lt
      clear hf3'
      -- the store behind the append
      have go : ∀ {wx : World} {sx : Value}, Grow w3 (.slice (some ⟨g5, 0, none⟩) 0 0) wx sx → VBlk 25 wx g1 (six v sn (.slice sp v.kids.length cap)) ∧ VBlk 25 (wx.setCell ⟨g1, 4, none⟩ sx) g1 (six v sx (.slice sp v.kids.length cap)) ∧ VBlk 25 (wx.setCell ⟨g1, 4, none⟩ sx) g2 zCells ∧ Below w.heap.size w (wx.setCell ⟨g1, 4, none⟩ sx) := fun {wx sx} h => by
        have hk : Keep (fun b => b < g5) w3 wx := Keep.mono h.1 fun b hb => ⟨by omega, fun e => by have : g5 = b := Option.some.inj e; omega⟩
        have b1 := B13.keep hk (by omega)
        refine ⟨b1, b1.set 4 sx, (B23.keep hk (by omega)).other _ _ (by show g2 ≠ g1; omega), Keep.below (Keep.setCell (Keep.of_below (hw3.trans (Keep.below (Keep.mono hk fun b (hb : b < w.heap.size) => by omega)))) (fun hk => by simp only at hk; omega) _)⟩
      obtain ⟨np, nc, rfl, nl, nm, nz, nr⟩ := hnames
      repeat (first | ((with_reducible refine WL.topT ?_ ?_); omega) | ((with_reducible refine WL.topF ?_ ?_); omega) | ((with_reducible refine WL.top64 ?_ ?_); omega) | refine WC.seq ?_ | refine WC.block ?_ | refine WC.region ?_ | refine WL.nil ?_ | refine WC.skip ?_ | refine WC.exit ?_ | refine WC.ret ?_ | refine WQ.then rfl ?_ | refine WQ.thenExit ?_ | refine WQ.thenRet ?_ | refine WQ.blk ?_ | refine WQ.blkRet ?_ | refine WQ.blkHere rfl ?_ | refine WQ.blkOther rfl ?_ | refine WL.pure rfl rfl rfl rfl ?_ | refine WL.on rfl rfl ?_ | refine WL.off rfl rfl rfl ?_ | refine WC.condTrue rfl ?_ | refine WC.condFalse rfl ?_)
      refine WL.load rfl rfl rfl rfl rfl rfl (B13.cell 4 (by simp)) ?_
      by_cases hn0 : v.names.length = 0
      · refine WL.as 7 (.slice np 0 nc) rfl (by show Value.slice np v.names.length nc = _; rw [hn0]) ?_
        refine WL.app0 rfl rfl rfl rfl rfl rfl (Nat.le_refl 0) rfl ?_
        obtain ⟨b1, b2, b3, b4⟩ := go (Grow.refl w3 (.slice (some ⟨g5, 0, none⟩) 0 0))
        repeat (first | ((with_reducible refine WL.topT ?_ ?_); omega) | ((with_reducible refine WL.topF ?_ ?_); omega) | ((with_reducible refine WL.top64 ?_ ?_); omega) | refine WC.seq ?_ | refine WC.block ?_ | refine WC.region ?_ | refine WL.nil ?_ | refine WC.skip ?_ | refine WC.exit ?_ | refine WC.ret ?_ | refine WQ.then rfl ?_ | refine WQ.thenExit ?_ | refine WQ.thenRet ?_ | refine WQ.blk ?_ | refine WQ.blkRet ?_ | refine WQ.blkHere rfl ?_ | refine WQ.blkOther rfl ?_ | refine WL.pure rfl rfl rfl rfl ?_ | refine WL.on rfl rfl ?_ | refine WL.off rfl rfl rfl ?_ | refine WC.condTrue rfl ?_ | refine WC.condFalse rfl ?_)
        refine WL.store rfl rfl rfl rfl rfl rfl (by kernel_rfl) (b1.cell 4 (by simp)) (b1.free 4) ?_
        refine WL.nil ?_
        exact WQ.meet (.slice (some ⟨g5, 0, none⟩) 0 0) ⟨rfl, rfl, trivial⟩ ⟨b2, b3, b4, ⟨_, 0, by rw [hn0], by omega, by omega, (fun h => by cases h), fun h => by omega⟩, rfl⟩
      · have hown : OwnV 9 1 w3 (fun g => g = g5) (.slice (some ⟨g5, 0, none⟩) 0 0) 0 [] := ⟨⟨by simp, .inr ⟨g5, 0, #[], rfl, Nat.zero_le _, hb3, Nat.le_refl _, by unfold maxLen; omega, by simp, by simp⟩⟩, fun _ h => (List.not_mem_nil h).elim, fun g h => by cases h; rfl⟩
        have hsl := strs_slV (w := w3) (v := .slice np v.names.length nc) (l := v.names) (Strs.below (w := w) ⟨np, nc, rfl, nl, nm, nz, nr⟩ hw3) (by omega)
        refine WL.appV rfl rfl rfl rfl elemS1 rfl hown rfl hsl (by omega) (by omega) fun sx wx ho hg => ?_
        obtain ⟨b1, b2, b3, b4⟩ := go hg
        have hone : sx.oneCell' = true := by obtain ⟨_, _, rfl, -⟩ := ho.slice; rfl
        repeat (first | ((with_reducible refine WL.topT ?_ ?_); omega) | ((with_reducible refine WL.topF ?_ ?_); omega) | ((with_reducible refine WL.top64 ?_ ?_); omega) | refine WC.seq ?_ | refine WC.block ?_ | refine WC.region ?_ | refine WL.nil ?_ | refine WC.skip ?_ | refine WC.exit ?_ | refine WC.ret ?_ | refine WQ.then rfl ?_ | refine WQ.thenExit ?_ | refine WQ.thenRet ?_ | refine WQ.blk ?_ | refine WQ.blkRet ?_ | refine WQ.blkHere rfl ?_ | refine WQ.blkOther rfl ?_ | refine WL.pure rfl rfl rfl rfl ?_ | refine WL.on rfl rfl ?_ | refine WL.off rfl rfl rfl ?_ | refine WC.condTrue rfl ?_ | refine WC.condFalse rfl ?_)
        refine WL.store rfl rfl rfl rfl rfl hone (by kernel_rfl) (b1.cell 4 (by simp)) (b1.free 4) ?_
        refine WL.nil ?_
        refine WQ.meet sx ⟨rfl, rfl, trivial⟩ ⟨b2, b3, b4, ?_, hone⟩
        have hset : Keep (fun b => b ≠ g1) wx (wx.setCell ⟨g1, 4, none⟩ sx) := (Keep.refl _ wx).setCell (fun hk => hk rfl) _
        simp only [Nat.zero_add, List.nil_append] at ho
        refine (own_strs (O := fun b => w.heap.size ≤ b ∧ b ≠ g1 ∧ b ≠ g2) (ho.mono fun b hb => by omega) fun s hs => ?_).keep hset (fun b hb _ => hb.2.1) (fun b hb => hb) fun _ _ h => h
        obtain ⟨j, hj, rfl⟩ := List.getElem_of_mem hs
        simpa [hj] using nz j hj
    rintro sx w5 ⟨C1, C2, hw5, hnm, hsx⟩
    have hz5 := hw5.size
    have hgg : g1 ≠ g2 := by omega
    have hg1w := C1.lt
    have hg2w := C2.lt
    repeat (first | ((with_reducible refine WL.topT ?_ ?_); omega) | ((with_reducible refine WL.topF ?_ ?_); omega) | ((with_reducible refine WL.top64 ?_ ?_); omega) | refine WC.seq ?_ | refine WC.block ?_ | refine WC.region ?_ | refine WL.nil ?_ | refine WC.skip ?_ | refine WC.exit ?_ | refine WC.ret ?_ | refine WQ.then rfl ?_ | refine WQ.thenExit ?_ | refine WQ.thenRet ?_ | refine WQ.blk ?_ | refine WQ.blkRet ?_ | refine WQ.blkHere rfl ?_ | refine WQ.blkOther rfl ?_ | refine WL.pure rfl rfl rfl rfl ?_ | refine WL.on rfl rfl ?_ | refine WL.off rfl rfl rfl ?_ | refine WC.condTrue rfl ?_ | refine WC.condFalse rfl ?_)
    refine WC.loop (fun i : Nat × Value => [(1, .pointer (some ⟨g1, 0, none⟩)), (2, .pointer (some ⟨g2, 0, none⟩)), (3, i.2), (4, .int .i64 i.1)])
      (fun i wr => i.1 ≤ v.kids.length ∧ Below w5.heap.size w5 wr ∧ ∃ q : Nat → Prop, OwnE 25 6 noV (IsVo q f wr) (fun b => w5.heap.size ≤ b) wr i.2 (v.kids.take i.1) ∧ ∀ b, q b → w5.heap.size ≤ b ∧ b < wr.heap.size ∧ i.2.ownBlock ≠ some b) (fun i => v.kids.length - i.1) (0, .slice none 0 0)
      ⟨rfl, rfl, rfl, rfl, trivial⟩ ⟨Nat.zero_le _, Below.refl _ _, fun _ => False, OwnE.nil _ _ _ _ _ _, fun b h => h.elim⟩ ?_
    rintro ⟨i, vk⟩ wr ⟨hi, hbr, q, hoE, hq⟩
    simp only at hi hbr hoE hq ⊢
    have D1 := C1.below hbr hg1w
    have D2 := C2.below hbr hg2w
    have hwr : Below w.heap.size w wr := hw5.trans (hbr.mono hz5)
    have hzr := hbr.size
    repeat (first | ((with_reducible refine WL.topT ?_ ?_); omega) | ((with_reducible refine WL.topF ?_ ?_); omega) | ((with_reducible refine WL.top64 ?_ ?_); omega) | refine WC.seq ?_ | refine WC.block ?_ | refine WC.region ?_ | refine WL.nil ?_ | refine WC.skip ?_ | refine WC.exit ?_ | refine WC.ret ?_ | refine WQ.then rfl ?_ | refine WQ.thenExit ?_ | refine WQ.thenRet ?_ | refine WQ.blk ?_ | refine WQ.blkRet ?_ | refine WQ.blkHere rfl ?_ | refine WQ.blkOther rfl ?_ | refine WL.pure rfl rfl rfl rfl ?_ | refine WL.on rfl rfl ?_ | refine WL.off rfl rfl rfl ?_ | refine WC.condTrue rfl ?_ | refine WC.condFalse rfl ?_)
    refine WL.load rfl rfl rfl rfl rfl rfl (D1.cell 5 (by simp)) ?_
    by_cases hik : i < v.kids.length
    · obtain ⟨kb, ko, rfl, hkb, hcells⟩ := hrow (by omega)
      obtain ⟨c, hc6, hci, hcr⟩ := hcells i hik
      repeat (first | ((with_reducible refine WL.topT ?_ ?_); omega) | ((with_reducible refine WL.topF ?_ ?_); omega) | ((with_reducible refine WL.top64 ?_ ?_); omega) | refine WC.seq ?_ | refine WC.block ?_ | refine WC.region ?_ | refine WL.nil ?_ | refine WC.skip ?_ | refine WC.exit ?_ | refine WC.ret ?_ | refine WQ.then rfl ?_ | refine WQ.thenExit ?_ | refine WQ.thenRet ?_ | refine WQ.blk ?_ | refine WQ.blkRet ?_ | refine WQ.blkHere rfl ?_ | refine WQ.blkOther rfl ?_ | refine WL.pure rfl rfl rfl rfl ?_ | refine WL.on rfl rfl ?_ | refine WL.off rfl rfl rfl ?_ | refine WC.condTrue rfl ?_ | refine WC.condFalse rfl ?_)
      refine WL.load rfl rfl rfl rfl rfl rfl (D1.cell 5 (by simp)) ?_
      repeat (first | ((with_reducible refine WL.topT ?_ ?_); omega) | ((with_reducible refine WL.topF ?_ ?_); omega) | ((with_reducible refine WL.top64 ?_ ?_); omega) | refine WC.seq ?_ | refine WC.block ?_ | refine WC.region ?_ | refine WL.nil ?_ | refine WC.skip ?_ | refine WC.exit ?_ | refine WC.ret ?_ | refine WQ.then rfl ?_ | refine WQ.thenExit ?_ | refine WQ.thenRet ?_ | refine WQ.blk ?_ | refine WQ.blkRet ?_ | refine WQ.blkHere rfl ?_ | refine WQ.blkOther rfl ?_ | refine WL.pure rfl rfl rfl rfl ?_ | refine WL.on rfl rfl ?_ | refine WL.off rfl rfl rfl ?_ | refine WC.condTrue rfl ?_ | refine WC.condFalse rfl ?_)
      refine WL.idx i (ko + i * 6) rfl rfl rfl rfl rfl rfl rfl rfl hik rfl ?_
      refine WL.loadMid rfl rfl rfl rfl rfl rfl (fun j u hu => (hwr.cell (p := ⟨kb, ko + i * 6 + j, none⟩) hkb).trans (hcr j u hu)) hc6 ?_
      refine WL.call rfl rfl rfl rfl rfl Try.func14 rfl (by kernel_rfl) (clone_any hB f (hci.below hwr) (hms _ (by simp [hik]))) ?_
      rintro _ w6 ⟨hb6, c6, rfl, hv6⟩
      refine ⟨_, rfl, ?_⟩
      have hz6 := hb6.size
      refine WL.lit1 rfl rfl rfl rfl rfl rfl rfl hv6.len ⟨by omega, by omega⟩ (by kernel_rfl) fun g7 w7 hf7 => ?_
      have hz7 := hf7.size
      have hk7 : Below wr.heap.size wr w7 := hb6.trans (hf7.below.mono hz6)
      have hoE7 : OwnE 25 6 noV (IsVo (fun b => q b ∨ (wr.heap.size ≤ b ∧ b < w7.heap.size)) f w7) (fun b => w5.heap.size ≤ b) w7 vk (v.kids.take i) :=
        hoE.keep (Keep.of_below hk7) (fun g hg => hoE.lt hg) (fun _ h => h) fun x cs hx => hx.keep (Keep.of_below hk7) (fun b hb _ => (hq b hb).2.1) fun b hb => .inl hb
      have hv7 : IsVo (fun b => q b ∨ (wr.heap.size ≤ b ∧ b < w7.heap.size)) f w7 (v.kids.getD i noV) c6 := hv6.there.keep (Keep.of_below hf7.below) (fun b _ h => h) fun b hb => .inr ⟨hb.1, by omega⟩
      have hlt : (v.kids.take i).length ≤ i := by rw [List.length_take]; omega
      refine WL.snoc rfl rfl rfl rfl elemV6 rfl hoE7 rfl hf7.blk hv6.one hv6.len hv7 (by omega) (by omega) fun vk8 w8 ho8 hg8 => ?_
      have hbel8 : Below w5.heap.size w5 w8 := (hbr.trans (hk7.mono hzr)).trans (hg8.old (by omega) fun g hg => hoE7.own hg)
      have hq8 : ∀ b, (q b ∨ (wr.heap.size ≤ b ∧ b < w7.heap.size)) → w5.heap.size ≤ b ∧ b < w7.heap.size ∧ vk.ownBlock ≠ some b := fun b hb => hb.elim (fun h => by
          obtain ⟨h1, h2, h3⟩ := hq b h
          exact ⟨h1, by omega, h3⟩) fun h => ⟨by omega, h.2, fun e => by have := hoE.lt e; omega⟩
      have htk : v.kids.take (i + 1) = v.kids.take i ++ [v.kids.getD i noV] := by
        rw [List.take_add_one]
        simp [hik]
      repeat (first | ((with_reducible refine WL.topT ?_ ?_); omega) | ((with_reducible refine WL.topF ?_ ?_); omega) | ((with_reducible refine WL.top64 ?_ ?_); omega) | refine WC.seq ?_ | refine WC.block ?_ | refine WC.region ?_ | refine WL.nil ?_ | refine WC.skip ?_ | refine WC.exit ?_ | refine WC.ret ?_ | refine WQ.then rfl ?_ | refine WQ.thenExit ?_ | refine WQ.thenRet ?_ | refine WQ.blk ?_ | refine WQ.blkRet ?_ | refine WQ.blkHere rfl ?_ | refine WQ.blkOther rfl ?_ | refine WL.pure rfl rfl rfl rfl ?_ | refine WL.on rfl rfl ?_ | refine WL.off rfl rfl rfl ?_ | refine WC.condTrue rfl ?_ | refine WC.condFalse rfl ?_)
      refine WQ.again (i + 1, vk8) ⟨rfl, rfl, rfl, rfl, trivial⟩ ⟨hik, hbel8, (fun b => q b ∨ (wr.heap.size ≤ b ∧ b < w7.heap.size)), ?_, fun b hb => ?_⟩ (by show v.kids.length - (i + 1) < v.kids.length - i; omega)
      · show OwnE _ _ _ _ _ _ _ (v.kids.take (i + 1))
        rw [htk]
        exact ho8.keep (Keep.refl (fun _ => True) w8) (fun _ _ => trivial) (fun b hb => by omega) fun x cs hx => hx.keep hg8.1 (fun b hb _ => (hq8 b hb).2) fun b hb => hb
      · obtain ⟨h1, h2, h3⟩ := hq8 b hb
        exact ⟨h1, Nat.lt_of_lt_of_le h2 hg8.1.size, fun e => (hg8.2 b e).elim h3 fun h4 => by omega⟩
    · obtain rfl : i = v.kids.length := by omega
      rw [List.take_length] at hoE
      have hvk := hoE.one
      have hset : Keep (fun b => b ≠ g1) wr (wr.setCell ⟨g1, 5, none⟩ vk) := (Keep.refl _ wr).setCell (fun hk => hk rfl) _
      repeat (first | ((with_reducible refine WL.topT ?_ ?_); omega) | ((with_reducible refine WL.topF ?_ ?_); omega) | ((with_reducible refine WL.top64 ?_ ?_); omega) | refine WC.seq ?_ | refine WC.block ?_ | refine WC.region ?_ | refine WL.nil ?_ | refine WC.skip ?_ | refine WC.exit ?_ | refine WC.ret ?_ | refine WQ.then rfl ?_ | refine WQ.thenExit ?_ | refine WQ.thenRet ?_ | refine WQ.blk ?_ | refine WQ.blkRet ?_ | refine WQ.blkHere rfl ?_ | refine WQ.blkOther rfl ?_ | refine WL.pure rfl rfl rfl rfl ?_ | refine WL.on rfl rfl ?_ | refine WL.off rfl rfl rfl ?_ | refine WC.condTrue rfl ?_ | refine WC.condFalse rfl ?_)
      refine WL.store rfl rfl rfl rfl rfl hvk (by kernel_rfl) (D1.cell 5 (by simp)) (D1.free 5) ?_
      have E1 := D1.set 5 vk
      have E2 : VBlk 25 (wr.setCell ⟨g1, 5, none⟩ vk) g2 zCells := D2.other _ _ (by show g2 ≠ g1; omega)
      have hwE : Below w.heap.size w (wr.setCell ⟨g1, 5, none⟩ vk) := Keep.below (Keep.setCell (Keep.of_below hwr) (fun hk => by simp only at hk; omega) _)
      have hnmE := (hnm.there (fun _ _ h => h)).keep (O' := fun b => (w.heap.size ≤ b ∧ b ≠ g1 ∧ b ≠ g2)) (Keep.of_below hbr) (fun b hb hlt => hlt) (fun b hb => hb.1) fun _ _ h => h
      have hnmF := hnmE.keep hset (fun b hb _ => hb.2.1) (fun b hb => hb) fun _ _ h => h
      have hkdF : Els 6 noV (IsVo (fun b => w5.heap.size ≤ b) f (wr.setCell ⟨g1, 5, none⟩ vk)) (fun b => w5.heap.size ≤ b) (wr.setCell ⟨g1, 5, none⟩ vk) vk v.kids :=
        hoE.els.keep hset (fun b hb _ => by omega) (fun b hb => hb) fun x cs hx => hx.keep hset (fun b hb _ => by have := (hq b hb).1; omega) fun b hb => (hq b hb).1
      generalize wr.setCell ⟨g1, 5, none⟩ vk = w9 at E1 E2 hwE hnmF hkdF
      simp only [List.set_cons_zero, List.set_cons_succ] at E1
      repeat (first | ((with_reducible refine WL.topT ?_ ?_); omega) | ((with_reducible refine WL.topF ?_ ?_); omega) | ((with_reducible refine WL.top64 ?_ ?_); omega) | refine WC.seq ?_ | refine WC.block ?_ | refine WC.region ?_ | refine WL.nil ?_ | refine WC.skip ?_ | refine WC.exit ?_ | refine WC.ret ?_ | refine WQ.then rfl ?_ | refine WQ.thenExit ?_ | refine WQ.thenRet ?_ | refine WQ.blk ?_ | refine WQ.blkRet ?_ | refine WQ.blkHere rfl ?_ | refine WQ.blkOther rfl ?_ | refine WL.pure rfl rfl rfl rfl ?_ | refine WL.on rfl rfl ?_ | refine WL.off rfl rfl rfl ?_ | refine WC.condTrue rfl ?_ | refine WC.condFalse rfl ?_)
      refine WL.loadMid rfl rfl rfl rfl rfl rfl (VBlk.rangeAt E1) rfl ?_
      have hone : Ones [Value.int .i64 v.k, .int .i64 v.n, .int .i64 v.s, .string v.t, sx, vk] := by
        intro u hu
        simp at hu
        rcases hu with rfl | rfl | rfl | rfl | rfl | rfl <;> first | rfl | assumption
      refine WL.storeRow rfl rfl rfl rfl rfl rfl E2 rfl rfl hone ?_
      repeat (first | ((with_reducible refine WL.topT ?_ ?_); omega) | ((with_reducible refine WL.topF ?_ ?_); omega) | ((with_reducible refine WL.top64 ?_ ?_); omega) | refine WC.seq ?_ | refine WC.block ?_ | refine WC.region ?_ | refine WL.nil ?_ | refine WC.skip ?_ | refine WC.exit ?_ | refine WC.ret ?_ | refine WQ.then rfl ?_ | refine WQ.thenExit ?_ | refine WQ.thenRet ?_ | refine WQ.blk ?_ | refine WQ.blkRet ?_ | refine WQ.blkHere rfl ?_ | refine WQ.blkOther rfl ?_ | refine WL.pure rfl rfl rfl rfl ?_ | refine WL.on rfl rfl ?_ | refine WL.off rfl rfl rfl ?_ | refine WC.condTrue rfl ?_ | refine WC.condFalse rfl ?_)
      have hset2 : ∀ a, Keep (fun b => b ≠ g2) w9 (w9.setRow g2 a) := fun a => Keep.setRow (Keep.refl _ w9) (fun hk => hk rfl) a
      refine WQ.retC rfl rfl rfl rfl (E2.setRow _) ⟨Keep.below (Keep.setRow (Keep.of_below hwE) (fun hk => by omega) _), _, rfl, sx, vk, rfl, wk, wn, ws, wt, hnmF.keep (hset2 _) (fun b hb _ => hb.2.2) (fun b hb => hb.1) fun _ _ h => h, ?_⟩
      exact hkdF.keep (hset2 _) (fun b hb _ => by omega) (fun b hb => by omega) fun x cs hx => hx.keep (hset2 _) (fun b hb _ => by omega) fun b hb => by omega
end K
end Go.Proofs.Ytnboloilljlfiaa

/- CodecEncodes (chapter 7): the law. -/
namespace Go.Proofs.Ytnboloilljlfiaa
open Go.RowKit
namespace K

theorem enc_len' {f : Nat} {v : V} {n : Nat} (hs : Sml f v) (h : ¬ 3000 < grt 3000 f v n) (hc : chk 16 v = 0) : (encV 16 v).length ≤ 70368744177664 := by
  have := (grt_enc (B := 3000) f 16 v n hs hc (by omega)).2
  omega
set_option maxHeartbeats 8000000 in
theorem codecEncodes_law {f : Nat} {w : World} {v : V} {c1 : List Value} (h : IsV f w v c1) (hm : Sml f v) :
    Calls Try.prog 6 #[.agg c1.toArray] w fun e w' => e = .returned (.bool true) ∧ Below w.heap.size w w' := by
  have hl1 := h.len
  refine enter (args := [.agg c1.toArray]) Try.func6 rfl Try.ntmps6 rfl ?_
  repeat (first | ((with_reducible refine WL.topT ?_ ?_); omega) | ((with_reducible refine WL.topF ?_ ?_); omega) | ((with_reducible refine WL.top64 ?_ ?_); omega) | refine WC.seq ?_ | refine WC.block ?_ | refine WC.region ?_ | refine WL.nil ?_ | refine WC.skip ?_ | refine WC.exit ?_ | refine WC.ret ?_ | refine WQ.then rfl ?_ | refine WQ.thenExit ?_ | refine WQ.thenRet ?_ | refine WQ.blk ?_ | refine WQ.blkRet ?_ | refine WQ.blkHere rfl ?_ | refine WQ.blkOther rfl ?_ | refine WL.pure rfl rfl rfl rfl ?_ | refine WL.on rfl rfl ?_ | refine WL.off rfl rfl rfl ?_ | refine WC.condTrue rfl ?_ | refine WC.condFalse rfl ?_)
  refine WL.box rfl rfl rfl rfl rfl fun g1 w1 hf1 => ?_
  have hf1' : Fresh w g1 w1 25 c1 := hf1
  clear hf1
  repeat (first | ((with_reducible refine WL.topT ?_ ?_); omega) | ((with_reducible refine WL.topF ?_ ?_); omega) | ((with_reducible refine WL.top64 ?_ ?_); omega) | refine WC.seq ?_ | refine WC.block ?_ | refine WC.region ?_ | refine WL.nil ?_ | refine WC.skip ?_ | refine WC.exit ?_ | refine WC.ret ?_ | refine WQ.then rfl ?_ | refine WQ.thenExit ?_ | refine WQ.thenRet ?_ | refine WQ.blk ?_ | refine WQ.blkRet ?_ | refine WQ.blkHere rfl ?_ | refine WQ.blkOther rfl ?_ | refine WL.pure rfl rfl rfl rfl ?_ | refine WL.on rfl rfl ?_ | refine WL.off rfl rfl rfl ?_ | refine WC.condTrue rfl ?_ | refine WC.condFalse rfl ?_)
  refine WL.alloc (z := .int .i64 0) rfl rfl rfl rfl (fun _ => by kernel_rfl) fun pb w3 hf3 => ?_
  have hf3' : Fresh w1 pb w3 3 [.int .i64 0] := hf3
  clear hf3
  have hw3 : Below w.heap.size w w3 := hf1'.below.trans (hf3'.below.mono hf1'.below.size)
  have B1 := hf1'.blk.below hf3'.below hf1'.blk.lt
  have hpb : w.heap.size ≤ pb := by have := hf3'.eq; have := hf1'.below.size; omega
  have hg1 : w.heap.size ≤ g1 ∧ g1 ≠ pb := by have := hf1'.eq; have := hf3'.eq; have := hf1'.size; omega
  have Bp := hf3'.blk
  clear hf1' hf3'
  repeat (first | ((with_reducible refine WL.topT ?_ ?_); omega) | ((with_reducible refine WL.topF ?_ ?_); omega) | ((with_reducible refine WL.top64 ?_ ?_); omega) | refine WC.seq ?_ | refine WC.block ?_ | refine WC.region ?_ | refine WL.nil ?_ | refine WC.skip ?_ | refine WC.exit ?_ | refine WC.ret ?_ | refine WQ.then rfl ?_ | refine WQ.thenExit ?_ | refine WQ.thenRet ?_ | refine WQ.blk ?_ | refine WQ.blkRet ?_ | refine WQ.blkHere rfl ?_ | refine WQ.blkOther rfl ?_ | refine WL.pure rfl rfl rfl rfl ?_ | refine WL.on rfl rfl ?_ | refine WL.off rfl rfl rfl ?_ | refine WC.condTrue rfl ?_ | refine WC.condFalse rfl ?_)
  refine WL.store (v := .int .i64 0) rfl rfl rfl rfl rfl rfl (by kernel_rfl) (Bp.cell 0 (by simp)) (Bp.free 0) ?_
  have Bp4 := Bp.set 0 (.int .i64 0)
  have B14 : VBlk 25 (w3.setCell ⟨pb, 0, none⟩ (.int .i64 0)) g1 c1 := B1.other _ _ hg1.2
  have hw4 : Below w.heap.size w (w3.setCell ⟨pb, 0, none⟩ (.int .i64 0)) := Keep.below ((Keep.of_below hw3).setCell (fun hk => by simp only at hk; omega) _)
  generalize w3.setCell ⟨pb, 0, none⟩ (.int .i64 0) = w4 at Bp4 B14 hw4
  simp only [List.set_cons_zero] at Bp4
  clear B1 Bp hw3
  repeat (first | ((with_reducible refine WL.topT ?_ ?_); omega) | ((with_reducible refine WL.topF ?_ ?_); omega) | ((with_reducible refine WL.top64 ?_ ?_); omega) | refine WC.seq ?_ | refine WC.block ?_ | refine WC.region ?_ | refine WL.nil ?_ | refine WC.skip ?_ | refine WC.exit ?_ | refine WC.ret ?_ | refine WQ.then rfl ?_ | refine WQ.thenExit ?_ | refine WQ.thenRet ?_ | refine WQ.blk ?_ | refine WQ.blkRet ?_ | refine WQ.blkHere rfl ?_ | refine WQ.blkOther rfl ?_ | refine WL.pure rfl rfl rfl rfl ?_ | refine WL.on rfl rfl ?_ | refine WL.off rfl rfl rfl ?_ | refine WC.condTrue rfl ?_ | refine WC.condFalse rfl ?_)
  refine WL.loadMid rfl rfl rfl rfl rfl rfl (VBlk.rangeAt B14) hl1 ?_
  refine WL.call rfl rfl rfl rfl rfl Try.func7 rfl (by kernel_rfl) (great_any (n := 0) f h hm hw4 hpb Bp4 (by omega)) ?_
  rintro _ w5 ⟨rfl, Bp5, hk5⟩
  refine ⟨_, rfl, ?_⟩
  have hw5 : Below w.heap.size w w5 := hw4.trans (Keep.below (Keep.mono hk5 fun b (hb : b < w.heap.size) => ⟨Nat.lt_of_lt_of_le hb hw4.size, by omega⟩))
  have B15 := B14.keep hk5 ⟨B14.lt, hg1.2⟩
  by_cases hgr1 : 3000 < grt 3000 f v 0
  · repeat (first | ((with_reducible refine WL.topT ?_ ?_); omega) | ((with_reducible refine WL.topF ?_ ?_); omega) | ((with_reducible refine WL.top64 ?_ ?_); omega) | refine WC.seq ?_ | refine WC.block ?_ | refine WC.region ?_ | refine WL.nil ?_ | refine WC.skip ?_ | refine WC.exit ?_ | refine WC.ret ?_ | refine WQ.then rfl ?_ | refine WQ.thenExit ?_ | refine WQ.thenRet ?_ | refine WQ.blk ?_ | refine WQ.blkRet ?_ | refine WQ.blkHere rfl ?_ | refine WQ.blkOther rfl ?_ | refine WL.pure rfl rfl rfl rfl ?_ | refine WL.on rfl rfl ?_ | refine WL.off rfl rfl rfl ?_ | refine WC.condTrue rfl ?_ | refine WC.condFalse rfl ?_)
    exact WQ.ret1 rfl rfl ⟨rfl, hw5⟩
  have hsm := (grt_sm (B := 3000) f v 0 hm (by omega)).2
  have hlen := enc_len' hm hgr1
  repeat (first | ((with_reducible refine WL.topT ?_ ?_); omega) | ((with_reducible refine WL.topF ?_ ?_); omega) | ((with_reducible refine WL.top64 ?_ ?_); omega) | refine WC.seq ?_ | refine WC.block ?_ | refine WC.region ?_ | refine WL.nil ?_ | refine WC.skip ?_ | refine WC.exit ?_ | refine WC.ret ?_ | refine WQ.then rfl ?_ | refine WQ.thenExit ?_ | refine WQ.thenRet ?_ | refine WQ.blk ?_ | refine WQ.blkRet ?_ | refine WQ.blkHere rfl ?_ | refine WQ.blkOther rfl ?_ | refine WL.pure rfl rfl rfl rfl ?_ | refine WL.on rfl rfl ?_ | refine WL.off rfl rfl rfl ?_ | refine WC.condTrue rfl ?_ | refine WC.condFalse rfl ?_)
  refine WL.loadMid rfl rfl rfl rfl rfl rfl (VBlk.rangeAt B15) hl1 ?_
  refine WL.call rfl rfl rfl rfl rfl Try.func14 rfl (by kernel_rfl) (clone_any (B := 3000) (by omega) f (h.below hw5) hsm) ?_
  rintro _ w6 ⟨hk6, c6, rfl, hv6⟩
  refine ⟨_, rfl, ?_⟩
  have hw6 : Below w.heap.size w w6 := hw5.trans (hk6.mono hw5.size)
  have hc6 := hv6.len
  refine WL.alloc (z := .agg zCells.toArray) rfl rfl rfl rfl (fun _ => by kernel_rfl) fun xb w7 hf7 => ?_
  have hf7' : Fresh w6 xb w7 25 zCells := hf7
  clear hf7
  refine WL.storeRow rfl rfl rfl rfl rfl rfl hf7'.blk hc6 rfl hv6.one ?_
  have hk8 : Below w6.heap.size w6 (w7.setRow xb c6.toArray) := below_setRow hf7'.below (by rw [hf7'.eq]; exact Nat.le_refl _) _
  have X8 : VBlk 25 (w7.setRow xb c6.toArray) xb c6 := hf7'.blk.setRow c6
  generalize w7.setRow xb c6.toArray = w8 at hk8 X8
  have hw8 : Below w.heap.size w w8 := hw6.trans (hk8.mono hw6.size)
  have hv8 := hv6.isV.below hk8
  have B18 := (B15.below hk6 B15.lt).below hk8 (Nat.lt_of_lt_of_le B15.lt hk6.size)
  clear hf7'
  repeat (first | ((with_reducible refine WL.topT ?_ ?_); omega) | ((with_reducible refine WL.topF ?_ ?_); omega) | ((with_reducible refine WL.top64 ?_ ?_); omega) | refine WC.seq ?_ | refine WC.block ?_ | refine WC.region ?_ | refine WL.nil ?_ | refine WC.skip ?_ | refine WC.exit ?_ | refine WC.ret ?_ | refine WQ.then rfl ?_ | refine WQ.thenExit ?_ | refine WQ.thenRet ?_ | refine WQ.blk ?_ | refine WQ.blkRet ?_ | refine WQ.blkHere rfl ?_ | refine WQ.blkOther rfl ?_ | refine WL.pure rfl rfl rfl rfl ?_ | refine WL.on rfl rfl ?_ | refine WL.off rfl rfl rfl ?_ | refine WC.condTrue rfl ?_ | refine WC.condFalse rfl ?_)
  refine WL.loadMid rfl rfl rfl rfl rfl rfl (VBlk.rangeAt X8) hc6 ?_
  refine WL.call rfl rfl rfl rfl rfl Try.func8 rfl (by kernel_rfl) (encode_any hv8 hlen) ?_
  rintro _ w9 ⟨b9, rfl, hb9, hk9, -⟩
  refine ⟨_, rfl, ?_⟩
  have hw9 : Below w.heap.size w w9 := hw8.trans (hk9.mono hw8.size)
  have X9 := X8.below hk9 X8.lt
  have B19 := B18.below hk9 B18.lt
  repeat (first | ((with_reducible refine WL.topT ?_ ?_); omega) | ((with_reducible refine WL.topF ?_ ?_); omega) | ((with_reducible refine WL.top64 ?_ ?_); omega) | refine WC.seq ?_ | refine WC.block ?_ | refine WC.region ?_ | refine WL.nil ?_ | refine WC.skip ?_ | refine WC.exit ?_ | refine WC.ret ?_ | refine WQ.then rfl ?_ | refine WQ.thenExit ?_ | refine WQ.thenRet ?_ | refine WQ.blk ?_ | refine WQ.blkRet ?_ | refine WQ.blkHere rfl ?_ | refine WQ.blkOther rfl ?_ | refine WL.pure rfl rfl rfl rfl ?_ | refine WL.on rfl rfl ?_ | refine WL.off rfl rfl rfl ?_ | refine WC.condTrue rfl ?_ | refine WC.condFalse rfl ?_)
  refine WL.loadMid rfl rfl rfl rfl rfl rfl (VBlk.rangeAt B19) hl1 ?_
  refine WL.call rfl rfl rfl rfl rfl Try.func15 rfl (by kernel_rfl) (rencode_any (h.below hw9) hlen) ?_
  rintro _ w10 ⟨b10, rfl, hb10, hk10, -⟩
  refine ⟨_, rfl, ?_⟩
  have hw10 : Below w.heap.size w w10 := hw9.trans (hk10.mono hw9.size)
  have X10 := X9.below hk10 X9.lt
  have B110 := B19.below hk10 B19.lt
  have hv10 := (hv8.below hk9).below hk10
  repeat (first | ((with_reducible refine WL.topT ?_ ?_); omega) | ((with_reducible refine WL.topF ?_ ?_); omega) | ((with_reducible refine WL.top64 ?_ ?_); omega) | refine WC.seq ?_ | refine WC.block ?_ | refine WC.region ?_ | refine WL.nil ?_ | refine WC.skip ?_ | refine WC.exit ?_ | refine WC.ret ?_ | refine WQ.then rfl ?_ | refine WQ.thenExit ?_ | refine WQ.thenRet ?_ | refine WQ.blk ?_ | refine WQ.blkRet ?_ | refine WQ.blkHere rfl ?_ | refine WQ.blkOther rfl ?_ | refine WL.pure rfl rfl rfl rfl ?_ | refine WL.on rfl rfl ?_ | refine WL.off rfl rfl rfl ?_ | refine WC.condTrue rfl ?_ | refine WC.condFalse rfl ?_)
  refine WL.loadMid rfl rfl rfl rfl rfl rfl (VBlk.rangeAt X10) hc6 ?_
  refine WL.call rfl rfl rfl rfl rfl Try.func16 rfl (by kernel_rfl) (hash_any hv10 hlen) ?_
  rintro _ w11 ⟨rfl, hk11⟩
  refine ⟨_, rfl, ?_⟩
  have hw11 : Below w.heap.size w w11 := hw10.trans (hk11.mono hw10.size)
  have hhl : (hashC (hashR v)).length = 32 := by rw [List.length_map]; exact hashR_len v
  repeat (first | ((with_reducible refine WL.topT ?_ ?_); omega) | ((with_reducible refine WL.topF ?_ ?_); omega) | ((with_reducible refine WL.top64 ?_ ?_); omega) | refine WC.seq ?_ | refine WC.block ?_ | refine WC.region ?_ | refine WL.nil ?_ | refine WC.skip ?_ | refine WC.exit ?_ | refine WC.ret ?_ | refine WQ.then rfl ?_ | refine WQ.thenExit ?_ | refine WQ.thenRet ?_ | refine WQ.blk ?_ | refine WQ.blkRet ?_ | refine WQ.blkHere rfl ?_ | refine WQ.blkOther rfl ?_ | refine WL.pure rfl rfl rfl rfl ?_ | refine WL.on rfl rfl ?_ | refine WL.off rfl rfl rfl ?_ | refine WC.condTrue rfl ?_ | refine WC.condFalse rfl ?_)
  refine WL.alloc (z := .agg (hashC Dig.Z32).toArray) rfl rfl rfl rfl (Dig.zero25) fun hb1 w12 hf12 => ?_
  have hf12' : Fresh w11 hb1 w12 45 (hashC Dig.Z32) := hf12
  clear hf12
  refine WL.storeRow rfl rfl rfl rfl rfl rfl hf12'.blk hhl (by rfl) (Ones.int _ _) ?_
  have hk13 : Below w11.heap.size w11 (w12.setRow hb1 (hashC (hashR v)).toArray) := below_setRow hf12'.below (by rw [hf12'.eq]; exact Nat.le_refl _) _
  have H13 : VBlk 45 (w12.setRow hb1 (hashC (hashR v)).toArray) hb1 (hashC (hashR v)) := hf12'.blk.setRow _
  generalize w12.setRow hb1 (hashC (hashR v)).toArray = w13 at hk13 H13
  clear hf12'
  have hk1013 : Below w10.heap.size w10 w13 := hk11.trans (hk13.mono hk11.size)
  have hw13 : Below w.heap.size w w13 := hw10.trans (hk1013.mono hw10.size)
  have X13 := X10.below hk1013 X10.lt
  have B113 := B110.below hk1013 B110.lt
  repeat (first | ((with_reducible refine WL.topT ?_ ?_); omega) | ((with_reducible refine WL.topF ?_ ?_); omega) | ((with_reducible refine WL.top64 ?_ ?_); omega) | refine WC.seq ?_ | refine WC.block ?_ | refine WC.region ?_ | refine WL.nil ?_ | refine WC.skip ?_ | refine WC.exit ?_ | refine WC.ret ?_ | refine WQ.then rfl ?_ | refine WQ.thenExit ?_ | refine WQ.thenRet ?_ | refine WQ.blk ?_ | refine WQ.blkRet ?_ | refine WQ.blkHere rfl ?_ | refine WQ.blkOther rfl ?_ | refine WL.pure rfl rfl rfl rfl ?_ | refine WL.on rfl rfl ?_ | refine WL.off rfl rfl rfl ?_ | refine WC.condTrue rfl ?_ | refine WC.condFalse rfl ?_)
  refine WL.loadMid rfl rfl rfl rfl rfl rfl (VBlk.rangeAt B113) hl1 ?_
  refine WL.call rfl rfl rfl rfl rfl Try.func17 rfl (by kernel_rfl) (rhash_any (h.below hw13) hlen) ?_
  rintro _ w14 ⟨rfl, hk14⟩
  refine ⟨_, rfl, ?_⟩
  repeat (first | ((with_reducible refine WL.topT ?_ ?_); omega) | ((with_reducible refine WL.topF ?_ ?_); omega) | ((with_reducible refine WL.top64 ?_ ?_); omega) | refine WC.seq ?_ | refine WC.block ?_ | refine WC.region ?_ | refine WL.nil ?_ | refine WC.skip ?_ | refine WC.exit ?_ | refine WC.ret ?_ | refine WQ.then rfl ?_ | refine WQ.thenExit ?_ | refine WQ.thenRet ?_ | refine WQ.blk ?_ | refine WQ.blkRet ?_ | refine WQ.blkHere rfl ?_ | refine WQ.blkOther rfl ?_ | refine WL.pure rfl rfl rfl rfl ?_ | refine WL.on rfl rfl ?_ | refine WL.off rfl rfl rfl ?_ | refine WC.condTrue rfl ?_ | refine WC.condFalse rfl ?_)
  refine WL.alloc (z := .agg (hashC Dig.Z32).toArray) rfl rfl rfl rfl (Dig.zero25) fun hb2 w15 hf15 => ?_
  have hf15' : Fresh w14 hb2 w15 45 (hashC Dig.Z32) := hf15
  clear hf15
  refine WL.storeRow rfl rfl rfl rfl rfl rfl hf15'.blk hhl (by rfl) (Ones.int _ _) ?_
  have hk16 : Below w14.heap.size w14 (w15.setRow hb2 (hashC (hashR v)).toArray) := below_setRow hf15'.below (by rw [hf15'.eq]; exact Nat.le_refl _) _
  have H16 : VBlk 45 (w15.setRow hb2 (hashC (hashR v)).toArray) hb2 (hashC (hashR v)) := hf15'.blk.setRow _
  generalize w15.setRow hb2 (hashC (hashR v)).toArray = w16 at hk16 H16
  clear hf15'
  have hk1316 : Below w13.heap.size w13 w16 := hk14.trans (hk16.mono hk14.size)
  have hw16 : Below w.heap.size w w16 := hw13.trans (hk1316.mono hw13.size)
  have hk1016 : Below w10.heap.size w10 w16 := hk1013.trans (hk1316.mono hk1013.size)
  have X16 := X10.below hk1016 X10.lt
  have B116 := B110.below hk1016 B110.lt
  have H116 := H13.below hk1316 H13.lt
  have hv16 := hv10.below hk1016
  repeat (first | ((with_reducible refine WL.topT ?_ ?_); omega) | ((with_reducible refine WL.topF ?_ ?_); omega) | ((with_reducible refine WL.top64 ?_ ?_); omega) | refine WC.seq ?_ | refine WC.block ?_ | refine WC.region ?_ | refine WL.nil ?_ | refine WC.skip ?_ | refine WC.exit ?_ | refine WC.ret ?_ | refine WQ.then rfl ?_ | refine WQ.thenExit ?_ | refine WQ.thenRet ?_ | refine WQ.blk ?_ | refine WQ.blkRet ?_ | refine WQ.blkHere rfl ?_ | refine WQ.blkOther rfl ?_ | refine WL.pure rfl rfl rfl rfl ?_ | refine WL.on rfl rfl ?_ | refine WL.off rfl rfl rfl ?_ | refine WC.condTrue rfl ?_ | refine WC.condFalse rfl ?_)
  refine WL.call rfl rfl rfl rfl rfl Try.func10 rfl (by kernel_rfl) (same7_any ((hb9.below hk10).below hk1016).sl (hb10.below hk1016).sl) ?_
  rintro _ w17 ⟨rfl, hk17⟩
  refine ⟨_, rfl, ?_⟩
  have hw17 : Below w.heap.size w w17 := hw16.trans (hk17.mono hw16.size)
  refine WL.as 39 (.bool true) rfl (congrArg Value.bool (decide_eq_true rfl)) ?_
  repeat (first | ((with_reducible refine WL.topT ?_ ?_); omega) | ((with_reducible refine WL.topF ?_ ?_); omega) | ((with_reducible refine WL.top64 ?_ ?_); omega) | refine WC.seq ?_ | refine WC.block ?_ | refine WC.region ?_ | refine WL.nil ?_ | refine WC.skip ?_ | refine WC.exit ?_ | refine WC.ret ?_ | refine WQ.then rfl ?_ | refine WQ.thenExit ?_ | refine WQ.thenRet ?_ | refine WQ.blk ?_ | refine WQ.blkRet ?_ | refine WQ.blkHere rfl ?_ | refine WQ.blkOther rfl ?_ | refine WL.pure rfl rfl rfl rfl ?_ | refine WL.on rfl rfl ?_ | refine WL.off rfl rfl rfl ?_ | refine WC.condTrue rfl ?_ | refine WC.condFalse rfl ?_)
  refine WL.loadMid rfl rfl rfl rfl rfl rfl (VBlk.rangeAt (H116.below hk17 H116.lt)) hhl ?_
  repeat (first | ((with_reducible refine WL.topT ?_ ?_); omega) | ((with_reducible refine WL.topF ?_ ?_); omega) | ((with_reducible refine WL.top64 ?_ ?_); omega) | refine WC.seq ?_ | refine WC.block ?_ | refine WC.region ?_ | refine WL.nil ?_ | refine WC.skip ?_ | refine WC.exit ?_ | refine WC.ret ?_ | refine WQ.then rfl ?_ | refine WQ.thenExit ?_ | refine WQ.thenRet ?_ | refine WQ.blk ?_ | refine WQ.blkRet ?_ | refine WQ.blkHere rfl ?_ | refine WQ.blkOther rfl ?_ | refine WL.pure rfl rfl rfl rfl ?_ | refine WL.on rfl rfl ?_ | refine WL.off rfl rfl rfl ?_ | refine WC.condTrue rfl ?_ | refine WC.condFalse rfl ?_)
  refine WL.loadMid rfl rfl rfl rfl rfl rfl (VBlk.rangeAt (H16.below hk17 H16.lt)) hhl ?_
  refine WL.on rfl rfl ?_
  refine WL.eqlH rfl rfl rfl rfl rfl rfl (hashR_len v) (hashR_len v) ?_
  refine WL.as 48 (.bool true) rfl (congrArg Value.bool (decide_eq_true rfl)) ?_
  repeat (first | ((with_reducible refine WL.topT ?_ ?_); omega) | ((with_reducible refine WL.topF ?_ ?_); omega) | ((with_reducible refine WL.top64 ?_ ?_); omega) | refine WC.seq ?_ | refine WC.block ?_ | refine WC.region ?_ | refine WL.nil ?_ | refine WC.skip ?_ | refine WC.exit ?_ | refine WC.ret ?_ | refine WQ.then rfl ?_ | refine WQ.thenExit ?_ | refine WQ.thenRet ?_ | refine WQ.blk ?_ | refine WQ.blkRet ?_ | refine WQ.blkHere rfl ?_ | refine WQ.blkOther rfl ?_ | refine WL.pure rfl rfl rfl rfl ?_ | refine WL.on rfl rfl ?_ | refine WL.off rfl rfl rfl ?_ | refine WC.condTrue rfl ?_ | refine WC.condFalse rfl ?_)
  refine WL.loadMid rfl rfl rfl rfl rfl rfl (VBlk.rangeAt (X16.below hk17 X16.lt)) hc6 ?_
  repeat (first | ((with_reducible refine WL.topT ?_ ?_); omega) | ((with_reducible refine WL.topF ?_ ?_); omega) | ((with_reducible refine WL.top64 ?_ ?_); omega) | refine WC.seq ?_ | refine WC.block ?_ | refine WC.region ?_ | refine WL.nil ?_ | refine WC.skip ?_ | refine WC.exit ?_ | refine WC.ret ?_ | refine WQ.then rfl ?_ | refine WQ.thenExit ?_ | refine WQ.thenRet ?_ | refine WQ.blk ?_ | refine WQ.blkRet ?_ | refine WQ.blkHere rfl ?_ | refine WQ.blkOther rfl ?_ | refine WL.pure rfl rfl rfl rfl ?_ | refine WL.on rfl rfl ?_ | refine WL.off rfl rfl rfl ?_ | refine WC.condTrue rfl ?_ | refine WC.condFalse rfl ?_)
  refine WL.loadMid rfl rfl rfl rfl rfl rfl (VBlk.rangeAt (B116.below hk17 B116.lt)) hl1 ?_
  refine WL.on rfl rfl ?_
  refine WL.call rfl rfl rfl rfl rfl Try.func11 rfl (by kernel_rfl) (equal_any _ (hv16.below hk17) (h.below hw17)) ?_
  rintro _ w18 ⟨⟨b, rfl, hb⟩, hk18⟩
  refine ⟨_, rfl, ?_⟩
  obtain rfl : b = true := hb.2 rfl
  have hw18 : Below w.heap.size w w18 := hw17.trans (hk18.mono hw17.size)
  repeat (first | ((with_reducible refine WL.topT ?_ ?_); omega) | ((with_reducible refine WL.topF ?_ ?_); omega) | ((with_reducible refine WL.top64 ?_ ?_); omega) | refine WC.seq ?_ | refine WC.block ?_ | refine WC.region ?_ | refine WL.nil ?_ | refine WC.skip ?_ | refine WC.exit ?_ | refine WC.ret ?_ | refine WQ.then rfl ?_ | refine WQ.thenExit ?_ | refine WQ.thenRet ?_ | refine WQ.blk ?_ | refine WQ.blkRet ?_ | refine WQ.blkHere rfl ?_ | refine WQ.blkOther rfl ?_ | refine WL.pure rfl rfl rfl rfl ?_ | refine WL.on rfl rfl ?_ | refine WL.off rfl rfl rfl ?_ | refine WC.condTrue rfl ?_ | refine WC.condFalse rfl ?_)
  refine WL.call rfl rfl rfl rfl rfl Try.func9 rfl (by kernel_rfl) (known7_any w18) ?_
  rintro _ w19 ⟨rfl, hk19⟩
  refine ⟨_, rfl, ?_⟩
  repeat (first | ((with_reducible refine WL.topT ?_ ?_); omega) | ((with_reducible refine WL.topF ?_ ?_); omega) | ((with_reducible refine WL.top64 ?_ ?_); omega) | refine WC.seq ?_ | refine WC.block ?_ | refine WC.region ?_ | refine WL.nil ?_ | refine WC.skip ?_ | refine WC.exit ?_ | refine WC.ret ?_ | refine WQ.then rfl ?_ | refine WQ.thenExit ?_ | refine WQ.thenRet ?_ | refine WQ.blk ?_ | refine WQ.blkRet ?_ | refine WQ.blkHere rfl ?_ | refine WQ.blkOther rfl ?_ | refine WL.pure rfl rfl rfl rfl ?_ | refine WL.on rfl rfl ?_ | refine WL.off rfl rfl rfl ?_ | refine WC.condTrue rfl ?_ | refine WC.condFalse rfl ?_)
  exact WQ.ret1 rfl rfl ⟨rfl, hw18.trans (hk19.mono hw18.size)⟩
end K
end Go.Proofs.Ytnboloilljlfiaa

/- Values that come in: what they read as. -/
namespace Go.Proofs.Ytnboloilljlfiaa
open Go.ChangeShapes Go.WideShapes Go.ChangeAt Go.RowKit
namespace K

section
variable {H : Type} {P : Program}
/-- All weights are within reach. -/
def WOk (P : Program) (t : TypeId) (d : DataW H) : Prop := ∀ n ∈ d.weights P t, n ≤ reachBytes
theorem weightsAll_mem {e : TypeId} : ∀ {ds : List (DataW H)} {d : DataW H} {n : Nat}, d ∈ ds → n ∈ d.weights P e → n ∈ DataW.weightsAll P e ds
  | d0 :: ds, d, n, hd, hn => by
    rw [DataW.weightsAll, List.mem_append]
    rcases List.mem_cons.1 hd with rfl | hd
    · exact .inl hn
    · exact .inr (weightsAll_mem hd hn)
theorem WOk.slice {t e : TypeId} {elems spare : List (DataW H)} (hu : P.underlying t = some (.slice e)) (h : WOk P t (.slice elems spare)) : (elems.length + spare.length) * P.bytesOf e ≤ reachBytes ∧ ∀ d ∈ elems, WOk P e d := by
  unfold WOk at h
  rw [DataW.weights, hu] at h
  simp only [List.mem_cons, List.mem_append] at h
  exact ⟨h _ (.inl rfl), fun d hd n hn => h n (.inr (.inl (weightsAll_mem hd hn)))⟩
theorem WOk.agg {t : TypeId} {fs : Array Field} {parts : List (DataW H)} (hu : P.underlying t = some (.struct fs)) (h : WOk P t (.agg parts)) {i : Nat} {f : Field} {d : DataW H} (hf : fs[i]? = some f) (hd : parts[i]? = some d) : WOk P f.type d := by
  unfold WOk at h
  rw [DataW.weights, hu] at h
  exact fun n hn => h n (DataW.weights_mem_each (j := i) (by simp [hf]) hd n hn)
theorem WOk.string {t : TypeId} {l : List UInt8} (h : WOk P t (.lit (.string l) : DataW H)) : l.length ≤ reachBytes := h _ (by simp [DataW.weights])
end

section
variable {H : Type} {enc : TypeId × Value → H} {W : World} {base : Nat} {held : Bool}
theorem reach_le {n : Nat} (h : n ≤ reachBytes) : n ≤ 140737488355328 := Nat.le_trans h (by decide)

/-- A slice, opened at each place. -/
theorem open_sl2 {t e : TypeId} {fuel : Nat} {v : Value} {x : DataW H × List MemPlace} (m : Nat) (hm0 : 0 < m) (hu : Try.prog.underlying t = some (.slice e)) (hce : Try.prog.cellsOf e = m) (h : DataW.trod enc Try.prog W base (fun _ => true) held fuel t [v] = some x) :
    ∃ sp len cap, v = .slice sp len cap ∧ len ≤ cap ∧ cap ≤ 9223372036854775807 ∧ ∃ n elems rest, n < fuel ∧ (x.1 = .slice (elems.map (·.1)) rest ∨ (x.1 = .nil ∧ elems = [])) ∧ elems.length = len ∧
      ∀ i, i < len → ∃ (b o : Nat) (cs : List Value) (y : DataW H × List MemPlace), sp = some ⟨b, o, none⟩ ∧ b < W.heap.size ∧ cs.length = m ∧ W.rangeAt b (o + i * m) cs ∧ elems[i]? = some y ∧ DataW.trod enc Try.prog W base (fun _ => true) held n e cs = some y := by
  rcases DataW.trod_slice hu h with ⟨hcs, rfl⟩ | ⟨a, len, cap, elems, rest, n, rfl, hcs, rfl, hb, hl, hcap, hlen, hel, -, -⟩
  · obtain rfl : v = .slice none 0 0 := by simpa using hcs
    cases fuel with
    | zero => simp [DataW.trod] at h
    | succ f => exact ⟨none, 0, 0, rfl, Nat.le_refl _, by omega, f, [], [], by omega, .inr ⟨rfl, rfl⟩, rfl, fun i hi => absurd hi (by omega)⟩
  · obtain rfl : v = .slice (some a) len cap := by simpa using hcs
    refine ⟨some a, len, cap, rfl, hl, by unfold maxLen at hcap; exact hcap, n, elems, rest.map (·.1), by omega, .inl rfl, hlen, fun i hi => ?_⟩
    have h1 := hel i hi
    rw [hce] at h1
    obtain ⟨y, hy⟩ : ∃ y, elems[i]? = some y := ⟨elems[i], List.getElem?_eq_getElem (by omega)⟩
    rw [hy] at h1
    obtain ⟨cs, hc1, hc2⟩ := Option.bind_eq_some_iff.1 h1
    obtain ⟨-, hcl, hat⟩ := World.cells?_some hc1
    have h00 := hel 0 (by omega)
    rw [hce] at h00
    obtain ⟨y0, hy0⟩ : ∃ y, elems[0]? = some y := ⟨elems[0], List.getElem?_eq_getElem (by omega)⟩
    rw [hy0] at h00
    obtain ⟨cs0, hc01, -⟩ := Option.bind_eq_some_iff.1 h00
    obtain ⟨-, hcl0, hat0⟩ := World.cells?_some hc01
    have hx0 := hat0 0 hm0
    have e0 : (a.add (0 * m)).add 0 = a := by rw [Nat.zero_mul]; rfl
    rw [e0, List.getElem?_eq_getElem (by omega)] at hx0
    have hsp := cell_spot hx0
    obtain ⟨b, o, s⟩ := a
    simp only at hsp
    subst hsp
    refine ⟨b, o, cs, y, rfl, block_lt_of_cell hx0, hcl, fun j u hj => ?_, hy, hc2⟩
    have hjl : j < m := by
      rcases Nat.lt_or_ge j m with h | h
      · exact h
      · rw [List.getElem?_eq_none (by omega)] at hj; cases hj
    have := hat j hjl
    rw [addr_add, addr_add] at this
    rw [this]; exact hj

theorem Six.mono {P P' : V → List Value → Prop} {w : World} {v : Value} {l : List V} (h : Six P w v l) (hP : ∀ x cs, P x cs → P' x cs) : Six P' w v l := by
  obtain ⟨sp, cap, h1, h2, h3, h4⟩ := h
  refine ⟨sp, cap, h1, h2, h3, fun h0 => ?_⟩
  obtain ⟨b, o, e, hlt, hr⟩ := h4 h0
  refine ⟨b, o, e, hlt, fun j hj => ?_⟩
  obtain ⟨cs, hc, hp, hat⟩ := hr j hj
  exact ⟨cs, hc, hP _ _ hp, hat⟩
theorem IsV.mono {w : World} : ∀ {f f' : Nat} {v : V} {cs : List Value}, f ≤ f' → IsV f w v cs → IsV f' w v cs
  | 0, _, _, _, _, h => h.elim
  | f + 1, f', v, cs, hf, h => by
    obtain ⟨g, rfl⟩ : ∃ g, f' = g + 1 := ⟨f' - 1, by omega⟩
    obtain ⟨sn, sk, h1, h2, h3, h4, h5, h6, h7⟩ := h
    exact ⟨sn, sk, h1, h2, h3, h4, h5, h6, Six.mono h7 fun _ _ hp => IsV.mono (by omega) hp⟩
theorem Sml.mono : ∀ {f f' : Nat} {v : V}, f ≤ f' → Sml f v → Sml f' v
  | 0, _, _, _, h => h.elim
  | f + 1, f', v, hf, h => by
    obtain ⟨g, rfl⟩ : ∃ g, f' = g + 1 := ⟨f' - 1, by omega⟩
    exact ⟨h.1, h.2.1, fun x hx => Sml.mono (by omega) (h.2.2 x hx)⟩

theorem cellsV : Try.prog.cellsOf 25 = 6 := by kernel_rfl
theorem cellsI : Try.prog.cellsOf 3 = 1 := by kernel_rfl
theorem cellsS : Try.prog.cellsOf 9 = 1 := by kernel_rfl
theorem cellsSS : Try.prog.cellsOf 22 = 1 := by kernel_rfl
theorem cellsVV : Try.prog.cellsOf 23 = 1 := by kernel_rfl
theorem bytesS : Try.prog.bytesOf 9 = 16 := by kernel_rfl
theorem bytesV : Try.prog.bytesOf 25 = 88 := by kernel_rfl

theorem open_strs2 {fuel : Nat} {v : Value} {x : DataW H × List MemPlace} (h : DataW.trod enc Try.prog W base (fun _ => true) held fuel 22 [v] = some x) (hz : WOk Try.prog 22 x.1) :
    ∃ l, Strs W v l ∧ l.length ≤ 140737488355328 := by
  obtain ⟨sp, len, cap, rfl, hl, hc, n, elems, rest, -, hx, hlen, hel⟩ := open_sl2 1 (by omega) Try.underlying22 cellsS h
  have key : ∀ i, i < len → ∃ (s : ByteArray), s.size ≤ 140737488355328 ∧ ∃ b o, sp = some ⟨b, o, none⟩ ∧ b < W.heap.size ∧ W.cell? ⟨b, o + i, none⟩ = some (.string s) := by
    intro i hi
    obtain ⟨b, o, cs, y, hsp, hb, hcl, hat, hy, ht⟩ := hel i hi
    obtain ⟨s, rfl, rfl, -⟩ := DataW.trod_string Try.underlying9 ht
    have hw : WOk Try.prog 9 (.lit (.string s.data.toList) : DataW H) := by
      rcases hx with hx | ⟨-, rfl⟩
      · rw [hx] at hz
        exact (hz.slice Try.underlying22).2 _ (List.mem_map.2 ⟨_, List.mem_of_getElem? hy, rfl⟩)
      · cases hy
    have := hw.string
    rw [Array.length_toList] at this
    refine ⟨s, reach_le this, b, o, hsp, hb, ?_⟩
    have := hat 0 _ rfl
    rw [Nat.mul_one] at this
    exact this
  have : Inhabited ByteArray := ⟨noT⟩
  obtain ⟨g, hg⟩ := Deep.choose_lt key
  have hget : ∀ k, k < len → ((List.range len).map g).getD k noT = g k := fun k hk => by simp [hk]
  have hll : ((List.range len).map g).length = len := by simp
  refine ⟨(List.range len).map g, ⟨sp, cap, by rw [hll], by rw [hll]; exact hl, hc, fun j hj => ?_, fun h0 => ?_⟩, ?_⟩
  · rw [hll] at hj; rw [hget j hj]; exact (hg j hj).1
  · rw [hll] at h0
    obtain ⟨-, b, o, hsp, hb, -⟩ := hg 0 h0
    refine ⟨b, o, hsp, hb, fun j hj => ?_⟩
    rw [hll] at hj
    obtain ⟨-, b2, o2, hsp2, -, hcell⟩ := hg j hj
    rw [hsp] at hsp2
    cases hsp2
    rw [hget j hj]; exact hcell
  · rw [hll]
    rcases hx with hx | ⟨-, rfl⟩
    · rw [hx] at hz
      have := (hz.slice Try.underlying22).1
      rw [bytesS, List.length_map, hlen] at this
      exact reach_le (by omega)
    · simp at hlen; omega

theorem open_vals2 : ∀ (fuel : Nat), (∀ n, n < fuel → ∀ {cs : List Value} {x : DataW H × List MemPlace}, DataW.trod enc Try.prog W base (fun _ => true) held n 25 cs = some x → WOk Try.prog 25 x.1 → ∃ v, IsV n W v cs ∧ Sml n v) →
    ∀ {v : Value} {x : DataW H × List MemPlace}, DataW.trod enc Try.prog W base (fun _ => true) held fuel 23 [v] = some x → WOk Try.prog 23 x.1 → ∃ l n, n < fuel ∧ IsVs n W v l ∧ (∀ y ∈ l, Sml n y) ∧ l.length ≤ 140737488355328 := by
  intro fuel ih v x h hz
  obtain ⟨sp, len, cap, rfl, hl, hc, n, elems, rest, hn, hx, hlen, hel⟩ := open_sl2 6 (by omega) Try.underlying23 cellsV h
  have key : ∀ i, i < len → ∃ (y : V), Sml n y ∧ ∃ b o cs, sp = some ⟨b, o, none⟩ ∧ b < W.heap.size ∧ cs.length = 6 ∧ IsV n W y cs ∧ W.rangeAt b (o + i * 6) cs := by
    intro i hi
    obtain ⟨b, o, cs, y, hsp, hb, hcl, hat, hy, ht⟩ := hel i hi
    have hw : WOk Try.prog 25 y.1 := by
      rcases hx with hx | ⟨-, rfl⟩
      · rw [hx] at hz
        exact (hz.slice Try.underlying23).2 _ (List.mem_map.2 ⟨_, List.mem_of_getElem? hy, rfl⟩)
      · cases hy
    obtain ⟨v, hv, hs⟩ := ih n hn ht hw
    exact ⟨v, hs, b, o, cs, hsp, hb, hcl, hv, hat⟩
  obtain ⟨g, hg⟩ := Deep.choose_lt key
  have hget : ∀ k, k < len → ((List.range len).map g).getD k noV = g k := fun k hk => by simp [hk]
  have hll : ((List.range len).map g).length = len := by simp
  refine ⟨(List.range len).map g, n, hn, ⟨sp, cap, by rw [hll], by rw [hll]; exact hl, hc, fun h0 => ?_⟩, fun y hy => ?_, ?_⟩
  · rw [hll] at h0
    obtain ⟨-, b, o, -, hsp, hb, -⟩ := hg 0 h0
    refine ⟨b, o, hsp, hb, fun j hj => ?_⟩
    rw [hll] at hj
    obtain ⟨-, b2, o2, cs, hsp2, -, hcl, hv, hat⟩ := hg j hj
    rw [hsp] at hsp2
    cases hsp2
    rw [hget j hj]
    exact ⟨cs, hcl, hv, hat⟩
  · obtain ⟨i, hi, rfl⟩ := List.mem_map.1 hy
    exact (hg i (List.mem_range.1 hi)).1
  · rw [hll]
    rcases hx with hx | ⟨-, rfl⟩
    · rw [hx] at hz
      have := (hz.slice Try.underlying23).1
      rw [bytesV, List.length_map, hlen] at this
      exact reach_le (by omega)
    · simp at hlen; omega

theorem take1 {l : List Value} {o : Nat} {v : Value} (h : (l.drop o).take 1 = [v]) : l[o]? = some v := by
  have : ((l.drop o).take 1)[0]? = some v := by rw [h]; rfl
  simpa [List.getElem?_take] using this
set_option maxRecDepth 100000 in
set_option maxHeartbeats 1000000 in
theorem open_val : ∀ (fuel : Nat) {cs : List Value} {x : DataW H × List MemPlace}, DataW.trod enc Try.prog W base (fun _ => true) held fuel 25 cs = some x → WOk Try.prog 25 x.1 → ∃ v, IsV fuel W v cs ∧ Sml fuel v := by
  intro fuel
  induction fuel using Nat.strongRecOn with
  | _ fuel ih =>
    intro cs x h hz
    obtain ⟨xs, n, rfl, rfl, hl, hxl, hx⟩ := DataW.trod_struct Try.underlying25 h
    have hxl' : xs.length = 6 := hxl
    rw [cellsV] at hl
    have e : ∀ i, i < 6 → ∃ y, xs[i]? = some y := fun i hi => ⟨xs[i], List.getElem?_eq_getElem (by omega)⟩
    obtain ⟨x0, e0⟩ := e 0 (by omega)
    obtain ⟨x1, e1⟩ := e 1 (by omega)
    obtain ⟨x2, e2⟩ := e 2 (by omega)
    obtain ⟨x3, e3⟩ := e 3 (by omega)
    obtain ⟨x4, e4⟩ := e 4 (by omega)
    obtain ⟨x5, e5⟩ := e 5 (by omega)
    have h0 := hx 0 _ rfl
    have h1 := hx 1 _ rfl
    have h2 := hx 2 _ rfl
    have h3 := hx 3 _ rfl
    have h4 := hx 4 _ rfl
    have h5 := hx 5 _ rfl
    rw [e0] at h0; rw [e1] at h1; rw [e2] at h2; rw [e3] at h3; rw [e4] at h4; rw [e5] at h5
    have z : ∀ {i : Nat} {f : Field} {y : DataW H × List MemPlace}, _ → xs[i]? = some y → WOk Try.prog f.type y.1 := fun {i f y} hf hy => WOk.agg Try.underlying25 hz (i := i) (f := f) hf (by rw [List.getElem?_map, hy]; rfl)
    have z3 : WOk Try.prog 9 x3.1 := z (i := 3) rfl e3
    have z4 : WOk Try.prog 22 x4.1 := z (i := 4) rfl e4
    have z5 : WOk Try.prog 23 x5.1 := z (i := 5) rfl e5
    obtain ⟨a, ha, -, wa⟩ := DataW.trod_int Try.underlying3 h0
    obtain ⟨b, hb, -, wb⟩ := DataW.trod_int Try.underlying3 h1
    obtain ⟨c, hc, -, wc⟩ := DataW.trod_int Try.underlying3 h2
    obtain ⟨s, hs, hs2, -⟩ := DataW.trod_string Try.underlying9 h3
    have t0 : cs[0]? = some (.int .i64 a) := take1 (by rw [← cellsI]; exact ha)
    have t1 : cs[1]? = some (.int .i64 b) := take1 (by rw [← cellsI]; exact hb)
    have t2 : cs[2]? = some (.int .i64 c) := take1 (by rw [← cellsI]; exact hc)
    have t3 : cs[3]? = some (.string s) := take1 (by rw [← cellsS]; exact hs)
    match cs, hl with
    | [c0, c1, c2, c3, c4, c5], _ =>
      simp at t0 t1 t2 t3
      subst t0; subst t1; subst t2; subst t3
      have h4' : DataW.trod enc Try.prog W base (fun _ => true) held n 22 [c4] = some x4 := h4
      have h5' : DataW.trod enc Try.prog W base (fun _ => true) held n 23 [c5] = some x5 := h5
      obtain ⟨names, hnm, hnl⟩ := open_strs2 h4' z4
      obtain ⟨kids, k, hk, hkd, hks, hkl⟩ := open_vals2 n (fun q hq {cs x} h1 h2 => ih q (by omega) h1 h2) h5' z5
      rw [hs2] at z3
      have hsz := z3.string
      rw [Array.length_toList] at hsz
      refine ⟨.mk a b c s names kids, ⟨c4, c5, rfl, wa, wb, wc, reach_le hsz, hnm, Six.mono hkd fun _ _ hp => IsV.mono (by omega) hp⟩, hnl, hkl, fun y hy => Sml.mono (by omega) (hks y hy)⟩
set_option maxRecDepth 100000 in
/-- A row of values that comes in. -/
theorem open_vals {b0 : Nat} {r : Reach} {v : Value} {d : DataW H} {p : List MemPlace} (hval : Value.okWide Try.prog W r b0 23 v) (h : DataW.Trod enc Try.prog W base (fun _ => true) held 23 v d p) :
    (∀ n ∈ d.weights Try.prog 23, n ≤ reachBytes) → ∃ f l, IsVs f W v l ∧ (∀ x ∈ l, Sml f x) ∧ l.length ≤ 140737488355328 := by
  intro hz
  obtain ⟨a, len, cap, rfl⟩ := okWide_slice Try.underlying23 hval
  obtain ⟨fuel, hf⟩ := h
  obtain ⟨l, n, -, h1, h2, h3⟩ := open_vals2 fuel (fun n _ {cs x} h1 h2 => open_val n h1 h2) (v := .slice a len cap) hf hz
  exact ⟨n, l, h1, h2, h3⟩
/-- A value that comes in. -/
theorem open_valA {b0 : Nat} {r : Reach} {v : Value} {d : DataW H} {p : List MemPlace} (hval : Value.okWide Try.prog W r b0 25 v) (h : DataW.Trod enc Try.prog W base (fun _ => true) held 25 v d p) :
    (∀ n ∈ d.weights Try.prog 25, n ≤ reachBytes) → ∃ f x cs, v = .agg cs.toArray ∧ IsV f W x cs ∧ Sml f x := by
  intro hz
  obtain ⟨cs, rfl, -⟩ := okWide_struct Try.underlying25 hval
  obtain ⟨fuel, hf⟩ := h
  obtain ⟨x, h1, h2⟩ := open_val fuel (cs := cs.toList) hf hz
  exact ⟨fuel, x, cs.toList, by rw [Array.toArray_toList], h1, h2⟩
/-- A row of bytes that comes in, with its size. -/
theorem open_bytes {b0 : Nat} {r : Reach} {v : Value} {d : DataW H} {p : List MemPlace} (hval : Value.okWide Try.prog W r b0 28 v) (h : DataW.Trod enc Try.prog W base (fun _ => true) held 28 v d p) :
    (∀ n ∈ d.weights Try.prog 28, n ≤ reachBytes) → ∃ l, Sl .u8 W v l ∧ (∀ c ∈ l, 0 ≤ c ∧ c ≤ 255) ∧ l.length ≤ 140737488355328 := by
  intro hz
  obtain ⟨l, hs, hw⟩ := open_sl Try.underlying28 Try.underlying5 (by kernel_rfl) hval h
  refine ⟨l, hs, fun c hc => ?_, ?_⟩
  · have := hw c hc
    simp [Lit.wf, IntKind.min, IntKind.max, IntKind.bits, IntKind.signed] at this
    omega
  · obtain ⟨sp0, cap0, rfl, -⟩ := hs
    obtain ⟨fuel, hf⟩ := h
    obtain ⟨sp, len, cap, e, -, -, n, elems, rest, -, hx, hlen, -⟩ := open_sl2 1 (by omega) Try.underlying28 (by kernel_rfl) (v := .slice sp0 l.length cap0) hf
    injection e with _ e2 _
    rcases hx with hx | ⟨-, rfl⟩
    · have hz' : WOk Try.prog 28 d := hz
      simp only at hx
      rw [hx] at hz'
      have := (hz'.slice Try.underlying28).1
      rw [show Try.prog.bytesOf 5 = 1 by kernel_rfl, List.length_map, hlen] at this
      exact reach_le (by omega)
    · simp at hlen; omega
end
end K
end Go.Proofs.Ytnboloilljlfiaa

/-
  For every value the law CodecEncodes answers true, and the argument reads as it did. No condition.
-/
namespace Go.Proofs.Ytnboloilljlfiaa.codecEncodes
open Go.ChangeShapes Go.WideShapes Go.ChangeAt Go.RowKit
open Go.ChangeMaps (open_string shut_string)
open Go.Proofs.Ytnboloilljlfiaa

set_option maxRecDepth 100000 in
theorem lifted (os : Os) (started : os.Started) (H : Type) (enc : TypeId × Value → H) :
    ReturnsInHanded {} Try.checked os 6 .any (Rows.codecEncodesSpec.pre6 enc Try.prog Try.f6 Rows.codecEncodesRow.domain false) (Rows.codecEncodesSpec.post enc Try.prog Try.f6 false true false false) := by
  refine returnsInHanded_of_change_sized (C := Try.checked) Try.ownKnob started (by kernel_rfl) Try.func6
    (ChangeSpec.witness6 (enc := enc) (C := Try.checked) false ⟨#[], #[.agg #[.int .i64 0, .int .i64 0, .int .i64 0, .string ByteArray.empty, .slice none 0 0, .slice none 0 0]], []⟩ 8 (by kernel_rfl) (by kernel_rfl) (by kernel_rfl) (by kernel_rfl)) ?_
  intro W base args ds gs before hval0 hW hcnd hsz _
  have hval : ∀ (j : Nat) t v, Try.f6.params[j]? = some t → args[j]? = some v → Value.okWide Try.prog W .any base t v := hval0
  have hW' := hW
  obtain ⟨p, q, hA0, hV, rfl, hfz, hnd⟩ := hW
  have hA : DataW.TrodAll enc Try.prog W 0 (fun _ => true) true Try.f6.params.toList args.toList ds p := hA0
  rw [Try.params6] at hA hval
  obtain ⟨v0, vs0, d0, ds0, p0, q0, hargs, rfl, rfl, h0, r0⟩ := trodAll_cons hA
  obtain ⟨rfl, rfl, rfl⟩ := trodAll_nil r0
  obtain rfl : args = #[v0] := by cases args; simp_all
  obtain ⟨rfl, rfl⟩ := trodVars_none hV
  have k0 := h0
  have lt0 : ∀ x ∈ p0, x.block < W.heap.size := by obtain ⟨m, hm⟩ := k0; exact DataW.trod_lt m _ _ _ hm
  obtain ⟨f0, x0, c0, rfl, iv0, sm0⟩ := K.open_valA (hval 0 25 v0 rfl rfl) h0 (fun n hn => by have := List.all_eq_true.1 hsz n (DataW.weights_mem_each (j := 0) rfl rfl n hn); simpa using this)
  clear hA0 hval0
  refine (K.codecEncodes_law iv0 sm0).mono fun e W' ⟨he, bel⟩ => ?_
  subst he
  exact ⟨_, rfl, _, _, _, [], _, [], hW', trodAll_mk1 (shut_bool Try.underlying4 _), (trodAll_cons_mk (Below.trod Try.laid (by kernel_rfl) (of_decide_eq_true (by kernel_rfl)) k0 bel lt0) trodAll_mk0), rfl, bel.frame _, fun h => by cases h⟩

theorem over : Rows.codecEncodesRow.holds Try.pinned (OpenSpec.ofChange Rows.codecEncodesSpec) :=
  OpenClaim.holds_of_wide 6 Try.f6 rfl rfl rfl rfl rfl rfl rfl ⟨rfl, rfl, rfl, rfl, rfl⟩ rfl rfl rfl rfl rfl (by kernel_rfl) Try.func6 (by kernel_rfl)
    (of_decide_eq_true (by kernel_rfl)) (by unfold Func.isWrapper; first | (rw [if_pos (by decide +kernel)]; kernel_rfl) | (rw [if_neg (by decide +kernel)]; exact ⟨rfl, rfl⟩))
    (fun os started H enc _ => lifted os started H enc)

/-- The statement. -/
theorem proved : Rows.CodecEncodesSaid := over
end Go.Proofs.Ytnboloilljlfiaa.codecEncodes
