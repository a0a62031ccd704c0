/- digest: the program's Sum. -/
import Derived.Test.YtfdgclnjpbkggaaDoorBaseB
import Derived.Test.YtfdgclnjpbkggaaDoorDigTake
import Derived.Test.YtfdgclnjpbkggaaDoorDigNum
namespace Go.Proofs.YtfdgclnjpbkggaaDoor
open Go.RowKit
namespace Dig

/-- The words that a digest begins with. -/
def H0 : List Int := [0x6a09e667, 0xbb67ae85, 0x3c6ef372, 0xa54ff53a, 0x510e527f, 0x9b05688c, 0x1f83d9ab, 0x5be0cd19]
/-- The state behind j blocks of l. -/
def absorb (l st : List Int) : Nat → List Int
  | 0 => st
  | j + 1 => compress K (l.drop (64 * j)) (absorb l st j)
theorem compress_length (kk by_ st : List Int) : (compress kk by_ st).length = st.length := addInto_length st _ 8
theorem absorb_length (l st : List Int) (j : Nat) : (absorb l st j).length = st.length := by
  induction j with
  | zero => rfl
  | succ j ih => rw [absorb, compress_length, ih]

/-- The last n bytes of e: a length in digits, the i last of eight laid. -/
def putLen (p : List Int) (e n : Nat) : Nat → List Int
  | 0 => p
  | i + 1 => (putLen p e n i).set (e - 1 - i) ((n : Int) * 8 / 2 ^ (8 * i) % 256)
theorem putLen_length (p : List Int) (e n i : Nat) : (putLen p e n i).length = p.length := by
  induction i with
  | zero => rfl
  | succ i ih => rw [putLen, List.length_set, ih]
/-- The words as bytes, i of them laid. -/
def outH (st : List Int) : Nat → List Int
  | 0 => List.replicate 32 0
  | i + 1 => ((((outH st i).set (4 * i) (nth st i / 16777216 % 256)).set (4 * i + 1) (nth st i / 65536 % 256)).set (4 * i + 2) (nth st i / 256 % 256)).set (4 * i + 3) (nth st i % 256)
theorem outH_length (st : List Int) (i : Nat) : (outH st i).length = 32 := by
  induction i with
  | zero => rfl
  | succ i ih => simp [outH, ih]
/-- The digest, as the program reckons it. -/
def sumL (l : List Int) : List Int :=
  let j := l.length / 64
  let rl := l.drop (64 * j)
  let p0 := (rl ++ List.replicate (128 - rl.length) 0).set rl.length 128
  outH (if 56 ≤ rl.length then absorb (putLen p0 128 l.length 8) (absorb l H0 j) 2 else absorb (putLen p0 64 l.length 8) (absorb l H0 j) 1) 8
theorem sumL_length (l : List Int) : (sumL l).length = 32 := outH_length _ _
theorem Tryd.infoU32 : (Tryd.prog.info? 77).map (fun i => (i.zero, i.size, i.bytes)) = some (some (.int .u32 0), 1, 4) := by kernel_rfl

theorem pick8 (st : List Int) (i : Nat) (h : i < 8) :
    (#[.int .u32 (nth st 0), .int .u32 (nth st 1), .int .u32 (nth st 2), .int .u32 (nth st 3), .int .u32 (nth st 4), .int .u32 (nth st 5), .int .u32 (nth st 6), .int .u32 (nth st 7)] : Array Value)[i]? = some (.int .u32 (nth st i)) := by
  match i, h with
  | 0, _ => rfl
  | 1, _ => rfl
  | 2, _ => rfl
  | 3, _ => rfl
  | 4, _ => rfl
  | 5, _ => rfl
  | 6, _ => rfl
  | 7, _ => rfl

theorem index42 (st : List Int) (i : Nat) (h : i < 8) (W : World) :
    (Instr.index 79 (.agg #[.int .u32 (nth st 0), .int .u32 (nth st 1), .int .u32 (nth st 2), .int .u32 (nth st 3), .int .u32 (nth st 4), .int .u32 (nth st 5), .int .u32 (nth st 6), .int .u32 (nth st 7)]) (.int .i64 (i : Int))).run Tryd.prog W = .ok (.int .u32 (nth st i)) W := by
  obtain ⟨it, hit, -, hit2, -⟩ := info_parts Tryd.infoU32
  exact run_index_arr W _ _ 8 _ it Tryd.underlying79 hit hit2 Tryd.underlying77 rfl _ .i64 i h _ (pick8 st i h)

/-- A hundred and twenty-eight bytes, all nought. -/
def Z128 : List Value := List.replicate 128 (.int .u8 0)
theorem zero47 (w : World) : (zeroValue 84).run Tryd.prog w = .ok (.agg Z128.toArray) w := by kernel_rfl

set_option maxRecDepth 100000 in
set_option maxHeartbeats 1000000 in
theorem sum_any (v : Value) (l : List Int) (w : World) (hv : Sl .u8 w v l) (hn : l.length ≤ 1152921504606846975) :
    Calls Tryd.prog 27 #[v] w fun e w' => e = .returned (.agg ((sumL l).map (Value.int .u8)).toArray) ∧ Below w.heap.size w w' := by
  obtain ⟨sp, cap, rfl, hc1, hc2, hrow, -⟩ := hv
  go_enter Tryd.func27, Tryd.ntmps27
  go_wp2_with fail
  refine (numbers_any _).mono ?_
  rintro e w1 ⟨rfl, hb1⟩
  obtain ⟨hB0, hB1, hb, hsz⟩ := two_alloc hb1
  clear hb1
  go_wp2_with (refine wpList_store_row rfl 80 _ _ rfl w1.heap.size (K.map (Value.int .u32)).toArray rfl rfl 80 _ (heap_alloc_new _ _) (by kernel_rfl) (by kernel_rfl) (by kernel_rfl) ?_)
  have hKb := setRow_heap _ w1.heap.size _ (K.map (Value.int .u32)).toArray 80 (0, 0) (heap_alloc_new w1 (.cells ((List.replicate 64 (0 : Int)).map (Value.int .u32)).toArray 80))
  have hkeep : Below w1.heap.size w1 ((w1.alloc (.cells ((List.replicate 64 (0 : Int)).map (Value.int .u32)).toArray 80)).setRow w1.heap.size (K.map (Value.int .u32)).toArray) :=
    below_setRow ((Below.refl _ _).alloc (Nat.le_refl _) _) (Nat.le_refl _) _
  simp only [List.replicate, List.map_cons, List.map_nil] at hKb hkeep
  generalize World.setRow _ _ _ = w2 at hKb hkeep ⊢
  have hz2 : w1.heap.size < w2.heap.size := lt_of_block hKb
  have hKk : IBlk .u32 80 w2 w1.heap.size K := hKb
  have hHh : IBlk .u8 27 w2 w.heap.size (List.replicate 32 0) := (hkeep.block w.heap.size (by omega)).trans hB0
  have hSs : IBlk .u32 79 w2 (w.heap.size + 1) H0 := (hkeep.block (w.heap.size + 1) (by omega)).trans hB1
  have hbel : Below w.heap.size w w2 := hb.trans (hkeep.mono (by omega))
  clear hKb hkeep hB0 hB1
  obtain ⟨BK, hBK⟩ : ∃ BK, BK = w1.heap.size := ⟨_, rfl⟩
  rw [← hBK] at hKk hz2 hsz ⊢
  clear hBK hb
  have hrow0 : 0 < l.length → ∃ b o, sp = some ⟨b, o, none⟩ ∧ b < w.heap.size ∧ Row .u8 w b o (l.drop (64 * 0)) := hrow
  go_loopw [5] (fun r wr => ∃ j m sq rc, m + 64 * j = l.length ∧ m ≤ rc ∧ rc ≤ 9223372036854775807 ∧ r = .slice sq m rc ∧
      (0 < m → ∃ b o, sq = some ⟨b, o, none⟩ ∧ b < w.heap.size ∧ Row .u8 w b o (l.drop (64 * j))) ∧
      IBlk .u32 80 wr BK K ∧ IBlk .u8 27 wr w.heap.size (List.replicate 32 0) ∧ IBlk .u32 79 wr (w.heap.size + 1) (absorb l H0 j) ∧ Below w.heap.size w wr)
    (fun r _ => lenOf r)
  case atStart => exact ⟨0, l.length, sp, cap, by omega, hc1, hc2, rfl, hrow0, hKk, hHh, hSs, hbel⟩
  case round =>
    clear hKk hHh hSs hbel hz2 hrow0
    obtain ⟨j, m, sq, rc, hm, hrc1, hrc2, rfl, hsq, hKk, hHh, hSs, hbel⟩ := hrel
    have hls : (absorb l H0 j).length = 8 := absorb_length l H0 j
    have hbsz := hbel.size
    by_cases h64 : 64 ≤ m
    · obtain ⟨b, o, rfl, hbw, hrw⟩ := hsq (by omega)
      have hrwr : Row .u8 wr b o (l.drop (64 * j)) := hrw.below hbel hbw
      have hstep : ∀ w', IBlk .u32 79 w' (w.heap.size + 1) (compress K (l.drop (64 * j)) (absorb l H0 j)) → Keep (fun k => k < wr.heap.size ∧ k ≠ w.heap.size + 1) wr w' →
          IBlk .u32 80 w' BK K ∧ IBlk .u8 27 w' w.heap.size (List.replicate 32 0) ∧ IBlk .u32 79 w' (w.heap.size + 1) (absorb l H0 (j + 1)) ∧ Below w.heap.size w w' := by
        intro w' hS hKp
        exact ⟨hKk.keep hKp ⟨hKk.lt, by omega⟩, hHh.keep hKp ⟨hHh.lt, by omega⟩, hS, hbel.trans (hKp.mono (fun k hk => ⟨by omega, by omega⟩)).below⟩
      have hdrop : 64 ≤ (l.drop (64 * j)).length := by rw [List.length_drop]; omega
      by_cases hcap : rc = 64
      · have hm64 : m = 64 := by omega
        subst hm64
        subst hcap
        go_wp2_with fail
        refine (take_any (w.heap.size + 1) b o 64 64 BK (absorb l H0 j) (l.drop (64 * j)) K 79 80 _ (Nat.le_refl _) (by omega) (Nat.le_refl _) (by omega) hSs hrwr hKk hls hdrop rfl).mono ?_
        rintro e w' ⟨rfl, hS', hK'⟩
        have hfin := hstep w' hS' hK'
        clear hstep hS' hK' hSs hKk hHh hbel hrwr hrw hsq
        go_wp2
        go_roundw
        case rel => exact ⟨j + 1, 0, _, 0, by omega, by omega, by omega, rfl, fun h => absurd h (by omega), hfin⟩
        case measure => simp [lenOf]
      · go_wp2_with fail
        refine (take_any (w.heap.size + 1) b o m rc BK (absorb l H0 j) (l.drop (64 * j)) K 79 80 _ h64 (by omega) hrc1 (by omega) hSs hrwr hKk hls hdrop rfl).mono ?_
        rintro e w' ⟨rfl, hS', hK'⟩
        have hfin := hstep w' hS' hK'
        have hrw2 : Row .u8 w b (o + 64) (l.drop (64 * (j + 1))) := by
          have := row_drop hrw 64; rw [List.drop_drop] at this; rwa [Nat.mul_add]
        clear hstep hS' hK' hSs hKk hHh hbel hrwr hrw hsq
        go_wp2
        go_roundw
        case rel => exact ⟨j + 1, m - 64, _, rc - 64, by omega, by omega, by omega, rfl, fun _ => ⟨b, o + 64, rfl, hbw, hrw2⟩, hfin⟩
        case measure => simp [lenOf]; omega
    · have hml : m < 64 := by omega
      have hrl : (l.drop (64 * j)).length = m := by rw [List.length_drop]; omega
      obtain ⟨rl, hrl2⟩ : ∃ rl, rl = l.drop (64 * j) := ⟨_, rfl⟩
      rw [← hrl2] at hsq hrl
      have Hrl := Lib.hid hrl2
      clear hrl2
      have hZ : VBlk 84 (wr.alloc (.cells Z128.toArray 84)) wr.heap.size Z128 := VBlk.mk wr _ _
      have hZk : Below wr.heap.size wr (wr.alloc (.cells Z128.toArray 84)) := (Below.refl _ _).alloc (Nat.le_refl _) _
      obtain ⟨cs, hcs⟩ : ∃ cs, cs = rl.map (Value.int .u8) := ⟨_, rfl⟩
      have Hcs := Lib.hid hcs
      have hcl : cs.length = m := by rw [hcs]; simpa using hrl
      have hcone : ∀ v ∈ cs, v.oneCell' = true := by rw [hcs]; intro v hv; simp at hv; obtain ⟨_, _, rfl⟩ := hv; rfl
      have hsrc : 0 < cs.length → some (⟨wr.heap.size, 0, none⟩ : Addr) = some ⟨wr.heap.size, 0, none⟩ ∧ ∃ ad, sq = some ad ∧ ∀ j v, cs[j]? = some v → wr.cell? (ad.add j) = some v := by
        intro h0
        refine ⟨rfl, ?_⟩
        obtain ⟨b, o, hsq', hbw, hr⟩ := hsq (by omega)
        refine ⟨_, hsq', fun i v hv => ?_⟩
        rw [hcs] at hv
        have hi : i < rl.length := by
          rcases Nat.lt_or_ge i rl.length with h | h
          · exact h
          · simp [h] at hv
        have := (hr.below hbel hbw) i hi
        rw [addr_add, this]
        simpa [nth, hi] using hv
      clear hcs
      have hsrc2 : 0 < cs.length → ∃ ad, sq = some ad ∧ ∀ j v, cs[j]? = some v → (wr.alloc (.cells Z128.toArray 84)).cell? (ad.add j) = some v := by
        intro h0
        obtain ⟨_, ad, e, h⟩ := hsrc h0
        exact ⟨ad, e, fun j v hv => by have := h j v hv; rw [← this]; exact World.cell?_alloc_lt _ _ _ (block_lt_of_cell this)⟩
      clear hsrc
      have HCL := Lib.hid hcl
      clear hcl
      have hz47 : ∀ w : World, (zeroValue 84).run Tryd.prog w = .ok (.agg Z128.toArray) w := zero47
      go_wp2_with (refine wpList_copy_splice rfl (.tmp 24) (.tmp 25) 60 60 rfl 5 Tryd.underlying60 (by kernel_rfl) _ _ _ _ _ _ rfl rfl wr.heap.size 0 Z128 84 hZ cs ?hn ?hpos ?hfit hcone wr.heap.size wr hZk (Nat.le_refl _) ?hh)
      case hn => rw [HCL.out]; exact (Nat.min_eq_left (by omega)).symm
      case hpos => first | exact fun h => ⟨rfl, hsrc2 h⟩ | exact hsrc2
      case hfit => rw [HCL.out]; show 0 + m ≤ 128; omega
      case hh =>
        intro w3 HG3 hB3
        rw [HCL.out]
        have hL : IBlk .u8 84 w3 wr.heap.size (rl ++ List.replicate (128 - m) 0) := by
          have e : splice Z128 0 cs = (rl ++ List.replicate (128 - m) 0).map (Value.int .u8) := by
            rw [splice_zero _ _ (by rw [HCL.out]; show m ≤ 128; omega), HCL.out, Hcs.out]
            rw [List.map_append, List.map_replicate]; unfold Z128; rw [List.drop_replicate]
          have := HG3.out
          rw [e] at this
          exact this
        have hKk3 := hKk.below hB3 hKk.lt
        have hHh3 := hHh.below hB3 hHh.lt
        have hSs3 := hSs.below hB3 hSs.lt
        have hbel3 : Below w.heap.size w w3 := hbel.trans (hB3.mono hbsz)
        have hBLK : BK ≠ wr.heap.size := by have := hKk.lt; omega
        have hBLS : w.heap.size + 1 < wr.heap.size := hSs.lt
        obtain ⟨BL, hBL⟩ : ∃ BL, BL = wr.heap.size := ⟨_, rfl⟩
        rw [← hBL] at hL hBLK hBLS ⊢
        clear hBL HG3 hB3 hKk hHh hSs hbel hbsz hsrc2 hZ hZk hcone Hcs HCL hz47 hsq
        have hLl : (rl ++ List.replicate (128 - m) 0).length = 128 := by simp [hrl]; omega
        have c0 := hL.cell m (by omega)
        have f0 := hL.free m
        by_cases h56 : 56 ≤ m
        · have h56i : (56 : Int) ≤ (m : Int) := by omega
          go_wp2_with fail
          have hP0 := hL.set m 128
          have hk4 : Keep (fun k => k ≠ BL) w3 (w3.setCell ⟨BL, m, none⟩ (.int .u8 128)) := (Keep.refl _ _).setCell (fun h => h rfl) _
          generalize World.setCell _ _ _ = w4 at hP0 hk4 ⊢
          have hKk4 := hKk3.keep hk4 hBLK
          have hHh4 := hHh3.keep hk4 (by omega)
          have hSs4 := hSs3.keep hk4 (by omega)
          have hbel4 : Below w.heap.size w w4 := hbel3.trans (hk4.mono (fun k (hk : k < w.heap.size) => by omega)).below
          clear hKk3 hHh3 hSs3 hbel3 hk4 hL hLl c0 f0
          obtain ⟨p0, hp0⟩ : ∃ p0, p0 = (rl ++ List.replicate (128 - m) 0).set m 128 := ⟨_, rfl⟩
          rw [← hp0] at hP0
          have hpl : p0.length = 128 := by rw [hp0]; simp [hrl]; omega
          have Hp0 := Lib.hid hp0
          clear hp0
          go_loopw [35] (fun c wr => ∃ i : Nat, i ≤ 8 ∧ c = .int .i64 i ∧ IBlk .u8 84 wr BL (putLen p0 128 l.length i) ∧ Keep (fun k => k ≠ BL) w4 wr) (fun c _ => 8 - (intOf c).toNat)
          case atStart => exact ⟨0, by omega, rfl, hP0, Keep.refl _ _⟩
          case round =>
            clear hP0
            obtain ⟨i, hi, rfl, hPr, hKr⟩ := hrel
            have hql : (putLen p0 128 l.length i).length = 128 := (putLen_length p0 128 l.length i).trans hpl
            by_cases h8 : i < 8
            · have c0 := hPr.cell (127 - i) (by omega)
              have f0 := hPr.free (127 - i)
              go_wp2_with fail
              go_roundw
              case rel => exact ⟨i + 1, by omega, by go_num, hPr.set _ _, hKr.setCell (fun h => h rfl) _⟩
              case measure => simp [intOf]; omega
            · have e8 : i = 8 := by omega
              rw [e8] at hPr hql
              clear e8
              have hKk5 := hKk4.keep hKr hBLK
              have hHh5 := hHh4.keep hKr (by omega)
              have hSs5 := hSs4.keep hKr (by omega)
              have hbel5 : Below w.heap.size w wr := hbel4.trans (hKr.mono (fun k (hk : k < w.heap.size) => by omega)).below
              obtain ⟨PL, hPL⟩ : ∃ PL, PL = putLen p0 128 l.length 8 := ⟨_, rfl⟩
              rw [← hPL] at hPr hql
              have HPL := Lib.hid hPL
              clear hKk4 hHh4 hSs4 hbel4 hKr hPL
              obtain ⟨S0, hS0⟩ : ∃ S0, S0 = absorb l H0 j := ⟨_, rfl⟩
              rw [← hS0] at hSs5 hls
              have HS0 := Lib.hid hS0
              clear hS0
              obtain ⟨w5, hw5⟩ : ∃ w5, w5 = wr := ⟨_, rfl⟩
              rw [← hw5] at hKk5 hHh5 hSs5 hbel5 hPr ⊢
              clear hw5
              go_wp2_with fail
              go_loopw [11] (fun c wr => ∃ i : Nat, i ≤ 2 ∧ c = .int .i64 (64 * (i : Int)) ∧ IBlk .u32 79 wr (w.heap.size + 1) (absorb PL S0 i) ∧ Keep (fun k => k < w5.heap.size ∧ k ≠ w.heap.size + 1) w5 wr) (fun c _ => 128 - (intOf c).toNat)
              case atStart => exact ⟨0, by omega, rfl, hSs5, Keep.refl _ _⟩
              case round =>
                clear hSs5
                obtain ⟨q, hq, rfl, hSr, hKr⟩ := hrel
                have hsl : (absorb PL S0 q).length = 8 := (absorb_length PL S0 q).trans hls
                have hPq := hPr.keep hKr ⟨hPr.lt, by omega⟩
                have hKq := hKk5.keep hKr ⟨hKk5.lt, by omega⟩
                by_cases hqn : q < 2
                · have hrow := row_drop hPq.row (64 * q)
                  rw [Nat.zero_add] at hrow
                  have hdl : 64 ≤ (PL.drop (64 * q)).length := by rw [List.length_drop]; omega
                  have b0 : 0 ≤ 64 * (q : Int) := by omega
                  have b1 : 64 * (q : Int) ≤ 128 := by omega
                  go_wp2_with fail
                  refine (take_any (w.heap.size + 1) BL (64 * q) (128 - 64 * q) (128 - 64 * q) BK (absorb PL S0 q) (PL.drop (64 * q)) K 79 80 _ (by omega) (by omega) (by omega) hPq.lt hSr hrow hKq hsl hdl rfl).mono ?_
                  rintro e w' ⟨rfl, hS', hK'⟩
                  have hsz' := hKr.size
                  have hK2 : Keep (fun k => k < w5.heap.size ∧ k ≠ w.heap.size + 1) w5 w' := hKr.trans (hK'.mono (fun k hk => ⟨Nat.lt_of_lt_of_le hk.1 hsz', hk.2⟩))
                  have hS2 : IBlk .u32 79 w' (w.heap.size + 1) (absorb PL S0 (q + 1)) := hS'
                  clear hS' hK' hKr hSr hPq hKq hrow
                  go_wp2_with fail
                  go_roundw
                  case rel => exact ⟨q + 1, by omega, by go_num, hS2, hK2⟩
                  case measure => simp [intOf]; omega
                · have eq2 : q = 2 := by omega
                  rw [eq2] at hSr hsl
                  clear eq2
                  have hHq := hHh5.keep hKr ⟨hHh5.lt, by omega⟩
                  have hbelq : Below w.heap.size w wr := hbel5.trans (hKr.mono (fun k (hk : k < w.heap.size) => ⟨Nat.lt_of_lt_of_le hk hbel5.size, by omega⟩)).below
                  obtain ⟨st, hst⟩ : ∃ st, st = absorb PL S0 2 := ⟨_, rfl⟩
                  rw [← hst] at hSr hsl
                  have hres : sumL l = outH st 8 := by
                    have ej : j = l.length / 64 := by omega
                    have erl : l.drop (64 * j) = rl := Hrl.out.symm
                    unfold sumL
                    simp only [← ej, erl, hrl]
                    rw [hst, HPL.out, Hp0.out, HS0.out]
                    first | (rw [if_pos h56]) | (rw [if_neg h56])
                  have Hres := Hid2.mk hres
                  clear hres hst hPq hKq hKr hPr hKk5 hHh5 hbel5
                  obtain ⟨w6, hw6⟩ : ∃ w6, w6 = wr := ⟨_, rfl⟩
                  rw [← hw6] at hSr hHq hbelq ⊢
                  clear hw6
                  have hgS : w6.heap[w.heap.size + 1]? = some (.cells (st.map (Value.int .u32)).toArray 79 (0, 0)) := hSr
                  have d0 := hSr.cell 0 (by omega)
                  have d1 := hSr.cell 1 (by omega)
                  have d2 := hSr.cell 2 (by omega)
                  have d3 := hSr.cell 3 (by omega)
                  have d4 := hSr.cell 4 (by omega)
                  have d5 := hSr.cell 5 (by omega)
                  have d6 := hSr.cell 6 (by omega)
                  have d7 := hSr.cell 7 (by omega)
                  clear hgS
                  go_wp2_with fail
                  clear d0 d1 d2 d3 d4 d5 d6 d7
                  go_loopw [58] (fun c wr => ∃ i : Nat, i ≤ 8 ∧ c = .int .i64 i ∧ IBlk .u8 27 wr w.heap.size (outH st i) ∧ Keep (fun k => k ≠ w.heap.size) w6 wr) (fun c _ => 8 - (intOf c).toNat)
                  case atStart => exact ⟨0, by omega, rfl, hHq, Keep.refl _ _⟩
                  case round =>
                    clear hHq hSr
                    obtain ⟨i, hi, rfl, hOr, hKr⟩ := hrel
                    have hol := outH_length st i
                    by_cases hi8 : i < 8
                    · have c0 := hOr.cell (4 * i) (by omega)
                      have c1 := hOr.cell (4 * i + 1) (by omega)
                      have c2 := hOr.cell (4 * i + 2) (by omega)
                      have c3 := hOr.cell (4 * i + 3) (by omega)
                      have f0 := hOr.free (4 * i)
                      have f1 := hOr.free (4 * i + 1)
                      have f2 := hOr.free (4 * i + 2)
                      have f3 := hOr.free (4 * i + 3)
                      have hix := index42 st i hi8
                      go_wp2_with fail
                      go_roundw
                      case rel => exact ⟨i + 1, by omega, by go_num, (((hOr.set _ _).set _ _).set _ _).set _ _, (((hKr.setCell (fun h => h rfl) _).setCell (fun h => h rfl) _).setCell (fun h => h rfl) _).setCell (fun h => h rfl) _⟩
                      case measure => simp [intOf]; omega
                    · have e9 : i = 8 := by omega
                      rw [e9] at hOr
                      clear e9
                      obtain ⟨hh, hhe⟩ : ∃ hh, hh = sumL l := ⟨_, rfl⟩
                      have hsl32 : hh.length = 32 := by rw [hhe]; exact sumL_length l
                      rw [← Hres.out, ← hhe] at hOr
                      have Hhe := Hid2.mk hhe
                      clear hhe
                      have hg0 : wr.heap[w.heap.size]? = some (.cells (hh.map (Value.int .u8)).toArray 27 (0, 0)) := hOr
                      have hbelf : Below w.heap.size w wr := hbelq.trans (hKr.mono (fun k (hk : k < w.heap.size) => by omega)).below
                      clear hOr hol hKr Hres hbelq
                      have hi25 : (Tryd.prog.info? 27).map (·.size) = some (hh.map (Value.int .u8)).toArray.size := by
                        rw [List.size_toArray, List.length_map, hsl32]; kernel_rfl
                      have hone : (hh.map (Value.int .u8)).toArray.all (·.oneCell') = true := by simp [Value.oneCell']
                      have Hi25 := Hid2.mk hi25
                      have Hone := Hid2.mk hone
                      have Hg0 := Hid2.mk hg0
                      clear hi25 hone hg0 hsl32
                      go_wp2_with (first | (refine wpList_load_row rfl 27 (.tmp 2) rfl w.heap.size rfl 27 (hh.map (Value.int .u8)).toArray (0, 0) _ Hg0.out Tryd.underlying27 rfl Hi25.out ?_) | (refine wpList_store_row rfl 27 (.tmp 2) (.tmp 89) rfl w.heap.size (hh.map (Value.int .u8)).toArray rfl rfl 27 (hh.map (Value.int .u8)).toArray Hg0.out Hi25.out rfl Hone.out ?_))
                      refine bodyPost_ret (results_cell_row rfl _ _ w.heap.size 27 (hh.map (Value.int .u8)).toArray (0, 0) _ rfl (setRow_heap _ _ _ _ _ _ Hg0.out) Tryd.underlying27 rfl Hi25.out) rfl ⟨by rw [Hhe.out], ?_⟩
                      exact below_setRow hbelf (Nat.le_refl _) _
        · have h56i : decide ((56 : Int) ≤ (m : Int)) = false := decide_eq_false (by omega)
          go_wp2_with fail
          have hP0 := hL.set m 128
          have hk4 : Keep (fun k => k ≠ BL) w3 (w3.setCell ⟨BL, m, none⟩ (.int .u8 128)) := (Keep.refl _ _).setCell (fun h => h rfl) _
          generalize World.setCell _ _ _ = w4 at hP0 hk4 ⊢
          have hKk4 := hKk3.keep hk4 hBLK
          have hHh4 := hHh3.keep hk4 (by omega)
          have hSs4 := hSs3.keep hk4 (by omega)
          have hbel4 : Below w.heap.size w w4 := hbel3.trans (hk4.mono (fun k (hk : k < w.heap.size) => by omega)).below
          clear hKk3 hHh3 hSs3 hbel3 hk4 hL hLl c0 f0
          obtain ⟨p0, hp0⟩ : ∃ p0, p0 = (rl ++ List.replicate (128 - m) 0).set m 128 := ⟨_, rfl⟩
          rw [← hp0] at hP0
          have hpl : p0.length = 128 := by rw [hp0]; simp [hrl]; omega
          have Hp0 := Lib.hid hp0
          clear hp0
          go_loopw [35] (fun c wr => ∃ i : Nat, i ≤ 8 ∧ c = .int .i64 i ∧ IBlk .u8 84 wr BL (putLen p0 64 l.length i) ∧ Keep (fun k => k ≠ BL) w4 wr) (fun c _ => 8 - (intOf c).toNat)
          case atStart => exact ⟨0, by omega, rfl, hP0, Keep.refl _ _⟩
          case round =>
            clear hP0
            obtain ⟨i, hi, rfl, hPr, hKr⟩ := hrel
            have hql : (putLen p0 64 l.length i).length = 128 := (putLen_length p0 64 l.length i).trans hpl
            by_cases h8 : i < 8
            · have c0 := hPr.cell (63 - i) (by omega)
              have f0 := hPr.free (63 - i)
              go_wp2_with fail
              go_roundw
              case rel => exact ⟨i + 1, by omega, by go_num, hPr.set _ _, hKr.setCell (fun h => h rfl) _⟩
              case measure => simp [intOf]; omega
            · have e8 : i = 8 := by omega
              rw [e8] at hPr hql
              clear e8
              have hKk5 := hKk4.keep hKr hBLK
              have hHh5 := hHh4.keep hKr (by omega)
              have hSs5 := hSs4.keep hKr (by omega)
              have hbel5 : Below w.heap.size w wr := hbel4.trans (hKr.mono (fun k (hk : k < w.heap.size) => by omega)).below
              obtain ⟨PL, hPL⟩ : ∃ PL, PL = putLen p0 64 l.length 8 := ⟨_, rfl⟩
              rw [← hPL] at hPr hql
              have HPL := Lib.hid hPL
              clear hKk4 hHh4 hSs4 hbel4 hKr hPL
              obtain ⟨S0, hS0⟩ : ∃ S0, S0 = absorb l H0 j := ⟨_, rfl⟩
              rw [← hS0] at hSs5 hls
              have HS0 := Lib.hid hS0
              clear hS0
              obtain ⟨w5, hw5⟩ : ∃ w5, w5 = wr := ⟨_, rfl⟩
              rw [← hw5] at hKk5 hHh5 hSs5 hbel5 hPr ⊢
              clear hw5
              go_wp2_with fail
              go_loopw [11] (fun c wr => ∃ i : Nat, i ≤ 1 ∧ c = .int .i64 (64 * (i : Int)) ∧ IBlk .u32 79 wr (w.heap.size + 1) (absorb PL S0 i) ∧ Keep (fun k => k < w5.heap.size ∧ k ≠ w.heap.size + 1) w5 wr) (fun c _ => 64 - (intOf c).toNat)
              case atStart => exact ⟨0, by omega, rfl, hSs5, Keep.refl _ _⟩
              case round =>
                clear hSs5
                obtain ⟨q, hq, rfl, hSr, hKr⟩ := hrel
                have hsl : (absorb PL S0 q).length = 8 := (absorb_length PL S0 q).trans hls
                have hPq := hPr.keep hKr ⟨hPr.lt, by omega⟩
                have hKq := hKk5.keep hKr ⟨hKk5.lt, by omega⟩
                by_cases hqn : q < 1
                · have hrow := row_drop hPq.row (64 * q)
                  rw [Nat.zero_add] at hrow
                  have hdl : 64 ≤ (PL.drop (64 * q)).length := by rw [List.length_drop]; omega
                  have b0 : 0 ≤ 64 * (q : Int) := by omega
                  have b1 : 64 * (q : Int) ≤ 128 := by omega
                  go_wp2_with fail
                  refine (take_any (w.heap.size + 1) BL (64 * q) (128 - 64 * q) (128 - 64 * q) BK (absorb PL S0 q) (PL.drop (64 * q)) K 79 80 _ (by omega) (by omega) (by omega) hPq.lt hSr hrow hKq hsl hdl rfl).mono ?_
                  rintro e w' ⟨rfl, hS', hK'⟩
                  have hsz' := hKr.size
                  have hK2 : Keep (fun k => k < w5.heap.size ∧ k ≠ w.heap.size + 1) w5 w' := hKr.trans (hK'.mono (fun k hk => ⟨Nat.lt_of_lt_of_le hk.1 hsz', hk.2⟩))
                  have hS2 : IBlk .u32 79 w' (w.heap.size + 1) (absorb PL S0 (q + 1)) := hS'
                  clear hS' hK' hKr hSr hPq hKq hrow
                  go_wp2_with fail
                  go_roundw
                  case rel => exact ⟨q + 1, by omega, by go_num, hS2, hK2⟩
                  case measure => simp [intOf]; omega
                · have eq2 : q = 1 := by omega
                  rw [eq2] at hSr hsl
                  clear eq2
                  have hHq := hHh5.keep hKr ⟨hHh5.lt, by omega⟩
                  have hbelq : Below w.heap.size w wr := hbel5.trans (hKr.mono (fun k (hk : k < w.heap.size) => ⟨Nat.lt_of_lt_of_le hk hbel5.size, by omega⟩)).below
                  obtain ⟨st, hst⟩ : ∃ st, st = absorb PL S0 1 := ⟨_, rfl⟩
                  rw [← hst] at hSr hsl
                  have hres : sumL l = outH st 8 := by
                    have ej : j = l.length / 64 := by omega
                    have erl : l.drop (64 * j) = rl := Hrl.out.symm
                    unfold sumL
                    simp only [← ej, erl, hrl]
                    rw [hst, HPL.out, Hp0.out, HS0.out]
                    first | (rw [if_pos h56]) | (rw [if_neg h56])
                  have Hres := Hid2.mk hres
                  clear hres hst hPq hKq hKr hPr hKk5 hHh5 hbel5
                  obtain ⟨w6, hw6⟩ : ∃ w6, w6 = wr := ⟨_, rfl⟩
                  rw [← hw6] at hSr hHq hbelq ⊢
                  clear hw6
                  have hgS : w6.heap[w.heap.size + 1]? = some (.cells (st.map (Value.int .u32)).toArray 79 (0, 0)) := hSr
                  have d0 := hSr.cell 0 (by omega)
                  have d1 := hSr.cell 1 (by omega)
                  have d2 := hSr.cell 2 (by omega)
                  have d3 := hSr.cell 3 (by omega)
                  have d4 := hSr.cell 4 (by omega)
                  have d5 := hSr.cell 5 (by omega)
                  have d6 := hSr.cell 6 (by omega)
                  have d7 := hSr.cell 7 (by omega)
                  clear hgS
                  go_wp2_with fail
                  clear d0 d1 d2 d3 d4 d5 d6 d7
                  go_loopw [58] (fun c wr => ∃ i : Nat, i ≤ 8 ∧ c = .int .i64 i ∧ IBlk .u8 27 wr w.heap.size (outH st i) ∧ Keep (fun k => k ≠ w.heap.size) w6 wr) (fun c _ => 8 - (intOf c).toNat)
                  case atStart => exact ⟨0, by omega, rfl, hHq, Keep.refl _ _⟩
                  case round =>
                    clear hHq hSr
                    obtain ⟨i, hi, rfl, hOr, hKr⟩ := hrel
                    have hol := outH_length st i
                    by_cases hi8 : i < 8
                    · have c0 := hOr.cell (4 * i) (by omega)
                      have c1 := hOr.cell (4 * i + 1) (by omega)
                      have c2 := hOr.cell (4 * i + 2) (by omega)
                      have c3 := hOr.cell (4 * i + 3) (by omega)
                      have f0 := hOr.free (4 * i)
                      have f1 := hOr.free (4 * i + 1)
                      have f2 := hOr.free (4 * i + 2)
                      have f3 := hOr.free (4 * i + 3)
                      have hix := index42 st i hi8
                      go_wp2_with fail
                      go_roundw
                      case rel => exact ⟨i + 1, by omega, by go_num, (((hOr.set _ _).set _ _).set _ _).set _ _, (((hKr.setCell (fun h => h rfl) _).setCell (fun h => h rfl) _).setCell (fun h => h rfl) _).setCell (fun h => h rfl) _⟩
                      case measure => simp [intOf]; omega
                    · have e9 : i = 8 := by omega
                      rw [e9] at hOr
                      clear e9
                      obtain ⟨hh, hhe⟩ : ∃ hh, hh = sumL l := ⟨_, rfl⟩
                      have hsl32 : hh.length = 32 := by rw [hhe]; exact sumL_length l
                      rw [← Hres.out, ← hhe] at hOr
                      have Hhe := Hid2.mk hhe
                      clear hhe
                      have hg0 : wr.heap[w.heap.size]? = some (.cells (hh.map (Value.int .u8)).toArray 27 (0, 0)) := hOr
                      have hbelf : Below w.heap.size w wr := hbelq.trans (hKr.mono (fun k (hk : k < w.heap.size) => by omega)).below
                      clear hOr hol hKr Hres hbelq
                      have hi25 : (Tryd.prog.info? 27).map (·.size) = some (hh.map (Value.int .u8)).toArray.size := by
                        rw [List.size_toArray, List.length_map, hsl32]; kernel_rfl
                      have hone : (hh.map (Value.int .u8)).toArray.all (·.oneCell') = true := by simp [Value.oneCell']
                      have Hi25 := Hid2.mk hi25
                      have Hone := Hid2.mk hone
                      have Hg0 := Hid2.mk hg0
                      clear hi25 hone hg0 hsl32
                      go_wp2_with (first | (refine wpList_load_row rfl 27 (.tmp 2) rfl w.heap.size rfl 27 (hh.map (Value.int .u8)).toArray (0, 0) _ Hg0.out Tryd.underlying27 rfl Hi25.out ?_) | (refine wpList_store_row rfl 27 (.tmp 2) (.tmp 89) rfl w.heap.size (hh.map (Value.int .u8)).toArray rfl rfl 27 (hh.map (Value.int .u8)).toArray Hg0.out Hi25.out rfl Hone.out ?_))
                      refine bodyPost_ret (results_cell_row rfl _ _ w.heap.size 27 (hh.map (Value.int .u8)).toArray (0, 0) _ rfl (setRow_heap _ _ _ _ _ _ Hg0.out) Tryd.underlying27 rfl Hi25.out) rfl ⟨by rw [Hhe.out], ?_⟩
                      exact below_setRow hbelf (Nat.le_refl _) _

end Dig
end Go.Proofs.YtfdgclnjpbkggaaDoor
