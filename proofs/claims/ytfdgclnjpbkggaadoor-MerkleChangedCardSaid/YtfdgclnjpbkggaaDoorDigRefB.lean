/- digest's reference: Sum. -/
import Derived.Test.YtfdgclnjpbkggaaDoorDigRefA
namespace Go.Proofs.YtfdgclnjpbkggaaDoor
open Go.RowKit
namespace Dig

theorem elemBytes : Elem Tryd.prog 60 5 1 := Elem.mk' (k := .u8) (x := 0) Tryd.underlying60 (by kernel_rfl)

/-- n noughts behind a list. -/
def zs (n : Nat) : List Int := List.replicate n 0
/-- The length in digits, its i first bytes. -/
def lenB (n : Nat) : Nat → List Int
  | 0 => []
  | i + 1 => lenB n i ++ [(n : Int) * 8 / 2 ^ (8 * (7 - i)) % 256]
theorem lenB_length (n i : Nat) : (lenB n i).length = i := by
  induction i with
  | zero => rfl
  | succ i ih => simp [lenB, ih]

def Z32 : List Int := List.replicate 32 0
theorem zero25 (w : World) : (zeroValue 27).run Tryd.prog w = .ok (.agg (Z32.map (Value.int .u8)).toArray) w := by kernel_rfl

/-- How many noughts are laid behind n bytes and the mark. -/
def padN (n : Nat) : Nat := (119 - n % 64) % 64
theorem padN_stop (n z : Nat) (hz : z ≤ padN n) : ((n + 1 + z) % 64 = 56) ↔ z = padN n := by unfold padN at *; omega
/-- The padded message. -/
def padded (l : List Int) : List Int := l ++ [128] ++ zs (padN l.length) ++ lenB l.length 8
/-- The words as bytes, n bytes laid. -/
def outR (st : List Int) : Nat → List Int
  | 0 => Z32
  | i + 1 => (outR st i).set i (nth st (i / 4) / 2 ^ (24 - 8 * (i % 4)) % 256)
theorem outR_length (st : List Int) (i : Nat) : (outR st i).length = 32 := by
  induction i with
  | zero => rfl
  | succ i ih => simp [outR, ih]
/-- The digest, as the reference reckons it. -/
def refL (l : List Int) : List Int := outR (absorb (padded l) H0 ((padded l).length / 64)) 32

theorem buf_open {k : IntKind} {e : TypeId} {w : World} {base n c : Nat} {sp : Option Addr} {l : List Int} (h : Buf k e w base (.slice sp n c) l) (h0 : 0 < l.length) :
    ∃ g, sp = some ⟨g, 0, none⟩ ∧ n = l.length ∧ base ≤ g ∧ g < w.heap.size ∧ l.length ≤ c ∧ c ≤ 9223372036854775807 ∧ Row k w g 0 l := by
  rcases h.block with ⟨e1, e2⟩ | ⟨g, cap, rest, e1, hg, h1, h2, hb, -⟩
  · rw [e2] at h0; simp at h0
  · injection e1 with e1 e2 e3
    subst e1 e2 e3
    exact ⟨g, rfl, rfl, hg, hb.lt, h1, by unfold maxLen at h2; exact h2, h.row⟩
theorem keep_setRow {K : Nat → Prop} {a w : World} (h : Keep K a w) {g : Nat} (hg : ¬ K g) (cs : Array Value) : Keep K a (w.setRow g cs) :=
  h.trans ⟨rfl, rfl, rfl, by simp, fun k hk => setRow_other w g k cs (fun e => hg (e ▸ hk))⟩
theorem one_alloc {w w1 : World} {A : Obj} (hb : Below (w.alloc A).heap.size (w.alloc A) w1) :
    w1.heap[w.heap.size]? = some A ∧ Below w.heap.size w w1 ∧ w.heap.size + 1 ≤ w1.heap.size := by
  have hs : (w.alloc A).heap.size = w.heap.size + 1 := by simp
  refine ⟨?_, ?_, ?_⟩
  · rw [hb.block _ (by rw [hs]; omega), heap_alloc_new]
  · exact ((Below.refl _ _).alloc (Nat.le_refl _) _).trans (hb.mono (by rw [hs]; omega))
  · rw [← hs]; exact hb.size

theorem block_any8 (bb ob n cap bk : Nat) (st by_ kk : List Int) (T' : TypeId) (w : World) (hn : 64 ≤ n) (hn2 : n ≤ 9223372036854775807)
    (hbb : bb < w.heap.size) (hby : Row .u8 w bb ob by_) (hkk : IBlk .u32 T' w bk kk) (hl1 : st.length = 8) (hl2 : 64 ≤ by_.length) (hl3 : kk.length = 64) :
    Calls Tryd.prog 45 #[.agg #[.int .u32 (nth st 0), .int .u32 (nth st 1), .int .u32 (nth st 2), .int .u32 (nth st 3), .int .u32 (nth st 4), .int .u32 (nth st 5), .int .u32 (nth st 6), .int .u32 (nth st 7)], .slice (some ⟨bb, ob, none⟩) n cap, .pointer (some ⟨bk, 0, none⟩)] w
      fun e w' => e = .returned (.agg ((compress kk by_ st).map (Value.int .u32)).toArray) ∧ Below w.heap.size w w' := by
  have e : (#[.int .u32 (nth st 0), .int .u32 (nth st 1), .int .u32 (nth st 2), .int .u32 (nth st 3), .int .u32 (nth st 4), .int .u32 (nth st 5), .int .u32 (nth st 6), .int .u32 (nth st 7)] : Array Value) = (st.map (Value.int .u32)).toArray := by
    conv => rhs; rw [eight st hl1]
    rfl
  rw [e]
  exact block_any bb ob n cap bk st by_ kk T' w hn hn2 hbb hby hkk hl1 hl2 hl3

set_option maxRecDepth 100000 in
set_option maxHeartbeats 2000000 in
theorem refSum_any (v : Value) (l : List Int) (w : World) (hv : Sl .u8 w v l) (hn : l.length ≤ 35184372088832) :
    Calls Tryd.prog 29 #[v] w fun e w' => e = .returned (.agg ((refL l).map (Value.int .u8)).toArray) ∧ Below w.heap.size w w' := by
  have hv2 := hv
  obtain ⟨sp, cap, rfl, -, -, -, -⟩ := hv2
  have hz25 := zero25
  have hE0 : Buf .u8 5 ((w.alloc (.cells (Z32.map (Value.int .u8)).toArray 27)).alloc (.cells #[] 5)) (w.heap.size + 1) (.slice (some ⟨w.heap.size + 1, 0, none⟩) 0 0) [] := by
    have := Buf.empty (k := .u8) (e := 5) (w := w.alloc (.cells (Z32.map (Value.int .u8)).toArray 27)) (base := w.heap.size + 1) (by simp)
    simpa using this
  have hBe : Below w.heap.size w ((w.alloc (.cells (Z32.map (Value.int .u8)).toArray 27)).alloc (.cells #[] 5)) := ((Below.refl _ w).alloc (Nat.le_refl _) _).alloc (by simp) _
  have hSe := hv.of_below hBe
  have hHe : IBlk .u8 27 ((w.alloc (.cells (Z32.map (Value.int .u8)).toArray 27)).alloc (.cells #[] 5)) w.heap.size Z32 := IBlk.alloc (VBlk.mk w _ _) _
  have hze : ((w.alloc (.cells (Z32.map (Value.int .u8)).toArray 27)).alloc (.cells #[] 5)).heap.size = w.heap.size + 2 := by simp
  obtain ⟨W0, hW0⟩ : ∃ W0, W0 = ((w.alloc (.cells (Z32.map (Value.int .u8)).toArray 27)).alloc (.cells #[] 5)) := ⟨_, rfl⟩
  have hE1 := hE0
  rw [← hW0] at hHe hBe hze hE0 hSe
  have HE1 := Hid2.mk hE1
  have HW0 := Hid2.mk hW0
  clear hE1 hW0
  go_enter Tryd.func29, Tryd.ntmps29
  go_wp2_with (refine wpList_app rfl (.tmp 11) (.tmp 12) 60 rfl elemBytes (w.heap.size + 1) _ [] rfl HE1.out _ l rfl (by rw [← HW0.out]; exact hSe) l.length ?h1 ?h2 ?h3 ?h4 ?h5)
  case h1 => simp
  case h2 => unfold maxLen; omega
  case h3 => omega
  case h4 => simp
  case h5 =>
    intro sp1 c1 w1 hb1 hk1
    try rw [List.nil_append] at hb1
    rw [← HW0.out] at hk1
    have hs1 := hk1.size
    go_wp2_with (refine wpList_app rfl (.tmp 13) (.tmp 14) 60 rfl elemBytes (w.heap.size + 1) _ l rfl (hb1.alloc _) _ [128] rfl (Sl.one .u8 w1 128 5) (l.length + 1) ?h1 ?h2 ?h3 ?h4 ?h5)
    case h1 => simp
    case h2 => unfold maxLen; omega
    case h3 => omega
    case h4 => simp; omega
    case h5 =>
      intro sp2 c2 w2 hb2 hk2
      have hk02 : Keep (fun k => k < w.heap.size + 1) W0 w2 := (hk1.trans ((Keep.refl _ w1).alloc (fun k (hk : k < w.heap.size + 1) => by omega) _)).trans hk2
      have hbz : 0 ≤ padN l.length := Nat.zero_le _
      have hpz : padN l.length ≤ 63 := by unfold padN; omega
      clear hb1 hk1 hk2 hs1
      have hb20 : Buf .u8 5 w2 (w.heap.size + 1) (.slice sp2 (l.length + 1) c2) (l ++ [128] ++ zs 0) := by simpa [zs] using hb2
      clear hb2
      obtain ⟨M0, hM0⟩ : ∃ M0 : List Int, M0 = l ++ [128] := ⟨_, rfl⟩
      have hM0l : M0.length = l.length + 1 := by rw [hM0]; simp
      rw [← hM0] at hb20
      have HM0 := Hid2.mk hM0
      have HM0l := Hid2.mk hM0l
      clear hM0 hM0l
      go_wp2_with fail
      go_loopw [3] (fun v wr => ∃ z n sp c, z ≤ padN l.length ∧ n = l.length + 1 + z ∧ v = .slice sp n c ∧ Buf .u8 5 wr (w.heap.size + 1) (.slice sp n c) (M0 ++ zs z) ∧ Keep (fun k => k < w.heap.size + 1) W0 wr)
        (fun v _ => l.length + 65 - lenOf v)
      case atStart => exact ⟨0, _, _, _, by omega, rfl, rfl, hb20, hk02⟩
      case round =>
        clear hb20 hk02
        obtain ⟨z, n, sp3, c3, hz, hn1, rfl, hbr, hkr⟩ := hrel
        have Hn1 := Hid2.mk hn1
        have hnb : n ≤ l.length + 64 := by omega
        have hsr := hkr.size
        by_cases hzp : z = padN l.length
        · have ht : (((n : Int) % 64) != 56) = false := by
            have := (padN_stop l.length z hz).2 hzp
            rw [← hn1] at this
            rw [bne_eq_false_iff_eq]; omega
          have hn2 : n = l.length + 1 + padN l.length := by rw [hn1, hzp]
          have hbr2 : Buf .u8 5 wr (w.heap.size + 1) (.slice sp3 n c3) (M0 ++ zs (padN l.length) ++ lenB l.length 0) := by
            rw [← hzp]; simpa [lenB] using hbr
          have Hn2 := Hid2.mk hn2
          have hMl : (M0 ++ zs (padN l.length)).length = n := by rw [List.length_append, HM0l.out, hn2]; simp [zs]
          clear hn1 hzp Hn1 hbr hn2
          obtain ⟨M1, hM1⟩ : ∃ M1 : List Int, M1 = M0 ++ zs (padN l.length) := ⟨_, rfl⟩
          rw [← hM1] at hbr2 hMl
          have HM1 := Hid2.mk hM1
          have HM1l := Hid2.mk hMl
          clear hM1 hMl
          go_wp2_with fail
          go_loopw [3, 5] (fun v i wr => ∃ j nn sp c, j ≤ 8 ∧ nn = n + j ∧ i = .int .i64 (7 - (j : Int)) ∧ v = .slice sp nn c ∧ Buf .u8 5 wr (w.heap.size + 1) (.slice sp nn c) (M1 ++ lenB l.length j) ∧ Keep (fun k => k < w.heap.size + 1) W0 wr)
            (fun _ i _ => (intOf i + 1).toNat)
          case atStart => exact ⟨0, n, sp3, c3, by omega, rfl, rfl, rfl, hbr2, hkr⟩
          case round =>
            clear hbr2 hkr hsr
            obtain ⟨j, nn, sp4, c4, hj, hnn, rfl, rfl, hbr, hkr⟩ := hrel
            have Hnn := Hid2.mk hnn
            have hnb2 : nn ≤ l.length + 72 := by omega
            have hsr := hkr.size
            by_cases hj8 : j < 8
            · clear hnn
              go_wp2_with (refine wpList_app rfl (.tmp 31) (.tmp 38) 60 rfl elemBytes (w.heap.size + 1) _ (M1 ++ lenB l.length j) rfl (hbr.alloc _) _ [(l.length : Int) * 8 / 2 ^ (8 * (7 - j)) % 256] rfl (Sl.one .u8 wr _ 5) (nn + 1) ?g1 ?g2 ?g3 ?g4 ?g5)
              case g1 => rw [List.length_append, HM1l.out, lenB_length, Hnn.out]; rfl
              case g2 => unfold maxLen; omega
              case g3 => omega
              case g4 => simp; omega
              case g5 =>
                intro sp5 c5 w5 hb5 hk5
                have hb6 : Buf .u8 5 w5 (w.heap.size + 1) (.slice sp5 (nn + 1) c5) (M1 ++ lenB l.length (j + 1)) := by
                  rw [lenB]; first | exact hb5 | (rw [← List.append_assoc]; exact hb5)
                have hk6 : Keep (fun k => k < w.heap.size + 1) W0 w5 := (hkr.trans ((Keep.refl _ wr).alloc (fun k (hk : k < w.heap.size + 1) => by omega) _)).trans hk5
                clear hb5 hk5 hbr hkr hsr
                go_wp2_with fail
                go_roundw
                case rel => exact ⟨j + 1, nn + 1, sp5, c5, by omega, by rw [Hnn.out]; rfl, by go_num, rfl, hb6, hk6⟩
                case measure => simp [intOf]; omega
            · have e8 : j = 8 := by omega
              have hdj : decide ((j : Int) ≤ 7) = false := decide_eq_false (by omega)
              rw [e8] at hbr
              clear hnn
              have hnn8 : nn = n + 8 := by rw [Hnn.out, e8]
              obtain ⟨M, hM⟩ : ∃ M : List Int, M = M1 ++ lenB l.length 8 := ⟨_, rfl⟩
              rw [← hM] at hbr
              have hpad : M = padded l := by rw [hM, HM1.out, HM0.out]; rfl
              have hMl : M.length = nn := by rw [hM, List.length_append, HM1l.out, lenB_length, hnn8]
              have hN64 : nn = 64 * (nn / 64) := by
                have := (padN_stop l.length (padN l.length) (Nat.le_refl _)).2 rfl
                have := Hn2.out
                omega
              obtain ⟨q, hq⟩ : ∃ q, q = nn / 64 := ⟨_, rfl⟩
              rw [← hq] at hN64
              rw [← hMl] at hbr
              obtain ⟨g, rfl, -, hgB, hgl, hc4, hc4', hrowM⟩ := buf_open hbr (by omega)
              have hHr := hHe.keep hkr (by omega)
              have hbelr : Below w.heap.size w wr := hBe.trans (hkr.mono (fun k (hk : k < w.heap.size) => by omega)).below
              have Hpad := Hid2.mk hpad
              have HMl := Hid2.mk hMl
              have HN64 := Hid2.mk hN64
              have Hq := Hid2.mk hq
              clear hM hMl hpad hN64 hq hnn8 e8 hbr hkr hsr HM0 HM1 hHe hBe hSe hE0 HE1 hv
              go_wp2_with fail
              refine (k_any _).mono ?_
              rintro e w6 ⟨rfl, hk6⟩
              obtain ⟨hSb, hb6, hz6⟩ := one_alloc hk6
              clear hk6
              have hz43 := zero43
              go_wp2_with (refine wpList_store_row rfl 80 (.tmp 7) (.tmp 41) rfl w6.heap.size (K.map (Value.int .u32)).toArray rfl rfl 80 _ (heap_alloc_new _ _) (by kernel_rfl) (by kernel_rfl) (by kernel_rfl) ?_)
              have hKb : IBlk .u32 80 _ w6.heap.size K := setRow_heap _ w6.heap.size _ (K.map (Value.int .u32)).toArray 80 (0, 0) (heap_alloc_new w6 (.cells (Z64.map (Value.int .u32)).toArray 80))
              have hkeep : Below w6.heap.size w6 ((w6.alloc (.cells (Z64.map (Value.int .u32)).toArray 80)).setRow w6.heap.size (K.map (Value.int .u32)).toArray) :=
                below_setRow ((Below.refl _ _).alloc (Nat.le_refl _) _) (Nat.le_refl _) _
              generalize World.setRow _ _ _ = w7 at hKb hkeep ⊢
              have hS7 : IBlk .u32 78 w7 wr.heap.size H0 := (hkeep.block wr.heap.size (by omega)).trans hSb
              have hM7 : Row .u8 w7 g 0 M := (hrowM.below hb6 hgl).below hkeep (by omega)
              have hH7 : IBlk .u8 27 w7 w.heap.size Z32 := (hHr.below hb6 hHr.lt).below hkeep (by have := hHr.lt; omega)
              have hbel7 : Below w.heap.size w w7 := hbelr.trans ((hb6.mono hbelr.size).trans (hkeep.mono (by have := hbelr.size; omega)))
              have hg7 : g < w7.heap.size := by have := hkeep.size; omega
              have hBSg : g < wr.heap.size := hgl
              have hBKl : wr.heap.size < w6.heap.size := by omega
              have hBKz : w6.heap.size < w7.heap.size := hKb.lt
              have hBw : w.heap.size < g := by omega
              clear hSb hkeep hrowM hHr hbelr hb6 hz6 hz43 hz25 hgl
              generalize w6.heap.size = BK at hKb hBKl hBKz ⊢
              generalize wr.heap.size = BS at hS7 hBSg hBKl ⊢
              have Hn := HMl.out
              have hq1 : nn ≤ 64 * q := by have := HN64.out; omega
              have hq2 : 64 * q ≤ nn := by have := HN64.out; omega
              rw [Hn] at hc4
              clear Hn
              go_loopw [8] (fun c wr => ∃ i : Nat, i ≤ q ∧ c = .int .i64 (64 * (i : Int)) ∧ IBlk .u32 78 wr BS (absorb M H0 i) ∧ Keep (fun k => k < w7.heap.size ∧ k ≠ BS) w7 wr) (fun c _ => 64 * q - (intOf c).toNat)
              case atStart => exact ⟨0, by omega, rfl, hS7, Keep.refl _ _⟩
              case round =>
                clear hS7
                obtain ⟨i, hi, rfl, hSr, hKr⟩ := hrel
                have hsl : (absorb M H0 i).length = 8 := absorb_length M H0 i
                have hMr := hM7.keep hKr ⟨hg7, by omega⟩
                have hKbr := hKb.keep hKr ⟨hBKz, by omega⟩
                by_cases hiq : i < q
                · have hrow := row_drop hMr (64 * i)
                  rw [Nat.zero_add] at hrow
                  have hdl : 64 ≤ (M.drop (64 * i)).length := by rw [List.length_drop, HMl.out]; omega
                  have b0 : 0 ≤ 64 * (i : Int) := by omega
                  have b1 : 64 * (i : Int) + 64 ≤ c4 := by omega
                  have hil : (64 * (i : Int)) < (nn : Int) := by omega
                  have d0 := hSr.cell 0 (by omega)
                  have d1 := hSr.cell 1 (by omega)
                  have d2 := hSr.cell 2 (by omega)
                  have d3 := hSr.cell 3 (by omega)
                  have d4 := hSr.cell 4 (by omega)
                  have d5 := hSr.cell 5 (by omega)
                  have d6 := hSr.cell 6 (by omega)
                  have d7 := hSr.cell 7 (by omega)
                  go_wp2_with fail
                  refine wp_region_still_tail 6 (by kernel_rfl) (by kernel_rfl) ?_
                  simp only [List.take_succ_cons, List.take_zero, List.drop_succ_cons, List.drop_zero]
                  rw [show ({ heap := wr.heap, tape := wr.tape, drawn := wr.drawn + 1, os := wr.os, output := wr.output } : World) = wr.drew from rfl]
                  have g1 : 64 * (i : Int) ≤ 64 * (i : Int) + 64 := by omega
                  have g2 : 0 ≤ 64 * (i : Int) + 64 := by omega
                  have t1 : (64 * (i : Int)).toNat = 64 * i := by omega
                  have t2 : (64 * (i : Int) + 64).toNat = 64 * i + 64 := by omega
                  have t3 : ¬ c4 = 64 * i := by omega
                  have e1 : IntKind.i64.wrap (64 * (i : Int) + 64) = 64 * (i : Int) + 64 := IntWalk.i64_in _ (by omega)
                  repeat still_step
                  clear e1 t1 t2 t3
                  try refine wpStill_nil ?_
                  have hMd : Row .u8 wr.drew g (64 * i) (M.drop (64 * i)) := hrow
                  have hKd : IBlk .u32 80 wr.drew BK K := hKbr
                  have hgd : g < wr.drew.heap.size := by have := hKr.size; show g < wr.heap.size; omega
                  go_wp2_with fail
                  refine (block_any8 g (64 * i) 64 (c4 - 64 * i) BK (absorb M H0 i) (M.drop (64 * i)) K 80 _ (Nat.le_refl _) (by omega) hgd hMd hKd hsl hdl rfl).mono ?_
                  rintro e w' ⟨rfl, hb'⟩
                  have hBSw : BS < wr.heap.size := hSr.lt
                  have hS' : IBlk .u32 78 w' BS (absorb M H0 i) := hSr.of_block (hb'.block BS hBSw)
                  have hgS : w'.heap[BS]? = some (.cells ((absorb M H0 i).map (Value.int .u32)).toArray 78 (0, 0)) := hS'
                  have hsz8 : (Tryd.prog.info? 78).map (·.size) = some ((compress K (M.drop (64 * i)) (absorb M H0 i)).map (Value.int .u32)).toArray.size := by
                    rw [List.size_toArray, List.length_map, compress_length, hsl]; kernel_rfl
                  have hsz9 : ((absorb M H0 i).map (Value.int .u32)).toArray.size = ((compress K (M.drop (64 * i)) (absorb M H0 i)).map (Value.int .u32)).toArray.size := by
                    rw [List.size_toArray, List.length_map, List.size_toArray, List.length_map, compress_length]
                  have hone : ((compress K (M.drop (64 * i)) (absorb M H0 i)).map (Value.int .u32)).toArray.all (·.oneCell') = true := by simp [Value.oneCell']
                  have HgS := Hid2.mk hgS
                  have Hsz8 := Hid2.mk hsz8
                  have Hsz9 := Hid2.mk hsz9
                  have Hone := Hid2.mk hone
                  have hKp : Keep (fun k => k < w7.heap.size ∧ k ≠ BS) w7 w' := hKr.trans (((Keep.refl _ wr).drewN 1).trans ((Keep.of_below hb').mono (fun k hk => by have := hKr.size; show k < wr.heap.size; omega)))
                  clear hgS hsz8 hsz9 hone hMd hKd hgd d0 d1 d2 d3 d4 d5 d6 d7 hb' hrow hMr hKbr hKr hSr
                  go_wp2_with (refine wpList_store_row rfl 78 (.tmp 6) (.tmp 54) rfl BS _ rfl rfl 78 _ HgS.out Hsz8.out Hsz9.out Hone.out ?_)
                  have hS2 : IBlk .u32 78 (w'.setRow BS ((compress K (M.drop (64 * i)) (absorb M H0 i)).map (Value.int .u32)).toArray) BS (absorb M H0 (i + 1)) := setRow_heap _ _ _ _ _ _ HgS.out
                  have hKp2 : Keep (fun k => k < w7.heap.size ∧ k ≠ BS) w7 (w'.setRow BS ((compress K (M.drop (64 * i)) (absorb M H0 i)).map (Value.int .u32)).toArray) := keep_setRow hKp (fun h => h.2 rfl) _
                  clear hKp HgS Hsz8 Hsz9 Hone hS'
                  go_wp2_with fail
                  go_roundw
                  case rel => exact ⟨i + 1, by omega, by go_num, hS2, hKp2⟩
                  case measure => simp [intOf]; omega
                · have eiq : i = q := by omega
                  have hil : decide ((64 * (i : Int)) < (nn : Int)) = false := decide_eq_false (by omega)
                  rw [eiq] at hSr
                  have hHr := hH7.keep hKr ⟨hH7.lt, by omega⟩
                  have hbelr : Below w.heap.size w wr := hbel7.trans (hKr.mono (fun k (hk : k < w.heap.size) => ⟨Nat.lt_of_lt_of_le hk hbel7.size, by omega⟩)).below
                  obtain ⟨st, hst⟩ : ∃ st, st = absorb M H0 q := ⟨_, rfl⟩
                  have hstl : st.length = 8 := by rw [hst]; exact absorb_length M H0 q
                  rw [← hst] at hSr
                  have hres : outR st 32 = refL l := by
                    have e1 : M.length / 64 = q := by rw [HMl.out, Hq.out]
                    rw [hst, ← e1, Hpad.out]; rfl
                  have Hres := Hid2.mk hres
                  clear hres hst hMr hKbr hKr hsl eiq hKb hM7 hH7 hbel7 Hpad
                  have hz25 := zero25
                  go_wp2_with fail
                  clear hz25
                  have hO := VBlk.mk wr (Z32.map (Value.int .u8)) 27
                  have hKo : Below wr.heap.size wr (wr.alloc (.cells (Z32.map (Value.int .u8)).toArray 27)) := (Below.refl _ _).alloc (Nat.le_refl _) _
                  generalize World.alloc _ _ = w8 at hO hKo ⊢
                  have hO8 : IBlk .u8 27 w8 wr.heap.size (outR st 0) := hO
                  have hS8 := hSr.below hKo hSr.lt
                  have hH8 := hHr.below hKo hHr.lt
                  have hbel8 : Below w.heap.size w w8 := hbelr.trans (hKo.mono hbelr.size)
                  have hBO : BS < wr.heap.size := hSr.lt
                  have hHO : w.heap.size < wr.heap.size := hHr.lt
                  clear hO hKo hSr hHr hbelr
                  generalize wr.heap.size = BO at hO8 hBO hHO ⊢
                  go_loopw [10] (fun c wr => ∃ i : Nat, i ≤ 32 ∧ c = .int .i64 i ∧ IBlk .u8 27 wr BO (outR st i) ∧ Keep (fun k => k ≠ BO) w8 wr) (fun c _ => 32 - (intOf c).toNat)
                  case atStart => exact ⟨0, by omega, rfl, hO8, Keep.refl _ _⟩
                  case round =>
                    clear hO8
                    obtain ⟨i, hi, rfl, hOr, hKr⟩ := hrel
                    have hol := outR_length st i
                    by_cases hi32 : i < 32
                    · have hSr := hS8.keep hKr (by omega)
                      have c0 := hSr.cell (i / 4) (by omega)
                      have c1 := hOr.cell i (by omega)
                      have f1 := hOr.free i
                      have b4 : (i : Int) / 4 < 8 := by omega
                      have b5 : (i : Int) % 4 ≤ 3 := by omega
                      have b6 : 0 ≤ (i : Int) % 4 := by omega
                      go_wp2_with fail
                      go_roundw
                      case rel => exact ⟨i + 1, by omega, by go_num, hOr.set _ _, hKr.setCell (fun h => h rfl) _⟩
                      case measure => simp [intOf]; omega
                    · have e9 : i = 32 := by omega
                      have hd32 : decide ((i : Int) < 32) = false := decide_eq_false (by omega)
                      rw [e9, Hres.out] at hOr
                      clear e9
                      obtain ⟨hh, hhe⟩ : ∃ hh, hh = refL l := ⟨_, rfl⟩
                      rw [← hhe] at hOr
                      have hhl : hh.length = 32 := by rw [hhe]; exact outR_length _ _
                      have Hhe := Hid2.mk hhe
                      have hHr := hH8.keep hKr (by omega)
                      have hbelf : Below w.heap.size w wr := hbel8.trans (hKr.mono (fun k (hk : k < w.heap.size) => by omega)).below
                      have hgO : wr.heap[BO]? = some (.cells (hh.map (Value.int .u8)).toArray 27 (0, 0)) := hOr
                      have hgH : wr.heap[w.heap.size]? = some (.cells (Z32.map (Value.int .u8)).toArray 27 (0, 0)) := hHr
                      have hi25 : (Tryd.prog.info? 27).map (·.size) = some (hh.map (Value.int .u8)).toArray.size := by
                        rw [List.size_toArray, List.length_map, hhl]; kernel_rfl
                      have hi26 : (Z32.map (Value.int .u8)).toArray.size = (hh.map (Value.int .u8)).toArray.size := by
                        rw [List.size_toArray, List.length_map, List.size_toArray, List.length_map, hhl]; rfl
                      have hone : (hh.map (Value.int .u8)).toArray.all (·.oneCell') = true := by simp [Value.oneCell']
                      have HgO := Hid2.mk hgO
                      have HgH := Hid2.mk hgH
                      have Hi25 := Hid2.mk hi25
                      have Hi26 := Hid2.mk hi26
                      have Hone := Hid2.mk hone
                      clear hhe hOr hHr hH8 hS8 hbel8 hKr hgO hgH hi25 hi26 hone hol hhl Hres
                      go_wp2_with (first | (refine wpList_load_row rfl 27 (.tmp 9) rfl BO rfl 27 (hh.map (Value.int .u8)).toArray (0, 0) _ HgO.out Tryd.underlying27 rfl Hi25.out ?_) | (refine wpList_store_row rfl 27 (.tmp 2) (.tmp 72) rfl w.heap.size (hh.map (Value.int .u8)).toArray rfl rfl 27 (Z32.map (Value.int .u8)).toArray HgH.out Hi25.out Hi26.out Hone.out ?_))
                      refine bodyPost_ret (results_cell_row rfl _ _ w.heap.size 27 (hh.map (Value.int .u8)).toArray (0, 0) _ rfl (setRow_heap _ _ _ _ _ _ HgH.out) Tryd.underlying27 rfl Hi25.out) rfl ⟨by rw [Hhe.out], ?_⟩
                      exact below_setRow hbelf (Nat.le_refl _) _
        · have ht : (((n : Int) % 64) != 56) = true := by
            have : ¬ n % 64 = 56 := fun h => hzp ((padN_stop l.length z hz).1 (by rw [← hn1]; exact h))
            rw [bne_iff_ne]; omega
          have hzlt : z < padN l.length := by omega
          have hMl : (M0 ++ zs z).length = n := by rw [List.length_append, HM0l.out, hn1]; simp [zs]
          have HMl := Hid2.mk hMl
          clear hMl hn1 hzp
          go_wp2_with (refine wpList_app rfl (.tmp 20) (.tmp 21) 60 rfl elemBytes (w.heap.size + 1) _ (M0 ++ zs z) rfl (hbr.alloc _) _ [0] rfl (Sl.one .u8 wr 0 5) (n + 1) ?g1 ?g2 ?g3 ?g4 ?g5)
          case g1 => rw [HMl.out]; rfl
          case g2 => unfold maxLen; omega
          case g3 => omega
          case g4 => simp; omega
          case g5 =>
            intro sp5 c5 w5 hb5 hk5
            have hb6 : Buf .u8 5 w5 (w.heap.size + 1) (.slice sp5 (n + 1) c5) (M0 ++ zs (z + 1)) := by
              have e : M0 ++ zs (z + 1) = M0 ++ (zs z ++ [0]) := by unfold zs; rw [List.replicate_succ']
              rw [e]; first | exact hb5 | (rw [← List.append_assoc]; exact hb5)
            have hk6 : Keep (fun k => k < w.heap.size + 1) W0 w5 := (hkr.trans ((Keep.refl _ wr).alloc (fun k (hk : k < w.heap.size + 1) => by omega) _)).trans hk5
            clear hb5 hk5 hbr hkr hsr
            go_wp2_with fail
            go_roundw
            case rel => exact ⟨z + 1, n + 1, sp5, c5, by omega, by rw [Hn1.out]; rfl, rfl, hb6, hk6⟩
            case measure => simp [lenOf]; omega

end Dig
end Go.Proofs.YtfdgclnjpbkggaaDoor
