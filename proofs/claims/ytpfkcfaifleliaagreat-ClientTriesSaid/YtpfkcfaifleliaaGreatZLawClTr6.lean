/-
  For every two numbers the law ClientTries answers true, and the arguments read as they did. No condition.
-/
import Derived.Test.YtpfkcfaifleliaaGreatZLawClTr5
import Derived.StillTailTactics
import Derived.Deep.RegionLaw
import Derived.SizedLaws
import Derived.DataOpen
import Derived.ChangeMaps5
namespace Go.Proofs.YtpfkcfaifleliaaGreat
open Go.RowKit
namespace Dig

def wordAt (by_ : List Int) (j : Nat) : Int := word (nth by_ j) (nth by_ (j + 1)) (nth by_ (j + 2)) (nth by_ (j + 3))
def load (by_ : List Int) : Nat → List Int
  | 0 => List.replicate 64 0
  | n + 1 => (load by_ n).set n (wordAt by_ (4 * n))
theorem load_length (by_ : List Int) (n : Nat) : (load by_ n).length = 64 := by
  induction n with
  | zero => rfl
  | succ n ih => rw [load, List.length_set, ih]

def sig0 (x : Int) : Int := bits .xor .u32 (bits .xor .u32 (rotr x 7) (rotr x 18)) (x / 8)
def sig1 (x : Int) : Int := bits .xor .u32 (bits .xor .u32 (rotr x 17) (rotr x 19)) (x / 1024)
def sched (l : List Int) : Nat → List Int
  | 0 => l
  | n + 1 => (sched l n).set (16 + n) ((nth (sched l n) n + sig0 (nth (sched l n) (n + 1)) + nth (sched l n) (n + 9) + sig1 (nth (sched l n) (n + 14))) % 4294967296)
theorem sched_length (l : List Int) (n : Nat) : (sched l n).length = l.length := by
  induction n with
  | zero => rfl
  | succ n ih => rw [sched, List.length_set, ih]

theorem eight (l : List Int) (h : l.length = 8) : l = [nth l 0, nth l 1, nth l 2, nth l 3, nth l 4, nth l 5, nth l 6, nth l 7] := by
  match l, h with
  | [a, b, c, d, e, f, g, i], _ => rfl
theorem mk8 (w : World) (l : List Int) (h : l.length = 8) :
    IBlk .u32 274 (w.alloc (.cells #[.int .u32 (nth l 0), .int .u32 (nth l 1), .int .u32 (nth l 2), .int .u32 (nth l 3), .int .u32 (nth l 4), .int .u32 (nth l 5), .int .u32 (nth l 6), .int .u32 (nth l 7)] 274)) w.heap.size l := by
  have := VBlk.mk w (l.map (Value.int .u32)) 274
  match l, h with
  | [a, b, c, d, e, f, g, i], _ => exact this
def rt (kk W v : List Int) (i : Nat) : Int :=
  nth v 7 + bits .xor .u32 (bits .xor .u32 (rotr (nth v 4) 6) (rotr (nth v 4) 11)) (rotr (nth v 4) 25) +
    bits .xor .u32 (bits .and .u32 (nth v 4) (nth v 5)) (bits .and .u32 (bits .xor .u32 IntKind.u32.max (nth v 4)) (nth v 6)) + nth kk i + nth W i
def ru (v : List Int) : Int :=
  bits .xor .u32 (bits .xor .u32 (rotr (nth v 0) 2) (rotr (nth v 0) 13)) (rotr (nth v 0) 22) +
    bits .xor .u32 (bits .xor .u32 (bits .and .u32 (nth v 0) (nth v 1)) (bits .and .u32 (nth v 0) (nth v 2))) (bits .and .u32 (nth v 1) (nth v 2))
def rnd (kk W v : List Int) (i : Nat) : List Int :=
  [(rt kk W v i + ru v) % 4294967296, nth v 0, nth v 1, nth v 2, (nth v 3 + rt kk W v i) % 4294967296, nth v 4, nth v 5, nth v 6]
def rounds (kk W v : List Int) : Nat → List Int
  | 0 => v
  | n + 1 => rnd kk W (rounds kk W v n) n
theorem rounds_length (kk W v : List Int) (n : Nat) (h : v.length = 8) : (rounds kk W v n).length = 8 := by
  cases n with
  | zero => exact h
  | succ n => rfl
theorem set8 {k : IntKind} {T : TypeId} {w : World} {b : Nat} {l : List Int} (h : IBlk k T w b l) (hl : l.length = 8) (x0 x1 x2 x3 x4 x5 x6 x7 : Int) :
    IBlk k T ((((((((w.setCell ⟨b, 0, none⟩ (.int k x0)).setCell ⟨b, 1, none⟩ (.int k x1)).setCell ⟨b, 2, none⟩ (.int k x2)).setCell ⟨b, 3, none⟩ (.int k x3)).setCell ⟨b, 4, none⟩ (.int k x4)).setCell ⟨b, 5, none⟩ (.int k x5)).setCell ⟨b, 6, none⟩ (.int k x6)).setCell ⟨b, 7, none⟩ (.int k x7)) b [x0, x1, x2, x3, x4, x5, x6, x7] := by
  have := (((((((h.set 0 x0).set 1 x1).set 2 x2).set 3 x3).set 4 x4).set 5 x5).set 6 x6).set 7 x7
  match l, hl with
  | [a, b, c, d, e, f, g, i], _ => exact this
theorem oth8 {K : Nat → Prop} {w w' : World} {b : Nat} (h : Keep K w w') (hK : ¬ K b) (x0 x1 x2 x3 x4 x5 x6 x7 : Value) :
    Keep K w ((((((((w'.setCell ⟨b, 0, none⟩ x0).setCell ⟨b, 1, none⟩ x1).setCell ⟨b, 2, none⟩ x2).setCell ⟨b, 3, none⟩ x3).setCell ⟨b, 4, none⟩ x4).setCell ⟨b, 5, none⟩ x5).setCell ⟨b, 6, none⟩ x6).setCell ⟨b, 7, none⟩ x7) :=
  (((((((h.setCell hK x0).setCell hK x1).setCell hK x2).setCell hK x3).setCell hK x4).setCell hK x5).setCell hK x6).setCell hK x7
def addInto (st v : List Int) : Nat → List Int
  | 0 => st
  | n + 1 => (addInto st v n).set n ((nth (addInto st v n) n + nth v n) % 4294967296)
theorem addInto_length (st v : List Int) (n : Nat) : (addInto st v n).length = st.length := by
  induction n with
  | zero => rfl
  | succ n ih => rw [addInto, List.length_set, ih]
def compress (kk by_ st : List Int) : List Int := addInto st (rounds kk (sched (load by_ 16) 48) st 64) 8

set_option maxRecDepth 100000 in
set_option maxHeartbeats 1000000 in
theorem take_any (bs bb ob n cap bk : Nat) (st by_ kk : List Int) (T T' : TypeId) (w : World) (hn : 64 ≤ n) (hn2 : n ≤ 9223372036854775807) (hcap : n ≤ cap)
    (hbb : bb < w.heap.size) 
    (hst : IBlk .u32 T w bs st) (hby : Row .u8 w bb ob by_) (hkk : IBlk .u32 T' w bk kk) (hl1 : st.length = 8) (hl2 : 64 ≤ by_.length) (hl3 : kk.length = 64) :
    Calls Tryz.prog 149 #[.pointer (some ⟨bs, 0, none⟩), .slice (some ⟨bb, ob, none⟩) n cap, .pointer (some ⟨bk, 0, none⟩)] w
      fun e w' => e = .returned (.tuple #[]) ∧ IBlk .u32 T w' bs (compress kk by_ st) ∧ Keep (fun k => k < w.heap.size ∧ k ≠ bs) w w' := by
  have hbs := hst.lt; have hbk := hkk.lt
  go_enter Tryz.func149, Tryz.ntmps149
  go_wp2
  have hW : IBlk .u32 275 (w.alloc (.cells ((List.replicate 64 (0:Int)).map (Value.int .u32)).toArray 275)) w.heap.size (load by_ 0) := VBlk.mk w _ _; have hB : Below w.heap.size w (w.alloc (.cells ((List.replicate 64 (0:Int)).map (Value.int .u32)).toArray 275)) := (Below.refl _ _).alloc (Nat.le_refl _) _; simp only [List.replicate, List.map] at hW hB; generalize w.alloc _ = w1 at hW hB ⊢
  go_loopw [20] (fun c wr => ∃ i : Nat, i ≤ 16 ∧ c = .int .i64 i ∧ IBlk .u32 275 wr w.heap.size (load by_ i) ∧ Below w.heap.size w wr)
    (fun c _ => 16 - (intOf c).toNat)
  case atStart => exact ⟨0, by omega, rfl, hW, hB⟩
  case round =>
    obtain ⟨i, hi, rfl, hWr, hBr⟩ := hrel; have hlw := load_length by_ i
    by_cases h16 : i < 16
    · have hbyr := hby.below hBr hbb
      have c0 := hWr.cell i (by omega); have f0 := hWr.free i
      go_wp2_with (go_at_call 178; refine (word_any bb (ob + 4 * i) _ _ _ _ _ _ _ (by omega) (hbyr.at (4 * i) (by omega)) (hbyr.at' (4 * i + 1) _ (by omega) (by omega)) (hbyr.at' (4 * i + 2) _ (by omega) (by omega)) (hbyr.at' (4 * i + 3) _ (by omega) (by omega))).mono ?_; rintro e w' ⟨rfl, nq, rfl⟩)
      go_roundw
      case rel => exact ⟨i + 1, by omega, by go_num, (hWr.drewN nq).set _ _, (hBr.trans (Keep.below ((Keep.refl _ _).drewN nq))).setCell (Nat.le_refl _) _⟩
      case measure => simp [intOf]; omega
    · have e16 : i = 16 := by omega
      have hWf : IBlk .u32 275 wr w.heap.size (load by_ 16) := by rw [← e16]; exact hWr
      clear e16 hWr
      go_wp2
      go_loopw [8] (fun c wr => ∃ i : Nat, i ≤ 48 ∧ c = .int .i64 (16 + (i : Int)) ∧ IBlk .u32 275 wr w.heap.size (sched (load by_ 16) i) ∧ Below w.heap.size w wr)
        (fun c _ => 64 - (intOf c).toNat)
      case atStart => exact ⟨0, by omega, rfl, hWf, hBr⟩
      case round =>
        clear hWf hBr hlw; obtain ⟨i, hi2, rfl, hWr, hBr⟩ := hrel; have hlw := (sched_length (load by_ 16) i).trans (load_length by_ 16)
        by_cases h48 : i < 48
        · have c0 := hWr.cell (16 + i) (by omega)
          have c1 := hWr.cell' (16 + i - 15) (i + 1) (by omega) (by omega); have c2 := hWr.cell' (16 + i - 2) (i + 14) (by omega) (by omega); have c3 := hWr.cell i (by omega); have c4 := hWr.cell' (16 + i - 7) (i + 9) (by omega) (by omega); have f0 := hWr.free (16 + i)
          go_wp2_with fail
          go_quiet (fail)
          go_wp2_with (go_at_call 179; refine (turn_any _ _ _ (by omega) (by omega)).mono ?_; rintro e w' ⟨rfl, rfl⟩)
          go_region
          go_wp2
          go_roundw
          case rel =>
            exact ⟨i + 1, by omega, by go_num, (hWr.drewN _).set _ _, ((Keep.of_below hBr).drewN _).below.setCell (Nat.le_refl _) _⟩
          case measure => simp [intOf]; omega
        · have e48 : i = 48 := by omega
          have hWf : IBlk .u32 275 wr w.heap.size (sched (load by_ 16) 48) := by rw [← e48]; exact hWr
          clear e48 hWr hlw; have hstr : IBlk .u32 T wr bs st := hst.below hBr hbs; have hkkr : IBlk .u32 T' wr bk kk := hkk.below hBr hbk; have d0 := hstr.cell 0 (by omega); have d1 := hstr.cell 1 (by omega); have d2 := hstr.cell 2 (by omega); have d3 := hstr.cell 3 (by omega); have d4 := hstr.cell 4 (by omega); have d5 := hstr.cell 5 (by omega); have d6 := hstr.cell 6 (by omega); have d7 := hstr.cell 7 (by omega)
          go_wp2
          have hV := mk8 wr st hl1; have hBz : w.heap.size < wr.heap.size := hWf.lt; have hB2 : Below w.heap.size w _ := hBr.alloc (Nat.le_of_lt hBz) (.cells #[.int .u32 (nth st 0), .int .u32 (nth st 1), .int .u32 (nth st 2), .int .u32 (nth st 3), .int .u32 (nth st 4), .int .u32 (nth st 5), .int .u32 (nth st 6), .int .u32 (nth st 7)] 274); have hW2 := hWf.alloc (.cells #[.int .u32 (nth st 0), .int .u32 (nth st 1), .int .u32 (nth st 2), .int .u32 (nth st 3), .int .u32 (nth st 4), .int .u32 (nth st 5), .int .u32 (nth st 6), .int .u32 (nth st 7)] 274); generalize wr.alloc _ = w2 at hV hB2 hW2 ⊢; clear d0 d1 d2 d3 d4 d5 d6 d7 hWf hBr hstr hkkr; generalize wr.heap.size = Bv at hV hBz ⊢; have hlW : (sched (load by_ 16) 48).length = 64 := (sched_length (load by_ 16) 48).trans (load_length by_ 16); obtain ⟨W, hWW⟩ : ∃ W, W = sched (load by_ 16) 48 := ⟨_, rfl⟩; rw [← hWW] at hW2 hlW; have HW := Lib.hid hWW; clear hWW
          go_loopw [77] (fun c wr => ∃ i : Nat, i ≤ 64 ∧ c = .int .i64 i ∧ IBlk .u32 275 wr w.heap.size W ∧ IBlk .u32 274 wr Bv (rounds kk W st i) ∧ Below w.heap.size w wr)
            (fun c _ => 64 - (intOf c).toNat)
          case atStart => exact ⟨0, by omega, rfl, hW2, hV, hB2⟩
          case round =>
            clear hW2 hV hB2; obtain ⟨r, hr, rfl, hWr, hVr, hBr⟩ := hrel; have hlv := rounds_length kk W st r hl1; obtain ⟨v, hvv⟩ : ∃ v, v = rounds kk W st r := ⟨_, rfl⟩; rw [← hvv] at hVr hlv; have Hv := Lib.hid hvv; clear hvv
            by_cases hr64 : r < 64
            · have hkkr : IBlk .u32 T' wr bk kk := hkk.below hBr hbk
              have d0 := hVr.cell 0 (by omega); have d1 := hVr.cell 1 (by omega); have d2 := hVr.cell 2 (by omega); have d3 := hVr.cell 3 (by omega); have d4 := hVr.cell 4 (by omega); have d5 := hVr.cell 5 (by omega); have d6 := hVr.cell 6 (by omega); have d7 := hVr.cell 7 (by omega); have f0 := hVr.free; have k0 := hkkr.cell r (by omega); have w0 := hWr.cell r (by omega)
              go_wp2_with fail
              go_quiet (fail)
              go_wp2_with fail
              go_quiet ((go_at_call 179; exact quiet_add_left (turn_any _ _ _ (by omega) (by omega))))
              go_wp2_with fail
              go_quiet ((go_at_call 179; exact quiet_add_left (turn_any _ _ _ (by omega) (by omega))))
              go_wp2
              go_roundw
              case rel =>
                refine ⟨r + 1, by omega, by go_num, hWr.keep (oth8 ((Keep.refl (fun k => k < Bv) wr).drewN _) (Nat.lt_irrefl _) _ _ _ _ _ _ _ _) hBz, ?_, ?_⟩
                · rw [rounds, ← Hv.out]
                  exact set8 (hVr.drewN _) hlv _ _ _ _ _ _ _ _
                · exact (oth8 ((Keep.of_below hBr).drewN _) (Nat.not_lt.2 (Nat.le_of_lt hBz)) _ _ _ _ _ _ _ _).below
              case measure => simp [intOf]; omega
            · have e64 : r = 64 := by omega
              have hVf : IBlk .u32 274 wr Bv (rounds kk W st 64) := by rw [← e64, ← Hv.out]; exact hVr
              have hstr : IBlk .u32 T wr bs st := hst.below hBr hbs; have hl8 := rounds_length kk W st 64 hl1; have hres : compress kk by_ st = addInto st (rounds kk W st 64) 8 := by rw [HW.out]; rfl
              have Hres := Lib.hid hres; clear hres e64 hVr hWr hlv Hv HW hlW; obtain ⟨z, hz⟩ : ∃ z, z = rounds kk W st 64 := ⟨_, rfl⟩; rw [← hz] at hVf hl8; have Hz := Lib.hid hz; clear hz; have hBz2 : Keep (fun k => k < w.heap.size ∧ k ≠ bs) w wr := (Keep.of_below hBr).mono fun _ h => h.1
              go_wp2
              go_loopw [161] (fun c wr => ∃ i : Nat, i ≤ 8 ∧ c = .int .i64 i ∧ IBlk .u32 274 wr Bv z ∧ IBlk .u32 T wr bs (addInto st z i) ∧ Keep (fun k => k < w.heap.size ∧ k ≠ bs) w wr)
                (fun c _ => 8 - (intOf c).toNat)
              case atStart => exact ⟨0, by omega, rfl, hVf, hstr, hBz2⟩
              case round =>
                clear hVf hstr hBz2 hBr; obtain ⟨q, hq, rfl, hVr, hSr, hKr⟩ := hrel; have hls := (addInto_length st z q).trans hl1
                by_cases h8 : q < 8
                · have s0 := hSr.cell q (by omega)
                  have v0 := hVr.cell q (by omega); have f0 := hSr.free q
                  go_wp2_with fail
                  go_region
                  go_wp2
                  go_roundw
                  case rel =>
                    refine ⟨q + 1, by omega, by go_num, ?_, ?_, ?_⟩
                    · exact hVr.other _ _ (by show Bv ≠ bs; omega)
                    · exact hSr.set _ _
                    · exact (hKr.setCell (fun h => h.2 rfl) _).drewN 1
                  case measure => simp [intOf]; omega
                · have e8 : q = 8 := by omega
                  have hSf : IBlk .u32 T wr bs (compress kk by_ st) := by rw [Hres.out, ← Hz.out, ← e8]; exact hSr
                  clear e8 hSr hVr Hres Hz hls
                  go_wp2
                  go_end0
                  exact ⟨rfl, hSf, hKr⟩

end Dig
end Go.Proofs.YtpfkcfaifleliaaGreat

namespace Go.Proofs.YtpfkcfaifleliaaGreat
open Go.RowKit
namespace Dig

def K : List Int := [
  0x428a2f98, 0x71374491, 0xb5c0fbcf, 0xe9b5dba5, 0x3956c25b, 0x59f111f1, 0x923f82a4, 0xab1c5ed5,
  0xd807aa98, 0x12835b01, 0x243185be, 0x550c7dc3, 0x72be5d74, 0x80deb1fe, 0x9bdc06a7, 0xc19bf174,
  0xe49b69c1, 0xefbe4786, 0x0fc19dc6, 0x240ca1cc, 0x2de92c6f, 0x4a7484aa, 0x5cb0a9dc, 0x76f988da,
  0x983e5152, 0xa831c66d, 0xb00327c8, 0xbf597fc7, 0xc6e00bf3, 0xd5a79147, 0x06ca6351, 0x14292967,
  0x27b70a85, 0x2e1b2138, 0x4d2c6dfc, 0x53380d13, 0x650a7354, 0x766a0abb, 0x81c2c92e, 0x92722c85,
  0xa2bfe8a1, 0xa81a664b, 0xc24b8b70, 0xc76c51a3, 0xd192e819, 0xd6990624, 0xf40e3585, 0x106aa070,
  0x19a4c116, 0x1e376c08, 0x2748774c, 0x34b0bcb5, 0x391c0cb3, 0x4ed8aa4a, 0x5b9cca4f, 0x682e6ff3,
  0x748f82ee, 0x78a5636f, 0x84c87814, 0x8cc70208, 0x90befffa, 0xa4506ceb, 0xbef9a3f7, 0xc67178f2]

set_option maxRecDepth 100000 in
set_option maxHeartbeats 1000000 in
theorem numbers_any (w : World) :
    Calls Tryz.prog 148 #[] w fun e w' => e = .returned (.agg (K.map (Value.int .u32)).toArray) ∧ Below w.heap.size w w' := by
  go_enter Tryz.func148, Tryz.ntmps148
  go_wp2_with (first | (refine wpList_build_to rfl 275 _ rfl (K.map (Value.int .u32)).toArray (by kernel_rfl) ?_) | (refine wpList_store_row rfl 275 _ _ rfl w.heap.size (K.map (Value.int .u32)).toArray rfl rfl 275 _ (heap_alloc_new _ _) (by kernel_rfl) (by kernel_rfl) (by kernel_rfl) ?_))
  refine bodyPost_ret (results_cell_row rfl _ _ w.heap.size 275 (K.map (Value.int .u32)).toArray (0, 0) _ rfl (setRow_heap _ _ _ _ _ _ (heap_alloc_new _ _)) Tryz.underlying275 rfl (by kernel_rfl)) rfl ⟨rfl, ?_⟩; exact below_setRow ((Below.refl _ _).alloc (Nat.le_refl _) _) (Nat.le_refl _) _

end Dig
end Go.Proofs.YtpfkcfaifleliaaGreat

namespace Go.Proofs.YtpfkcfaifleliaaGreat
open Go.RowKit
namespace Dig

def H0 : List Int := [0x6a09e667, 0xbb67ae85, 0x3c6ef372, 0xa54ff53a, 0x510e527f, 0x9b05688c, 0x1f83d9ab, 0x5be0cd19]
def absorb (l st : List Int) : Nat → List Int
  | 0 => st
  | j + 1 => compress K (l.drop (64 * j)) (absorb l st j)
theorem compress_length (kk by_ st : List Int) : (compress kk by_ st).length = st.length := addInto_length st _ 8
theorem absorb_length (l st : List Int) (j : Nat) : (absorb l st j).length = st.length := by
  induction j with
  | zero => rfl
  | succ j ih => rw [absorb, compress_length, ih]

def putLen (p : List Int) (e n : Nat) : Nat → List Int
  | 0 => p
  | i + 1 => (putLen p e n i).set (e - 1 - i) ((n : Int) * 8 / 2 ^ (8 * i) % 256)
theorem putLen_length (p : List Int) (e n i : Nat) : (putLen p e n i).length = p.length := by
  induction i with
  | zero => rfl
  | succ i ih => rw [putLen, List.length_set, ih]
def outH (st : List Int) : Nat → List Int
  | 0 => List.replicate 32 0
  | i + 1 => ((((outH st i).set (4 * i) (nth st i / 16777216 % 256)).set (4 * i + 1) (nth st i / 65536 % 256)).set (4 * i + 2) (nth st i / 256 % 256)).set (4 * i + 3) (nth st i % 256)
theorem outH_length (st : List Int) (i : Nat) : (outH st i).length = 32 := by
  induction i with
  | zero => rfl
  | succ i ih => simp [outH, ih]
def sumL (l : List Int) : List Int :=
  let j := l.length / 64
  let rl := l.drop (64 * j)
  let p0 := (rl ++ List.replicate (128 - rl.length) 0).set rl.length 128
  outH (if 56 ≤ rl.length then absorb (putLen p0 128 l.length 8) (absorb l H0 j) 2 else absorb (putLen p0 64 l.length 8) (absorb l H0 j) 1) 8
theorem sumL_length (l : List Int) : (sumL l).length = 32 := outH_length _ _
theorem Tryz.infoU32 : (Tryz.prog.info? 148).map (fun i => (i.zero, i.size, i.bytes)) = some (some (.int .u32 0), 1, 4) := by kernel_rfl

theorem pick8 (st : List Int) (i : Nat) (h : i < 8) :
    (#[.int .u32 (nth st 0), .int .u32 (nth st 1), .int .u32 (nth st 2), .int .u32 (nth st 3), .int .u32 (nth st 4), .int .u32 (nth st 5), .int .u32 (nth st 6), .int .u32 (nth st 7)] : Array Value)[i]? = some (.int .u32 (nth st i)) := by
  match i, h with
  | 0, _ => rfl
  | 1, _ => rfl
  | 2, _ => rfl
  | 3, _ => rfl
  | 4, _ => rfl
  | 5, _ => rfl
  | 6, _ => rfl
  | 7, _ => rfl

theorem index42 (st : List Int) (i : Nat) (h : i < 8) (W : World) :
    (Instr.index 274 (.agg #[.int .u32 (nth st 0), .int .u32 (nth st 1), .int .u32 (nth st 2), .int .u32 (nth st 3), .int .u32 (nth st 4), .int .u32 (nth st 5), .int .u32 (nth st 6), .int .u32 (nth st 7)]) (.int .i64 (i : Int))).run Tryz.prog W = .ok (.int .u32 (nth st i)) W := by
  obtain ⟨it, hit, -, hit2, -⟩ := info_parts Tryz.infoU32; exact run_index_arr W _ _ 8 _ it Tryz.underlying274 hit hit2 Tryz.underlying148 rfl _ .i64 i h _ (pick8 st i h)

def Z128 : List Value := List.replicate 128 (.int .u8 0)
theorem zero47 (w : World) : (zeroValue 279).run Tryz.prog w = .ok (.agg Z128.toArray) w := by kernel_rfl

set_option maxRecDepth 100000 in
set_option maxHeartbeats 1000000 in
theorem sum_any (v : Value) (l : List Int) (w : World) (hv : Sl .u8 w v l) (hn : l.length ≤ 1152921504606846975) :
    Calls Tryz.prog 121 #[v] w fun e w' => e = .returned (.agg ((sumL l).map (Value.int .u8)).toArray) ∧ Below w.heap.size w w' := by
  obtain ⟨sp, cap, rfl, hc1, hc2, hrow, -⟩ := hv
  go_enter Tryz.func121, Tryz.ntmps121
  go_wp2_with fail
  refine (numbers_any _).mono ?_; rintro e w1 ⟨rfl, hb1⟩; obtain ⟨hB0, hB1, hb, hsz⟩ := two_alloc hb1; clear hb1
  go_wp2_with (refine wpList_store_row rfl 275 _ _ rfl w1.heap.size (K.map (Value.int .u32)).toArray rfl rfl 275 _ (heap_alloc_new _ _) (by kernel_rfl) (by kernel_rfl) (by kernel_rfl) ?_)
  have hKb := setRow_heap _ w1.heap.size _ (K.map (Value.int .u32)).toArray 275 (0, 0) (heap_alloc_new w1 (.cells ((List.replicate 64 (0 : Int)).map (Value.int .u32)).toArray 275)); have hkeep : Below w1.heap.size w1 ((w1.alloc (.cells ((List.replicate 64 (0 : Int)).map (Value.int .u32)).toArray 275)).setRow w1.heap.size (K.map (Value.int .u32)).toArray) :=
    below_setRow ((Below.refl _ _).alloc (Nat.le_refl _) _) (Nat.le_refl _) _
  simp only [List.replicate, List.map_cons, List.map_nil] at hKb hkeep; generalize World.setRow _ _ _ = w2 at hKb hkeep ⊢; have hz2 : w1.heap.size < w2.heap.size := lt_of_block hKb; have hKk : IBlk .u32 275 w2 w1.heap.size K := hKb; have hHh : IBlk .u8 69 w2 w.heap.size (List.replicate 32 0) := (hkeep.block w.heap.size (by omega)).trans hB0; have hSs : IBlk .u32 274 w2 (w.heap.size + 1) H0 := (hkeep.block (w.heap.size + 1) (by omega)).trans hB1; have hbel : Below w.heap.size w w2 := hb.trans (hkeep.mono (by omega)); clear hKb hkeep hB0 hB1; obtain ⟨BK, hBK⟩ : ∃ BK, BK = w1.heap.size := ⟨_, rfl⟩; rw [← hBK] at hKk hz2 hsz ⊢; clear hBK hb; have hrow0 : 0 < l.length → ∃ b o, sp = some ⟨b, o, none⟩ ∧ b < w.heap.size ∧ Row .u8 w b o (l.drop (64 * 0)) := hrow
  go_loopw [5] (fun r wr => ∃ j m sq rc, m + 64 * j = l.length ∧ m ≤ rc ∧ rc ≤ 9223372036854775807 ∧ r = .slice sq m rc ∧
      (0 < m → ∃ b o, sq = some ⟨b, o, none⟩ ∧ b < w.heap.size ∧ Row .u8 w b o (l.drop (64 * j))) ∧
      IBlk .u32 275 wr BK K ∧ IBlk .u8 69 wr w.heap.size (List.replicate 32 0) ∧ IBlk .u32 274 wr (w.heap.size + 1) (absorb l H0 j) ∧ Below w.heap.size w wr)
    (fun r _ => lenOf r)
  case atStart => exact ⟨0, l.length, sp, cap, by omega, hc1, hc2, rfl, hrow0, hKk, hHh, hSs, hbel⟩
  case round =>
    clear hKk hHh hSs hbel hz2 hrow0; obtain ⟨j, m, sq, rc, hm, hrc1, hrc2, rfl, hsq, hKk, hHh, hSs, hbel⟩ := hrel; have hls : (absorb l H0 j).length = 8 := absorb_length l H0 j; have hbsz := hbel.size
    by_cases h64 : 64 ≤ m
    · obtain ⟨b, o, rfl, hbw, hrw⟩ := hsq (by omega)
      have hrwr : Row .u8 wr b o (l.drop (64 * j)) := hrw.below hbel hbw; have hstep : ∀ w', IBlk .u32 274 w' (w.heap.size + 1) (compress K (l.drop (64 * j)) (absorb l H0 j)) → Keep (fun k => k < wr.heap.size ∧ k ≠ w.heap.size + 1) wr w' →
          IBlk .u32 275 w' BK K ∧ IBlk .u8 69 w' w.heap.size (List.replicate 32 0) ∧ IBlk .u32 274 w' (w.heap.size + 1) (absorb l H0 (j + 1)) ∧ Below w.heap.size w w' := by
        intro w' hS hKp; exact ⟨hKk.keep hKp ⟨hKk.lt, by omega⟩, hHh.keep hKp ⟨hHh.lt, by omega⟩, hS, hbel.trans (hKp.mono (fun k hk => ⟨by omega, by omega⟩)).below⟩
      have hdrop : 64 ≤ (l.drop (64 * j)).length := by rw [List.length_drop]; omega
      by_cases hcap : rc = 64
      · have hm64 : m = 64 := by omega
        subst hm64; subst hcap
        go_wp2_with fail
        refine (take_any (w.heap.size + 1) b o 64 64 BK (absorb l H0 j) (l.drop (64 * j)) K 274 275 _ (Nat.le_refl _) (by omega) (Nat.le_refl _) (by omega) hSs hrwr hKk hls hdrop rfl).mono ?_; rintro e w' ⟨rfl, hS', hK'⟩; have hfin := hstep w' hS' hK'; clear hstep hS' hK' hSs hKk hHh hbel hrwr hrw hsq
        go_wp2
        go_roundw
        case rel => exact ⟨j + 1, 0, _, 0, by omega, by omega, by omega, rfl, fun h => absurd h (by omega), hfin⟩
        case measure => simp [lenOf]
      · go_wp2_with fail
        refine (take_any (w.heap.size + 1) b o m rc BK (absorb l H0 j) (l.drop (64 * j)) K 274 275 _ h64 (by omega) hrc1 (by omega) hSs hrwr hKk hls hdrop rfl).mono ?_; rintro e w' ⟨rfl, hS', hK'⟩; have hfin := hstep w' hS' hK'; have hrw2 : Row .u8 w b (o + 64) (l.drop (64 * (j + 1))) := by
          have := row_drop hrw 64; rw [List.drop_drop] at this; rwa [Nat.mul_add]
        clear hstep hS' hK' hSs hKk hHh hbel hrwr hrw hsq
        go_wp2
        go_roundw
        case rel => exact ⟨j + 1, m - 64, _, rc - 64, by omega, by omega, by omega, rfl, fun _ => ⟨b, o + 64, rfl, hbw, hrw2⟩, hfin⟩
        case measure => simp [lenOf]; omega
    · have hml : m < 64 := by omega
      have hrl : (l.drop (64 * j)).length = m := by rw [List.length_drop]; omega
      obtain ⟨rl, hrl2⟩ : ∃ rl, rl = l.drop (64 * j) := ⟨_, rfl⟩; rw [← hrl2] at hsq hrl; have Hrl := Lib.hid hrl2; clear hrl2; have hZ : VBlk 279 (wr.alloc (.cells Z128.toArray 279)) wr.heap.size Z128 := VBlk.mk wr _ _; have hZk : Below wr.heap.size wr (wr.alloc (.cells Z128.toArray 279)) := (Below.refl _ _).alloc (Nat.le_refl _) _; obtain ⟨cs, hcs⟩ : ∃ cs, cs = rl.map (Value.int .u8) := ⟨_, rfl⟩; have Hcs := Lib.hid hcs; have hcl : cs.length = m := by rw [hcs]; simpa using hrl
      have hcone : ∀ v ∈ cs, v.oneCell' = true := by rw [hcs]; intro v hv; simp at hv; obtain ⟨_, _, rfl⟩ := hv; rfl
      have hsrc : 0 < cs.length → some (⟨wr.heap.size, 0, none⟩ : Addr) = some ⟨wr.heap.size, 0, none⟩ ∧ ∃ ad, sq = some ad ∧ ∀ j v, cs[j]? = some v → wr.cell? (ad.add j) = some v := by
        intro h0; refine ⟨rfl, ?_⟩; obtain ⟨b, o, hsq', hbw, hr⟩ := hsq (by omega); refine ⟨_, hsq', fun i v hv => ?_⟩; rw [hcs] at hv; have hi : i < rl.length := by
          rcases Nat.lt_or_ge i rl.length with h | h
          · exact h
          · simp [h] at hv
        have := (hr.below hbel hbw) i hi; rw [addr_add, this]
        simpa [nth, hi] using hv
      clear hcs; have hsrc2 : 0 < cs.length → ∃ ad, sq = some ad ∧ ∀ j v, cs[j]? = some v → (wr.alloc (.cells Z128.toArray 279)).cell? (ad.add j) = some v := by
        intro h0; obtain ⟨_, ad, e, h⟩ := hsrc h0; exact ⟨ad, e, fun j v hv => by have := h j v hv; rw [← this]; exact World.cell?_alloc_lt _ _ _ (block_lt_of_cell this)⟩
      clear hsrc; have HCL := Lib.hid hcl; clear hcl; have hz47 : ∀ w : World, (zeroValue 279).run Tryz.prog w = .ok (.agg Z128.toArray) w := zero47
      go_wp2_with (refine wpList_copy_splice rfl (.tmp 24) (.tmp 25) 47 47 rfl 5 Tryz.underlying47 (by kernel_rfl) _ _ _ _ _ _ rfl rfl wr.heap.size 0 Z128 279 hZ cs ?hn ?hpos ?hfit hcone wr.heap.size wr hZk (Nat.le_refl _) ?hh)
      case hn => rw [HCL.out]; exact (Nat.min_eq_left (by omega)).symm
      case hpos => first | exact fun h => ⟨rfl, hsrc2 h⟩ | exact hsrc2
      case hfit => rw [HCL.out]; show 0 + m ≤ 128; omega
      case hh =>
        intro w3 HG3 hB3; rw [HCL.out]; have hL : IBlk .u8 279 w3 wr.heap.size (rl ++ List.replicate (128 - m) 0) := by
          have e : splice Z128 0 cs = (rl ++ List.replicate (128 - m) 0).map (Value.int .u8) := by
            rw [splice_zero _ _ (by rw [HCL.out]; show m ≤ 128; omega), HCL.out, Hcs.out]; rw [List.map_append, List.map_replicate]; unfold Z128; rw [List.drop_replicate]
          have := HG3.out; rw [e] at this; exact this
        have hKk3 := hKk.below hB3 hKk.lt; have hHh3 := hHh.below hB3 hHh.lt; have hSs3 := hSs.below hB3 hSs.lt; have hbel3 : Below w.heap.size w w3 := hbel.trans (hB3.mono hbsz); have hBLK : BK ≠ wr.heap.size := by have := hKk.lt; omega
        have hBLS : w.heap.size + 1 < wr.heap.size := hSs.lt; obtain ⟨BL, hBL⟩ : ∃ BL, BL = wr.heap.size := ⟨_, rfl⟩; rw [← hBL] at hL hBLK hBLS ⊢; clear hBL HG3 hB3 hKk hHh hSs hbel hbsz hsrc2 hZ hZk hcone Hcs HCL hz47 hsq; have hLl : (rl ++ List.replicate (128 - m) 0).length = 128 := by simp [hrl]; omega
        have c0 := hL.cell m (by omega); have f0 := hL.free m
        by_cases h56 : 56 ≤ m
        · have h56i : (56 : Int) ≤ (m : Int) := by omega
          go_wp2_with fail
          have hP0 := hL.set m 128; have hk4 : Keep (fun k => k ≠ BL) w3 (w3.setCell ⟨BL, m, none⟩ (.int .u8 128)) := (Keep.refl _ _).setCell (fun h => h rfl) _; generalize World.setCell _ _ _ = w4 at hP0 hk4 ⊢; have hKk4 := hKk3.keep hk4 hBLK; have hHh4 := hHh3.keep hk4 (by omega); have hSs4 := hSs3.keep hk4 (by omega); have hbel4 : Below w.heap.size w w4 := hbel3.trans (hk4.mono (fun k (hk : k < w.heap.size) => by omega)).below; clear hKk3 hHh3 hSs3 hbel3 hk4 hL hLl c0 f0; obtain ⟨p0, hp0⟩ : ∃ p0, p0 = (rl ++ List.replicate (128 - m) 0).set m 128 := ⟨_, rfl⟩; rw [← hp0] at hP0; have hpl : p0.length = 128 := by rw [hp0]; simp [hrl]; omega
          have Hp0 := Lib.hid hp0; clear hp0
          go_loopw [35] (fun c wr => ∃ i : Nat, i ≤ 8 ∧ c = .int .i64 i ∧ IBlk .u8 279 wr BL (putLen p0 128 l.length i) ∧ Keep (fun k => k ≠ BL) w4 wr) (fun c _ => 8 - (intOf c).toNat)
          case atStart => exact ⟨0, by omega, rfl, hP0, Keep.refl _ _⟩
          case round =>
            clear hP0; obtain ⟨i, hi, rfl, hPr, hKr⟩ := hrel; have hql : (putLen p0 128 l.length i).length = 128 := (putLen_length p0 128 l.length i).trans hpl
            by_cases h8 : i < 8
            · have c0 := hPr.cell (127 - i) (by omega)
              have f0 := hPr.free (127 - i)
              go_wp2_with fail
              go_roundw
              case rel => exact ⟨i + 1, by omega, by go_num, hPr.set _ _, hKr.setCell (fun h => h rfl) _⟩
              case measure => simp [intOf]; omega
            · have e8 : i = 8 := by omega
              rw [e8] at hPr hql; clear e8; have hKk5 := hKk4.keep hKr hBLK; have hHh5 := hHh4.keep hKr (by omega); have hSs5 := hSs4.keep hKr (by omega); have hbel5 : Below w.heap.size w wr := hbel4.trans (hKr.mono (fun k (hk : k < w.heap.size) => by omega)).below; obtain ⟨PL, hPL⟩ : ∃ PL, PL = putLen p0 128 l.length 8 := ⟨_, rfl⟩; rw [← hPL] at hPr hql; have HPL := Lib.hid hPL; clear hKk4 hHh4 hSs4 hbel4 hKr hPL; obtain ⟨S0, hS0⟩ : ∃ S0, S0 = absorb l H0 j := ⟨_, rfl⟩; rw [← hS0] at hSs5 hls; have HS0 := Lib.hid hS0; clear hS0; obtain ⟨w5, hw5⟩ : ∃ w5, w5 = wr := ⟨_, rfl⟩; rw [← hw5] at hKk5 hHh5 hSs5 hbel5 hPr ⊢; clear hw5
              go_wp2_with fail
              go_loopw [11] (fun c wr => ∃ i : Nat, i ≤ 2 ∧ c = .int .i64 (64 * (i : Int)) ∧ IBlk .u32 274 wr (w.heap.size + 1) (absorb PL S0 i) ∧ Keep (fun k => k < w5.heap.size ∧ k ≠ w.heap.size + 1) w5 wr) (fun c _ => 128 - (intOf c).toNat)
              case atStart => exact ⟨0, by omega, rfl, hSs5, Keep.refl _ _⟩
              case round =>
                clear hSs5; obtain ⟨q, hq, rfl, hSr, hKr⟩ := hrel; have hsl : (absorb PL S0 q).length = 8 := (absorb_length PL S0 q).trans hls; have hPq := hPr.keep hKr ⟨hPr.lt, by omega⟩; have hKq := hKk5.keep hKr ⟨hKk5.lt, by omega⟩
                by_cases hqn : q < 2
                · have hrow := row_drop hPq.row (64 * q)
                  rw [Nat.zero_add] at hrow; have hdl : 64 ≤ (PL.drop (64 * q)).length := by rw [List.length_drop]; omega
                  have b0 : 0 ≤ 64 * (q : Int) := by omega
                  have b1 : 64 * (q : Int) ≤ 128 := by omega
                  go_wp2_with fail
                  refine (take_any (w.heap.size + 1) BL (64 * q) (128 - 64 * q) (128 - 64 * q) BK (absorb PL S0 q) (PL.drop (64 * q)) K 274 275 _ (by omega) (by omega) (by omega) hPq.lt hSr hrow hKq hsl hdl rfl).mono ?_; rintro e w' ⟨rfl, hS', hK'⟩; have hsz' := hKr.size; have hK2 : Keep (fun k => k < w5.heap.size ∧ k ≠ w.heap.size + 1) w5 w' := hKr.trans (hK'.mono (fun k hk => ⟨Nat.lt_of_lt_of_le hk.1 hsz', hk.2⟩)); have hS2 : IBlk .u32 274 w' (w.heap.size + 1) (absorb PL S0 (q + 1)) := hS'; clear hS' hK' hKr hSr hPq hKq hrow
                  go_wp2_with fail
                  go_roundw
                  case rel => exact ⟨q + 1, by omega, by go_num, hS2, hK2⟩
                  case measure => simp [intOf]; omega
                · have eq2 : q = 2 := by omega
                  rw [eq2] at hSr hsl; clear eq2; have hHq := hHh5.keep hKr ⟨hHh5.lt, by omega⟩; have hbelq : Below w.heap.size w wr := hbel5.trans (hKr.mono (fun k (hk : k < w.heap.size) => ⟨Nat.lt_of_lt_of_le hk hbel5.size, by omega⟩)).below; obtain ⟨st, hst⟩ : ∃ st, st = absorb PL S0 2 := ⟨_, rfl⟩; rw [← hst] at hSr hsl; have hres : sumL l = outH st 8 := by
                    have ej : j = l.length / 64 := by omega
                    have erl : l.drop (64 * j) = rl := Hrl.out.symm; unfold sumL; simp only [← ej, erl, hrl]; rw [hst, HPL.out, Hp0.out, HS0.out]
                    first | (rw [if_pos h56]) | (rw [if_neg h56])
                  have Hres := Hid2.mk hres; clear hres hst hPq hKq hKr hPr hKk5 hHh5 hbel5; obtain ⟨w6, hw6⟩ : ∃ w6, w6 = wr := ⟨_, rfl⟩; rw [← hw6] at hSr hHq hbelq ⊢; clear hw6; have hgS : w6.heap[w.heap.size + 1]? = some (.cells (st.map (Value.int .u32)).toArray 274 (0, 0)) := hSr; have d0 := hSr.cell 0 (by omega); have d1 := hSr.cell 1 (by omega); have d2 := hSr.cell 2 (by omega); have d3 := hSr.cell 3 (by omega); have d4 := hSr.cell 4 (by omega); have d5 := hSr.cell 5 (by omega); have d6 := hSr.cell 6 (by omega); have d7 := hSr.cell 7 (by omega); clear hgS
                  go_wp2_with fail
                  clear d0 d1 d2 d3 d4 d5 d6 d7
                  go_loopw [58] (fun c wr => ∃ i : Nat, i ≤ 8 ∧ c = .int .i64 i ∧ IBlk .u8 69 wr w.heap.size (outH st i) ∧ Keep (fun k => k ≠ w.heap.size) w6 wr) (fun c _ => 8 - (intOf c).toNat)
                  case atStart => exact ⟨0, by omega, rfl, hHq, Keep.refl _ _⟩
                  case round =>
                    clear hHq hSr; obtain ⟨i, hi, rfl, hOr, hKr⟩ := hrel; have hol := outH_length st i
                    by_cases hi8 : i < 8
                    · have c0 := hOr.cell (4 * i) (by omega)
                      have c1 := hOr.cell (4 * i + 1) (by omega); have c2 := hOr.cell (4 * i + 2) (by omega); have c3 := hOr.cell (4 * i + 3) (by omega); have f0 := hOr.free (4 * i); have f1 := hOr.free (4 * i + 1); have f2 := hOr.free (4 * i + 2); have f3 := hOr.free (4 * i + 3); have hix := index42 st i hi8
                      go_wp2_with fail
                      go_roundw
                      case rel => exact ⟨i + 1, by omega, by go_num, (((hOr.set _ _).set _ _).set _ _).set _ _, (((hKr.setCell (fun h => h rfl) _).setCell (fun h => h rfl) _).setCell (fun h => h rfl) _).setCell (fun h => h rfl) _⟩
                      case measure => simp [intOf]; omega
                    · have e9 : i = 8 := by omega
                      rw [e9] at hOr; clear e9; obtain ⟨hh, hhe⟩ : ∃ hh, hh = sumL l := ⟨_, rfl⟩; have hsl32 : hh.length = 32 := by rw [hhe]; exact sumL_length l
                      rw [← Hres.out, ← hhe] at hOr; have Hhe := Hid2.mk hhe; clear hhe; have hg0 : wr.heap[w.heap.size]? = some (.cells (hh.map (Value.int .u8)).toArray 69 (0, 0)) := hOr; have hbelf : Below w.heap.size w wr := hbelq.trans (hKr.mono (fun k (hk : k < w.heap.size) => by omega)).below; clear hOr hol hKr Hres hbelq; have hi25 : (Tryz.prog.info? 69).map (·.size) = some (hh.map (Value.int .u8)).toArray.size := by
                        rw [List.size_toArray, List.length_map, hsl32]; kernel_rfl
                      have hone : (hh.map (Value.int .u8)).toArray.all (·.oneCell') = true := by simp [Value.oneCell']
                      have Hi25 := Hid2.mk hi25; have Hone := Hid2.mk hone; have Hg0 := Hid2.mk hg0; clear hi25 hone hg0 hsl32
                      go_wp2_with (first | (refine wpList_load_row rfl 69 (.tmp 2) rfl w.heap.size rfl 69 (hh.map (Value.int .u8)).toArray (0, 0) _ Hg0.out Tryz.underlying69 rfl Hi25.out ?_) | (refine wpList_store_row rfl 69 (.tmp 2) (.tmp 89) rfl w.heap.size (hh.map (Value.int .u8)).toArray rfl rfl 69 (hh.map (Value.int .u8)).toArray Hg0.out Hi25.out rfl Hone.out ?_))
                      refine bodyPost_ret (results_cell_row rfl _ _ w.heap.size 69 (hh.map (Value.int .u8)).toArray (0, 0) _ rfl (setRow_heap _ _ _ _ _ _ Hg0.out) Tryz.underlying69 rfl Hi25.out) rfl ⟨by rw [Hhe.out], ?_⟩; exact below_setRow hbelf (Nat.le_refl _) _
        · have h56i : decide ((56 : Int) ≤ (m : Int)) = false := decide_eq_false (by omega)
          go_wp2_with fail
          have hP0 := hL.set m 128; have hk4 : Keep (fun k => k ≠ BL) w3 (w3.setCell ⟨BL, m, none⟩ (.int .u8 128)) := (Keep.refl _ _).setCell (fun h => h rfl) _; generalize World.setCell _ _ _ = w4 at hP0 hk4 ⊢; have hKk4 := hKk3.keep hk4 hBLK; have hHh4 := hHh3.keep hk4 (by omega); have hSs4 := hSs3.keep hk4 (by omega); have hbel4 : Below w.heap.size w w4 := hbel3.trans (hk4.mono (fun k (hk : k < w.heap.size) => by omega)).below; clear hKk3 hHh3 hSs3 hbel3 hk4 hL hLl c0 f0; obtain ⟨p0, hp0⟩ : ∃ p0, p0 = (rl ++ List.replicate (128 - m) 0).set m 128 := ⟨_, rfl⟩; rw [← hp0] at hP0; have hpl : p0.length = 128 := by rw [hp0]; simp [hrl]; omega
          have Hp0 := Lib.hid hp0; clear hp0
          go_loopw [35] (fun c wr => ∃ i : Nat, i ≤ 8 ∧ c = .int .i64 i ∧ IBlk .u8 279 wr BL (putLen p0 64 l.length i) ∧ Keep (fun k => k ≠ BL) w4 wr) (fun c _ => 8 - (intOf c).toNat)
          case atStart => exact ⟨0, by omega, rfl, hP0, Keep.refl _ _⟩
          case round =>
            clear hP0; obtain ⟨i, hi, rfl, hPr, hKr⟩ := hrel; have hql : (putLen p0 64 l.length i).length = 128 := (putLen_length p0 64 l.length i).trans hpl
            by_cases h8 : i < 8
            · have c0 := hPr.cell (63 - i) (by omega)
              have f0 := hPr.free (63 - i)
              go_wp2_with fail
              go_roundw
              case rel => exact ⟨i + 1, by omega, by go_num, hPr.set _ _, hKr.setCell (fun h => h rfl) _⟩
              case measure => simp [intOf]; omega
            · have e8 : i = 8 := by omega
              rw [e8] at hPr hql; clear e8; have hKk5 := hKk4.keep hKr hBLK; have hHh5 := hHh4.keep hKr (by omega); have hSs5 := hSs4.keep hKr (by omega); have hbel5 : Below w.heap.size w wr := hbel4.trans (hKr.mono (fun k (hk : k < w.heap.size) => by omega)).below; obtain ⟨PL, hPL⟩ : ∃ PL, PL = putLen p0 64 l.length 8 := ⟨_, rfl⟩; rw [← hPL] at hPr hql; have HPL := Lib.hid hPL; clear hKk4 hHh4 hSs4 hbel4 hKr hPL; obtain ⟨S0, hS0⟩ : ∃ S0, S0 = absorb l H0 j := ⟨_, rfl⟩; rw [← hS0] at hSs5 hls; have HS0 := Lib.hid hS0; clear hS0; obtain ⟨w5, hw5⟩ : ∃ w5, w5 = wr := ⟨_, rfl⟩; rw [← hw5] at hKk5 hHh5 hSs5 hbel5 hPr ⊢; clear hw5
              go_wp2_with fail
              go_loopw [11] (fun c wr => ∃ i : Nat, i ≤ 1 ∧ c = .int .i64 (64 * (i : Int)) ∧ IBlk .u32 274 wr (w.heap.size + 1) (absorb PL S0 i) ∧ Keep (fun k => k < w5.heap.size ∧ k ≠ w.heap.size + 1) w5 wr) (fun c _ => 64 - (intOf c).toNat)
              case atStart => exact ⟨0, by omega, rfl, hSs5, Keep.refl _ _⟩
              case round =>
                clear hSs5; obtain ⟨q, hq, rfl, hSr, hKr⟩ := hrel; have hsl : (absorb PL S0 q).length = 8 := (absorb_length PL S0 q).trans hls; have hPq := hPr.keep hKr ⟨hPr.lt, by omega⟩; have hKq := hKk5.keep hKr ⟨hKk5.lt, by omega⟩
                by_cases hqn : q < 1
                · have hrow := row_drop hPq.row (64 * q)
                  rw [Nat.zero_add] at hrow; have hdl : 64 ≤ (PL.drop (64 * q)).length := by rw [List.length_drop]; omega
                  have b0 : 0 ≤ 64 * (q : Int) := by omega
                  have b1 : 64 * (q : Int) ≤ 128 := by omega
                  go_wp2_with fail
                  refine (take_any (w.heap.size + 1) BL (64 * q) (128 - 64 * q) (128 - 64 * q) BK (absorb PL S0 q) (PL.drop (64 * q)) K 274 275 _ (by omega) (by omega) (by omega) hPq.lt hSr hrow hKq hsl hdl rfl).mono ?_; rintro e w' ⟨rfl, hS', hK'⟩; have hsz' := hKr.size; have hK2 : Keep (fun k => k < w5.heap.size ∧ k ≠ w.heap.size + 1) w5 w' := hKr.trans (hK'.mono (fun k hk => ⟨Nat.lt_of_lt_of_le hk.1 hsz', hk.2⟩)); have hS2 : IBlk .u32 274 w' (w.heap.size + 1) (absorb PL S0 (q + 1)) := hS'; clear hS' hK' hKr hSr hPq hKq hrow
                  go_wp2_with fail
                  go_roundw
                  case rel => exact ⟨q + 1, by omega, by go_num, hS2, hK2⟩
                  case measure => simp [intOf]; omega
                · have eq2 : q = 1 := by omega
                  rw [eq2] at hSr hsl; clear eq2; have hHq := hHh5.keep hKr ⟨hHh5.lt, by omega⟩; have hbelq : Below w.heap.size w wr := hbel5.trans (hKr.mono (fun k (hk : k < w.heap.size) => ⟨Nat.lt_of_lt_of_le hk hbel5.size, by omega⟩)).below; obtain ⟨st, hst⟩ : ∃ st, st = absorb PL S0 1 := ⟨_, rfl⟩; rw [← hst] at hSr hsl; have hres : sumL l = outH st 8 := by
                    have ej : j = l.length / 64 := by omega
                    have erl : l.drop (64 * j) = rl := Hrl.out.symm; unfold sumL; simp only [← ej, erl, hrl]; rw [hst, HPL.out, Hp0.out, HS0.out]
                    first | (rw [if_pos h56]) | (rw [if_neg h56])
                  have Hres := Hid2.mk hres; clear hres hst hPq hKq hKr hPr hKk5 hHh5 hbel5; obtain ⟨w6, hw6⟩ : ∃ w6, w6 = wr := ⟨_, rfl⟩; rw [← hw6] at hSr hHq hbelq ⊢; clear hw6; have hgS : w6.heap[w.heap.size + 1]? = some (.cells (st.map (Value.int .u32)).toArray 274 (0, 0)) := hSr; have d0 := hSr.cell 0 (by omega); have d1 := hSr.cell 1 (by omega); have d2 := hSr.cell 2 (by omega); have d3 := hSr.cell 3 (by omega); have d4 := hSr.cell 4 (by omega); have d5 := hSr.cell 5 (by omega); have d6 := hSr.cell 6 (by omega); have d7 := hSr.cell 7 (by omega); clear hgS
                  go_wp2_with fail
                  clear d0 d1 d2 d3 d4 d5 d6 d7
                  go_loopw [58] (fun c wr => ∃ i : Nat, i ≤ 8 ∧ c = .int .i64 i ∧ IBlk .u8 69 wr w.heap.size (outH st i) ∧ Keep (fun k => k ≠ w.heap.size) w6 wr) (fun c _ => 8 - (intOf c).toNat)
                  case atStart => exact ⟨0, by omega, rfl, hHq, Keep.refl _ _⟩
                  case round =>
                    clear hHq hSr; obtain ⟨i, hi, rfl, hOr, hKr⟩ := hrel; have hol := outH_length st i
                    by_cases hi8 : i < 8
                    · have c0 := hOr.cell (4 * i) (by omega)
                      have c1 := hOr.cell (4 * i + 1) (by omega); have c2 := hOr.cell (4 * i + 2) (by omega); have c3 := hOr.cell (4 * i + 3) (by omega); have f0 := hOr.free (4 * i); have f1 := hOr.free (4 * i + 1); have f2 := hOr.free (4 * i + 2); have f3 := hOr.free (4 * i + 3); have hix := index42 st i hi8
                      go_wp2_with fail
                      go_roundw
                      case rel => exact ⟨i + 1, by omega, by go_num, (((hOr.set _ _).set _ _).set _ _).set _ _, (((hKr.setCell (fun h => h rfl) _).setCell (fun h => h rfl) _).setCell (fun h => h rfl) _).setCell (fun h => h rfl) _⟩
                      case measure => simp [intOf]; omega
                    · have e9 : i = 8 := by omega
                      rw [e9] at hOr; clear e9; obtain ⟨hh, hhe⟩ : ∃ hh, hh = sumL l := ⟨_, rfl⟩; have hsl32 : hh.length = 32 := by rw [hhe]; exact sumL_length l
                      rw [← Hres.out, ← hhe] at hOr; have Hhe := Hid2.mk hhe; clear hhe; have hg0 : wr.heap[w.heap.size]? = some (.cells (hh.map (Value.int .u8)).toArray 69 (0, 0)) := hOr; have hbelf : Below w.heap.size w wr := hbelq.trans (hKr.mono (fun k (hk : k < w.heap.size) => by omega)).below; clear hOr hol hKr Hres hbelq; have hi25 : (Tryz.prog.info? 69).map (·.size) = some (hh.map (Value.int .u8)).toArray.size := by
                        rw [List.size_toArray, List.length_map, hsl32]; kernel_rfl
                      have hone : (hh.map (Value.int .u8)).toArray.all (·.oneCell') = true := by simp [Value.oneCell']
                      have Hi25 := Hid2.mk hi25; have Hone := Hid2.mk hone; have Hg0 := Hid2.mk hg0; clear hi25 hone hg0 hsl32
                      go_wp2_with (first | (refine wpList_load_row rfl 69 (.tmp 2) rfl w.heap.size rfl 69 (hh.map (Value.int .u8)).toArray (0, 0) _ Hg0.out Tryz.underlying69 rfl Hi25.out ?_) | (refine wpList_store_row rfl 69 (.tmp 2) (.tmp 89) rfl w.heap.size (hh.map (Value.int .u8)).toArray rfl rfl 69 (hh.map (Value.int .u8)).toArray Hg0.out Hi25.out rfl Hone.out ?_))
                      refine bodyPost_ret (results_cell_row rfl _ _ w.heap.size 69 (hh.map (Value.int .u8)).toArray (0, 0) _ rfl (setRow_heap _ _ _ _ _ _ Hg0.out) Tryz.underlying69 rfl Hi25.out) rfl ⟨by rw [Hhe.out], ?_⟩; exact below_setRow hbelf (Nat.le_refl _) _

end Dig
end Go.Proofs.YtpfkcfaifleliaaGreat

namespace Go.Proofs.YtpfkcfaifleliaaGreat
open Go.RowKit
namespace Dig

end Dig
end Go.Proofs.YtpfkcfaifleliaaGreat

namespace Go.Proofs.YtpfkcfaifleliaaGreat
open Go.RowKit
namespace Dig

def zs (n : Nat) : List Int := List.replicate n 0
def Z32 : List Int := List.replicate 32 0
theorem zero25 (w : World) : (zeroValue 69).run Tryz.prog w = .ok (.agg (Z32.map (Value.int .u8)).toArray) w := by kernel_rfl

end Dig
end Go.Proofs.YtpfkcfaifleliaaGreat

namespace Go.Proofs.YtpfkcfaifleliaaGreat
namespace Dig

theorem nth_outH (st : List Int) (n i : Nat) (hi : i < 4 * n) (hn : n ≤ 8) : nth (outH st n) i = nth st (i / 4) / 2 ^ (24 - 8 * (i % 4)) % 256 := by
  induction n with
  | zero => omega
  | succ n ih =>
    rw [outH]; have hl := outH_length st n
    by_cases h3 : i = 4 * n + 3
    · subst h3
      rw [nth_set_eq _ _ _ (by simp [hl]; omega), show (4 * n + 3) / 4 = n from by omega, show (4 * n + 3) % 4 = 3 from by omega]; simp
    · rw [nth_set_ne _ _ _ _ h3]
      by_cases h2 : i = 4 * n + 2
      · subst h2
        rw [nth_set_eq _ _ _ (by simp [hl]; omega), show (4 * n + 2) / 4 = n from by omega, show (4 * n + 2) % 4 = 2 from by omega]
        rfl
      · rw [nth_set_ne _ _ _ _ h2]
        by_cases h1 : i = 4 * n + 1
        · subst h1
          rw [nth_set_eq _ _ _ (by simp [hl]; omega), show (4 * n + 1) / 4 = n from by omega, show (4 * n + 1) % 4 = 1 from by omega]
          rfl
        · rw [nth_set_ne _ _ _ _ h1]
          by_cases h0 : i = 4 * n
          · subst h0
            rw [nth_set_eq _ _ _ (by simp [hl]; omega), show (4 * n) / 4 = n from by omega, show (4 * n) % 4 = 0 from by omega]
            rfl
          · rw [nth_set_ne _ _ _ _ h0]; exact ih (by omega) (by omega)
theorem outH_range (st : List Int) : ∀ i, i < 32 → 0 ≤ nth (outH st 8) i ∧ nth (outH st 8) i ≤ 255 := by
  intro i hi; rw [nth_outH st 8 i (by omega) (Nat.le_refl _)]; omega
theorem sumL_range (l : List Int) : ∀ i, i < 32 → 0 ≤ nth (sumL l) i ∧ nth (sumL l) i ≤ 255 := outH_range _

end Dig
end Go.Proofs.YtpfkcfaifleliaaGreat

namespace Go.Proofs.YtpfkcfaifleliaaGreat
open Go.RowKit

end Go.Proofs.YtpfkcfaifleliaaGreat

namespace Go.Proofs.YtpfkcfaifleliaaGreat
open Go.RowKit
namespace Dig

theorem progSum_s (v : Value) (l : List Int) (w : World) (hv : Sl .u8 w v l) (hn : l.length ≤ 35184372088832) :
    Calls Tryz.prog 121 #[v] w fun e w' => e = .returned (.agg ((sumL l).map (Value.int .u8)).toArray) ∧ Below w.heap.size w w' :=
  sum_any v l w hv (by omega)
end Dig
end Go.Proofs.YtpfkcfaifleliaaGreat

namespace Go.Proofs.YtpfkcfaifleliaaGreat
open Go.RowKit
namespace K
section
variable {n : NN} {ops : Array Oper} {Q : Exit → Act → World → Prop} {rest : List Oper} {o : Oper} {d : Nat} {l : Env} {w : World}
theorem WL.growC {s x : Operand} {t e : TypeId} {m bytes k k2 cc : Nat} {sp : Option Addr} {xv : Value} {l1 l2 : List Value} {O O2 : Nat → Prop} (hg : o.guard = none) (hd : o.dst = some d) (hn : Nat.blt d n.n = true)
    (ho : o.op = .call { callee := .builtin .append, args := #[s, x], argTypes := #[t, t] }) (E : ElemV Tryz.prog t e m bytes) (hs : evl l s = some (.slice sp k k)) (hown : SlV w O m (.slice sp k cc) k l1) (hx : evl l x = some xv) (hsl : SlV w O2 m xv k2 l2) (h0 : 0 < k2) (hb : (k + k2) * bytes ≤ 140737488355328) (hb1 : k + k2 ≤ 140737488355328)
    (h : ∀ v' w', OwnV e m w' (fun g => w.heap.size ≤ g) v' (k + k2) (l1 ++ l2) → Below w.heap.size w w' → WL n ops Q rest ((d, v') :: l) w') : WL n ops Q (o :: rest) l w :=
  ⟨fun a ha => by
    refine lw_via hg (by rw [ho]; intro c hc; cases hc) ?_; refine wpList_plain hg fun K hK => ?_; have := step_growV (P := Tryz.prog) (ops := #[]) (K := K) (Q := Exit.then (lw n.md Tryz.prog ops Q rest) (NoOut Q)) (F := False) hg s x t ho E (ha.eval hs) hown (ha.eval hx) hsl h0 rfl (by unfold maxLen; omega) hb fun sp c w' h2 h3 => by
      refine hK _ _ ?_; rw [hd]; exact (h _ w' h2 ((grown_keep h3).mono fun b hb => ⟨hb, by simp⟩).below).go _ (ha.put hn _)
    rw [if_pos (by simp [Region.wanted, hg])] at this; exact this⟩
theorem WL.constB {x : Operand} {g m c : Nat} {cs : List Value} (hg : o.guard = none) (hd : o.dst = some d) (hn : Nat.blt d n.n = true) (ho : o.op = .convert 47 47 x) (hx : evl l x = some (.slice (some ⟨g, 0, none⟩) m c)) (hb : VBlk 5 w g cs)
    (h : ∀ w', Keep (fun b => b ≠ g) w w' → w'.heap.size = w.heap.size → (∀ p, w'.cell? p = w.cell? p) → WL n ops Q rest ((d, .slice (some ⟨g, 0, none⟩) m c) :: l) w') : WL n ops Q (o :: rest) l w := by
  have hsh : w.shape? g = some (5, cs.length) := by
    unfold World.shape?; rw [show w.heap[g]? = some (.cells cs.toArray 5 (0, 0)) from hb]; simp
  have hm : ∀ b, (w.freeze ⟨g, cs.length, none⟩ 1).heap[b]? = if b = g then some (.cells cs.toArray 5 (cs.length, cs.length + 1)) else w.heap[b]? := fun b => by
    unfold World.freeze; rw [if_neg (by decide)]; simp only [Array.getElem?_modify]
    by_cases hbg : g = b
    · subst hbg
      rw [if_pos rfl, if_pos rfl, show w.heap[g]? = some (.cells cs.toArray 5 (0, 0)) from hb]
      rfl
    · rw [if_neg hbg, if_neg (fun e => hbg e.symm)]
  have hz : (w.freeze ⟨g, cs.length, none⟩ 1).heap.size = w.heap.size := by unfold World.freeze; rw [if_neg (by decide)]; simp
  refine WL.step hg hd hn (fun a ha => ?_) (h (w.freeze ⟨g, cs.length, none⟩ 1) ⟨by unfold World.freeze; rw [if_neg (by decide)], by unfold World.freeze; rw [if_neg (by decide)], by unfold World.freeze; rw [if_neg (by decide)], by rw [hz]; exact Nat.le_refl _, fun b hbg => by rw [hm b, if_neg hbg]⟩ hz fun p => ?_)
  · unfold execOp
    rw [ho]; simp [ha.eval hx, convert, run_underlying Tryz.underlying47, run_underlying Tryz.underlying5, markStringish, hsh]
  · unfold World.cell?
    rw [hm p.block]
    by_cases hp : p.block = g
    · rw [if_pos hp, hp, show w.heap[g]? = some (.cells cs.toArray 5 (0, 0)) from hb]
    · rw [if_neg hp]
end
end K
namespace Cl
open K
set_option maxRecDepth 100000
variable {w : World} {cb jb : Nat}
abbrev hsT : Nat := 69
def HashOut (w : World) : Ending → World → Prop := fun e w' => ∃ d : List Int, e = .returned (.agg (hC d).toArray) ∧ d.length = 32 ∧ Frm.Byt d ∧ Below w.heap.size w w'
theorem byt_range {d : List Int} (hl : d.length = 32) (h : ∀ i, i < 32 → 0 ≤ nth d i ∧ nth d i ≤ 255) : Frm.Byt d := fun c hc => by
  obtain ⟨i, hi, rfl⟩ := List.getElem_of_mem hc; have := h i (by omega)
  simpa [nth, hi] using this
theorem hash_slC {w : World} {b off : Nat} {h : List Int} (hr : w.rangeAt b off (hC h)) (hl : h.length = 32) (hb : b < w.heap.size) : Sl .u8 w (.slice (some ⟨b, off, none⟩) 32 32) h := by
  have := Sl.mk (k := .u8) (w := w) (b := b) (o := off) (cap := 32) (l := h) (by omega) (by omega) hb (fun j hj => by
    have h1 := hr j (.int .u8 (nth h j)) (by simp [nth, hj]); exact h1)
  rw [hl] at this; exact this
theorem chain_any {la l : List Int} {v : Value} (ha : la.length = 32) (hv : Sl .u8 w v l) (hn : l.length ≤ 17592186044416) :
    Calls Tryz.prog 181 #[.agg (hC la).toArray, v] w (HashOut w) := by
  refine enter (args := [.agg (hC la).toArray, v]) Tryz.func181 rfl Tryz.ntmps181 rfl ?_; have hla : (hC la).length = 32 := by rw [List.length_map]; exact ha
  refine K.kgo ?_; refine WL.box rfl rfl rfl rfl rfl fun g w1 hf => ?_; have hf' : Fresh w g w1 hsT (hC la) := hf; clear hf; refine WL.alloc (z := .agg (hC Dig.Z32).toArray) rfl rfl rfl rfl (Dig.zero25) fun c w2 hf2 => ?_; have hf2' : Fresh w1 c w2 hsT (hC Dig.Z32) := hf2; clear hf2; have he1 := hf'.eq; have he2 := hf2'.eq; have hz1 := hf'.size; have hz2 := hf2'.size; have hw2 : Below w.heap.size w w2 := hf'.below.trans (hf2'.below.mono hf'.below.size); have A2 := VBlk.below hf'.blk hf2'.below (VBlk.lt hf'.blk); have C2 := hf2'.blk; clear hf' hf2'; refine K.kgo ?_; refine WL.lit rfl rfl rfl rfl rfl rfl rfl fun b3 w3 hb3 hk3 ho3 => ?_; have A3 := VBlk.below A2 hk3 (VBlk.lt A2); refine K.kgo ?_; refine WL.all rfl rfl rfl rfl rfl rfl ?_; refine WL.app rfl rfl rfl rfl rfl hb3 rfl (hash_slC (VBlk.rangeAt A3) ha (VBlk.lt A3)) (by simp only [List.length_cons, List.length_nil]; omega) fun b4 w4 hb4 hg4 => ?_; have k4 := hk3.trans ((hg4.old (B := w2.heap.size) hk3.size ho3).mono (Nat.le_refl _)); have o4 := hg4.own (B := w2.heap.size) hk3.size ho3; refine K.kgo ?_; refine WL.app rfl rfl rfl rfl rfl hb4 rfl (hv.of_below (hw2.trans (k4.mono hw2.size))) (by rw [List.length_append]; simp only [List.length_cons, List.length_nil]; omega) fun b5 w5 hb5 hg5 => ?_; have k5 := k4.trans ((hg5.old (B := w2.heap.size) k4.size o4).mono (Nat.le_refl _)); refine WL.call rfl rfl rfl rfl rfl Tryz.func121 rfl (by kernel_rfl) (Dig.progSum_s b5 _ w5 hb5.sl (by rw [List.length_append, List.length_append]; simp only [List.length_cons, List.length_nil]; omega)) ?_; rintro _ w6 ⟨rfl, hk6⟩; refine ⟨_, rfl, ?_⟩; have hk26 : Below w2.heap.size w2 w6 := k5.trans (hk6.mono k5.size); have C6 := VBlk.below C2 hk26 (VBlk.lt C2); have hdl := Dig.sumL_length ([2] ++ la ++ l); have hdb := byt_range hdl (Dig.sumL_range ([2] ++ la ++ l)); generalize Dig.sumL ([2] ++ la ++ l) = d at hdl hdb ⊢; have hlen : (hC d).length = 32 := by rw [List.length_map]; exact hdl
  refine WL.storeRow rfl rfl rfl rfl rfl rfl C6 hlen (by rfl) (Ones.int _ _) ?_; refine K.kgo ?_; exact WQ.retC rfl rfl rfl hlen (C6.setRow _) ⟨d, rfl, hdl, hdb, Keep.below (Keep.setRow (Keep.of_below (hw2.trans (hk26.mono hw2.size))) (fun hk => by omega) _)⟩
theorem uvB_posC (u : Nat) : 1 ≤ (uvB u).length := by
  show 1 ≤ (uvF (9 + 1) u).length
  unfold uvF
  split <;> simp
theorem first_any {t : Int} (ht : R64c t) : Calls Tryz.prog 91 #[.int .i64 t] w (HashOut w) := by
  refine enter (args := [.int .i64 t]) Tryz.func91 rfl Tryz.ntmps91 rfl ?_; have hmx : IntKind.u64.wrap (if t > 0 then t else 0) = ((t.toNat : Nat) : Int) := by
    have := ht.1; have := ht.2; rw [IntKind.wrap_u64]; split <;> omega
  have htn : t.toNat < 18446744073709551616 := by have := ht.2; omega
  refine K.kgo ?_; refine WL.alloc (z := .agg (hC Dig.Z32).toArray) rfl rfl rfl rfl (Dig.zero25) fun c w1 f1 => ?_; have C1 : VBlk hsT w1 c (hC Dig.Z32) := f1.blk; have e1 := f1.eq; have b1 := f1.below; clear f1; refine K.kgo ?_; refine WL.litV [.int .u8 116, .int .u8 120, .int .u8 110] rfl rfl rfl rfl rfl rfl (by kernel_rfl) fun g3 w3 f3 => ?_; have e3 := f3.eq; refine K.kgo ?_; refine WL.constB rfl rfl rfl rfl rfl f3.blk fun w3' kf zf cf => ?_; have z3 := f3.size; have hk3 : Below w1.heap.size w1 w3' := ((Keep.of_below f3.below).trans (kf.mono fun x (hx : x < w1.heap.size) => by omega)).below; have r3 : RowV w3' g3 0 [.int .u8 116, .int .u8 120, .int .u8 110] := fun q hq => by rw [cf]; exact RowV.of_vblk f3.blk q hq
  clear f3 kf; refine K.kgo ?_; refine WL.call rfl rfl rfl rfl (congrArg (fun z => some [Value.int .u64 z]) hmx) Tryz.func75 rfl (by kernel_rfl) (uvarint_any t.toNat htn _) ?_; rintro _ w4 ⟨b4, rfl, hb4, hk4, ho4⟩; refine ⟨_, rfl, ?_⟩; have hul := uvB_lenw t.toNat; have hul0 := uvB_posC t.toNat; have k14 : Below w1.heap.size w1 w4 := hk3.trans (hk4.mono hk3.size); have hsl : SlV w4 (fun _ => True) 1 (.slice (some ⟨g3, 0, none⟩) 3 3) 3 [.int .u8 116, .int .u8 120, .int .u8 110] := ⟨rfl, fun u hu => by
    simp only [List.mem_cons, List.not_mem_nil, or_false] at hu; rcases hu with rfl | rfl | rfl <;> rfl, _, 3, rfl, Nat.le_refl _, by omega, (fun h => by cases h), fun _ => ⟨g3, 0, rfl, by have := hk4.size; omega, trivial, fun q hq => by rw [hk4.cell (p := ⟨g3, 0 + q, none⟩) (by show g3 < w3'.heap.size; omega)]; exact r3 q hq⟩⟩
  refine K.kgo ?_; refine WL.growC rfl rfl rfl rfl elemU8 rfl hsl rfl (Sl.slV hb4.sl) hul0 (by omega) (by omega) fun b5 w5 ho5 hk5 => ?_; have k15 := k14.trans (hk5.mono k14.size); have hb5 : Sl .u8 w5 b5 ([116, 120, 110] ++ uvB t.toNat) := by
    have h1 : ([.int .u8 116, .int .u8 120, .int .u8 110] ++ (uvB t.toNat).map (Value.int .u8) : List Value) = ([116, 120, 110] ++ uvB t.toNat).map (Value.int .u8) := by simp
    rw [h1] at ho5; have h2 : 3 + (uvB t.toNat).length = ([116, 120, 110] ++ uvB t.toNat).length := by simp; omega
    rw [h2] at ho5; exact Bu.sl ho5.1
  refine WL.call rfl rfl rfl rfl rfl Tryz.func121 rfl (by kernel_rfl) (Dig.progSum_s b5 _ w5 hb5 (by rw [List.length_append]; simp only [List.length_cons, List.length_nil]; omega)) ?_; rintro _ w6 ⟨rfl, hk6⟩; refine ⟨_, rfl, ?_⟩; have hk16 : Below w1.heap.size w1 w6 := k15.trans (hk6.mono k15.size); have C6 := VBlk.below C1 hk16 (VBlk.lt C1); generalize ([116, 120, 110] ++ uvB t.toNat : List Int) = LL; have hdl := Dig.sumL_length LL; have hdb := byt_range hdl (Dig.sumL_range LL); generalize Dig.sumL LL = d at hdl hdb ⊢; have hlen : (hC d).length = 32 := by rw [List.length_map]; exact hdl
  refine WL.storeRow rfl rfl rfl rfl rfl rfl C6 hlen (by rfl) (Ones.int _ _) ?_; refine K.kgo ?_; exact WQ.retC rfl rfl rfl hlen (C6.setRow _) ⟨d, rfl, hdl, hdb, Keep.below (Keep.setRow (Keep.of_below (b1.trans (hk16.mono b1.size))) (fun hk => by omega) _)⟩
theorem next_any {la : List Int} {s : ByteArray} (ha : la.length = 32) (hs : s.size ≤ 4096) : Calls Tryz.prog 153 #[.agg (hC la).toArray, .string s, nos] w fun e w' => ∃ d : List Int, e = .returned (.tuple #[.agg (hC d).toArray, .int .i64 0]) ∧ d.length = 32 ∧ Frm.Byt d ∧ Below w.heap.size w w' := by
  refine enter (args := [.agg (hC la).toArray, .string s, nos]) Tryz.func153 rfl Tryz.ntmps153 rfl ?_; have hla : (hC la).length = 32 := by rw [List.length_map]; exact ha
  refine K.kgn ?_; refine WL.box rfl rfl rfl rfl rfl fun g w1 hf => ?_; have A1 : VBlk hsT w1 g (hC la) := hf.blk; have e1 := hf.eq; have b1 := hf.below; clear hf; refine K.kgo ?_; refine WL.alloc (z := .agg (hC Dig.Z32).toArray) rfl rfl rfl rfl (Dig.zero25) fun c w2 f2 => ?_; have C2 : VBlk hsT w2 c (hC Dig.Z32) := f2.blk; have e2 := f2.eq; have A2 := VBlk.below A1 f2.below (VBlk.lt A1); have b2 := b1.trans (f2.below.mono b1.size); have z1 := b1.size; clear f2; have hsz : IntKind.u64.wrap (s.size : Int) = (s.size : Int) := by rw [IntKind.wrap_u64]; omega
  refine K.kgo ?_; refine WL.call rfl rfl rfl rfl (congrArg (fun z => some [Value.int .u64 z]) hsz) Tryz.func75 rfl (by kernel_rfl) (uvarint_any s.size (by omega) _) ?_; rintro _ w4 ⟨b4, rfl, hb4, hk4, ho4⟩; refine ⟨_, rfl, ?_⟩; have hul := uvB_lenw s.size; refine K.kgo ?_; refine WL.appS rfl rfl rfl rfl rfl hb4 rfl (by omega) fun b5 w5 hb5 hg5 => ?_; have k25 := hk4.trans ((hg5.old (B := w2.heap.size) hk4.size ho4).mono (Nat.le_refl _)); have A5 := VBlk.below A2 k25 (VBlk.lt A2); have C5 := VBlk.below C2 k25 (VBlk.lt C2); refine K.kgo ?_; refine WC.loop (fun _ : Unit => [(3, .pointer (some ⟨g, 0, none⟩)), (6, .pointer (some ⟨c, 0, none⟩)), (8, b5), (20, .int .i64 0), (21, .int .i64 0)]) (fun _ wz => w5 = wz) (fun _ => 0) () ⟨rfl, rfl, rfl, rfl, rfl, trivial⟩ rfl ?_; rintro ⟨⟩ _ rfl; refine K.kgo ?_; refine WL.loadMid rfl rfl rfl rfl rfl rfl (VBlk.rangeAt A5) hla ?_; refine K.kgo ?_; refine WL.call rfl rfl rfl rfl rfl Tryz.func181 rfl (by kernel_rfl) (chain_any ha hb5.sl (by rw [List.length_append, bytesI_len]; omega)) ?_; rintro _ w6 ⟨d, rfl, hdl, hdb, hk6⟩; refine ⟨_, rfl, ?_⟩; have C6 := VBlk.below C5 hk6 (VBlk.lt C5); have hlen : (hC d).length = 32 := by rw [List.length_map]; exact hdl
  have k26 : Below w2.heap.size w2 w6 := k25.trans (hk6.mono k25.size); refine WL.storeRow rfl rfl rfl rfl rfl rfl C6 hlen (by rfl) (Ones.int _ _) ?_; refine K.kgo ?_; exact WQ.retCT rfl rfl rfl rfl hlen (C6.setRow _) ⟨d, rfl, hdl, hdb, Keep.below (Keep.setRow (Keep.of_below (b2.trans (k26.mono b2.size))) (fun hk => by omega) _)⟩
set_option maxHeartbeats 8000000 in
theorem started_ok {c : Cli} {j : Jb} {k t : Int} {nv pv dv : Value} {gl cl : Nat} {s : ByteArray} (h : VBlk clT w cb (clC c)) (hj : VBlk jbT w jb (jbC j)) (hn : c.now = some ⟨jb, 0, none⟩) (hne : cb ≠ jb) (hs : c.seq ≤ 9007199254740990) (hd : j.dig.length = 32) (hd2 : j.nroot.length = 32) (h64 : R64c c.ses) (h64t : R64c t) (hnv : Sl .i64 w nv [t])
    (hl : j.l = .slice (some ⟨gl, 0, none⟩) 1 cl) (hgl : w.rangeAt gl 0 [.string s, nos]) (hgl2 : gl < w.heap.size ∧ gl ≠ cb ∧ gl ≠ jb) (hsz : s.size ≤ 4096) :
    Calls Tryz.prog 61 #[.pointer (some ⟨cb, 0, none⟩), .agg (rpC ⟨k, 0, [t], [], []⟩ nv pv dv).toArray] w fun e w' => ∃ d : List Int, d.length = 32 ∧ Frm.Byt d ∧ Asked w cb jb c { j with txn := t, rows := nos, dig := d } (meth rnF cb) (Frm.frameL (rqB (rqK 4 (c.seq + 1) [c.ses, t] s z32))) e w' := by
  obtain ⟨b, o, cp, rfl, hb, hcell⟩ := nums1 hnv; refine enter (args := [.pointer (some ⟨cb, 0, none⟩), .agg (rpC ⟨k, 0, [t], [], []⟩ (.slice (some ⟨b, o, none⟩) 1 cp) pv dv).toArray]) Tryz.func61 rfl Tryz.ntmps61 rfl ?_; have c7 : ∀ wx, VBlk clT wx cb (clC c) → wx.cell? ⟨cb, 7, none⟩ = some (.pointer (some ⟨jb, 0, none⟩)) := fun wx hx => by have := hx.cell 7 (by simp [clC]); rw [this, ← hn]; rfl
  refine K.kgn ?_; refine WL.box rfl rfl rfl rfl rfl fun g w1 f1 => ?_; have r1 : VBlk rpT w1 g (rpC ⟨k, 0, [t], [], []⟩ (.slice (some ⟨b, o, none⟩) 1 cp) pv dv) := f1.blk; have v1 := VBlk.below h f1.below (VBlk.lt h); have j1 := VBlk.below hj f1.below (VBlk.lt hj); have lcb := VBlk.lt h; have ljb := VBlk.lt hj; have b1 := f1.below; have e1 := f1.eq; have s1 : w1.cell? ⟨g, 1, none⟩ = some (.int .i64 0) := r1.cell 1 (by simp [rpC]); have s2 : w1.cell? ⟨g, 2, none⟩ = some (.slice (some ⟨b, o, none⟩) 1 cp) := r1.cell 2 (by simp [rpC]); clear f1; refine K.kgl ?_; refine WC.drawn 14 (fun wx => VBlk clT wx cb (clC c) ∧ VBlk jbT wx jb (jbC j) ∧ VBlk rpT wx g (rpC ⟨k, 0, [t], [], []⟩ (.slice (some ⟨b, o, none⟩) 1 cp) pv dv) ∧ Below w.heap.size w wx) fun w2 hdr => ?_; have hS : VBlk clT w2 cb (clC c) ∧ VBlk jbT w2 jb (jbC j) ∧ VBlk rpT w2 g (rpC ⟨k, 0, [t], [], []⟩ (.slice (some ⟨b, o, none⟩) 1 cp) pv dv) ∧ Below w.heap.size w w2 := ⟨VBlk.below v1 (hdr.below _) (VBlk.lt v1), VBlk.below j1 (hdr.below _) (VBlk.lt j1), VBlk.below r1 (hdr.below _) (VBlk.lt r1), b1.trans (hdr.below _)⟩; clear hdr v1 j1 r1 s1 s2; refine K.fr [0, 1, 2] hS ?_; refine K.wl 3 [12, 13, 14, 15, 16, 17] rfl rfl rfl rfl rfl rfl rfl (v := .pointer (some ⟨jb, 0, none⟩)) (fun wx hx => c7 wx hx.1) hS ?_; refine K.fr [4, 5, 6] hS ?_; refine K.wl 7 [12, 13, 14, 15, 16, 17] rfl rfl rfl rfl rfl rfl rfl (v := .pointer (some ⟨jb, 0, none⟩)) (fun wx hx => c7 wx hx.1) hS ?_; refine K.fr [8] hS ?_; refine K.wl 9 [10, 11, 12, 13, 14, 15, 16, 17] rfl rfl rfl rfl rfl rfl rfl (v := .slice (some ⟨b, o, none⟩) 1 cp) (fun wx hx => hx.2.2.1.cell 2 (by simp [rpC])) hS ?_; refine K.wi 10 0 o rfl rfl rfl rfl rfl rfl rfl rfl rfl (by omega) (by simp) (.inr hS) ?_; refine K.wl 11 [12, 13, 14, 15, 16, 17] rfl rfl rfl rfl rfl rfl rfl (v := .int .i64 t) (fun wx hx => (hx.2.2.2.cell (p := ⟨b, o, none⟩) hb).trans hcell) hS ?_; refine K.fr [12, 13] hS ?_; refine K.wo 14 ?_; obtain ⟨v2, j2, -, b2⟩ := hS; refine WL.store (v := .int .i64 t) rfl rfl rfl rfl rfl rfl (by kernel_rfl) (VBlk.cell j2 3 (by simp [jbC])) (VBlk.free j2 3) ?_; have j3 : VBlk jbT (w2.setCell ⟨jb, 3, none⟩ (.int .i64 t)) jb (jbC { j with txn := t }) := VBlk.set j2 3 _; have v3 := VBlk.other v2 ⟨jb, 3, none⟩ (.int .i64 t) hne; have k3 : Keep (fun x => x < w.heap.size ∧ x ≠ cb ∧ x ≠ jb) w (w2.setCell ⟨jb, 3, none⟩ (.int .i64 t)) := ((Keep.of_below b2).mono fun x hx => hx.1).setCell (fun hx => hx.2.2 rfl) _; generalize hw3 : w2.setCell ⟨jb, _, none⟩ (.int .i64 t) = w3; have hw3' : w2.setCell ⟨jb, 3, none⟩ (.int .i64 t) = w3 := hw3; rw [hw3'] at j3 v3 k3; clear hw3 hw3' j2 v2 b2; refine K.dl ?_
  (refine K.fzl 15 rfl (q := ?_); refine K.fzl 16 rfl (q := ?_))
  refine K.wo 17 ?_; refine WL.store (v := nos) rfl rfl rfl rfl rfl rfl (by kernel_rfl) (VBlk.cell j3 36 (by rw [jbC_len (j := { j with txn := t }) hd hd2]; omega)) (VBlk.free j3 36) ?_; have j4 := VBlk.set j3 36 nos; rw [jbC_setRows (j := { j with txn := t }) hd] at j4; have v4 := VBlk.other v3 ⟨jb, 36, none⟩ nos hne; have k4 := k3.setCell (p := ⟨jb, 36, none⟩) (fun hx => hx.2.2 rfl) nos; generalize hw4 : w3.setCell ⟨jb, _, none⟩ nos = w4; have hw4' : w3.setCell ⟨jb, 36, none⟩ nos = w4 := hw4; rw [hw4'] at j4 v4 k4; clear hw4 hw4' j3 v3 k3; refine K.dl ?_; refine WD.done (by kernel_rfl) ?_; refine K.kgo ?_; refine WC.drawn 14 (fun wx => VBlk clT wx cb (clC c) ∧ VBlk jbT wx jb (jbC { j with txn := t, rows := nos }) ∧ Keep (fun x => x < w.heap.size ∧ x ≠ cb ∧ x ≠ jb) w wx) fun w5 hdr => ?_; have hS : VBlk clT w5 cb (clC c) ∧ VBlk jbT w5 jb (jbC { j with txn := t, rows := nos }) ∧ Keep (fun x => x < w.heap.size ∧ x ≠ cb ∧ x ≠ jb) w w5 := ⟨VBlk.below v4 (hdr.below _) (VBlk.lt v4), VBlk.below j4 (hdr.below _) (VBlk.lt j4), k4.trans ((Keep.of_below (hdr.below _)).mono fun x hx => Nat.lt_of_lt_of_le hx.1 k4.size)⟩; clear hdr j4 v4 k4; refine K.fr [0, 1, 2] hS ?_; refine K.wl 3 [12, 13, 14] rfl rfl rfl rfl rfl rfl rfl (v := .pointer (some ⟨jb, 0, none⟩)) (fun wx hx => c7 wx hx.1) hS ?_; refine K.fr [4, 5, 6] hS ?_; refine K.wl 7 [8, 9, 10, 11, 12, 13, 14] rfl rfl rfl rfl rfl rfl rfl (v := .pointer (some ⟨jb, 0, none⟩)) (fun wx hx => c7 wx hx.1) hS ?_; refine K.fr [8, 9] hS ?_; refine K.wl 10 [11, 12, 13, 14] rfl rfl rfl rfl rfl rfl rfl (v := .int .i64 t) (fun wx hx => hx.2.1.cell 3 (by simp [jbC])) hS ?_; refine K.wo 11 ?_; refine WL.call rfl rfl rfl rfl rfl Tryz.func91 rfl (by kernel_rfl) (first_any h64t) ?_; rintro _ w6 ⟨d, rfl, hdl, hdb, hk6⟩; refine ⟨_, rfl, ?_⟩; have hS6 : VBlk clT w6 cb (clC c) ∧ VBlk jbT w6 jb (jbC { j with txn := t, rows := nos }) ∧ Keep (fun x => x < w.heap.size ∧ x ≠ cb ∧ x ≠ jb) w w6 := ⟨VBlk.below hS.1 hk6 (VBlk.lt hS.1), VBlk.below hS.2.1 hk6 (VBlk.lt hS.2.1), hS.2.2.trans ((Keep.of_below hk6).mono fun x hx => Nat.lt_of_lt_of_le hx.1 hS.2.2.size)⟩; clear hS hk6; have hS := hS6; clear hS6; refine K.di hS ?_; refine K.fr [12, 13] hS ?_; refine K.wo 14 ?_; obtain ⟨v6, j6, k6⟩ := hS; have hlen : (hC d).length = 32 := by rw [List.length_map]; exact hdl
  refine WL.storeMid (m := hC d) rfl rfl rfl rfl rfl rfl j6 hlen (by rw [jbC_len (j := { j with txn := t, rows := nos }) hd hd2]; omega) (Ones.int _ _) ?_; rw [show (0 + 4 : Nat) = 4 from rfl, jbC_setDig (j := { j with txn := t, rows := nos }) hd]; have j7 := j6.setRow (jbC { j with txn := t, rows := nos, dig := d }); have v7 := VBlk.setRow_other v6 (g := jb) (jbC { j with txn := t, rows := nos, dig := d }).toArray hne; have k7 := Keep.setRow k6 (g := jb) (fun hx => hx.2.2 rfl) (jbC { j with txn := t, rows := nos, dig := d }).toArray; generalize w6.setRow jb (jbC { j with txn := t, rows := nos, dig := d }).toArray = w7 at j7 v7 k7 ⊢; refine K.dl ?_; refine WD.done (by kernel_rfl) ?_; have z7 := k7.size; have hg7 : w7.rangeAt gl 0 [.string s, nos] := fun q u hu => by rw [k7.cell (p := ⟨gl, 0 + q, none⟩) hgl2]; exact hgl q u hu
  refine K.kgo ?_; refine WL.call rfl rfl rfl rfl rfl Tryz.func92 rfl (by kernel_rfl) (runs_any (m := 0) (rc := 0) (rp := none) (j := { j with txn := t, rows := nos, dig := d }) v7 j7 hn hne hs hdl hd2 hdb h64 h64t (by omega) rfl hl (fun w' hb' q u hu => by rw [hb'.cell (p := ⟨gl, 0 + q, none⟩) (by show gl < w7.heap.size; have := hgl2.1; omega)]; exact hg7 q u hu) hsz) ?_; rintro _ w8 ⟨v, fb, rfl, q1, q2, q3, q4, ⟨gm, fm, m1, m2, m3, m4, m5⟩, q6⟩; refine ⟨_, rfl, ?_⟩; refine K.kgo ?_; exact WQ.ret1 rfl rfl ⟨d, hdl, hdb, v, fb, rfl, q1, q2, q3, fun x hx => Nat.le_trans z7 (q4 x hx), ⟨gm, fm, m1, Nat.le_trans z7 m2, m3, m4, fun x hx => Nat.le_trans z7 (m5 x hx)⟩, k7.trans (q6.mono fun x hx => ⟨Nat.lt_of_lt_of_le hx.1 z7, hx.2⟩)⟩
end Cl
end Go.Proofs.YtpfkcfaifleliaaGreat

namespace Go.Proofs.YtpfkcfaifleliaaGreat
open Go.RowKit
namespace Cl
open K
set_option maxRecDepth 100000
variable {w : World} {cb jb : Nat}
abbrev vsT : Nat := 46
theorem elemRow : ElemV Tryz.prog 59 vsT 1 24 := ElemV.mk' (z := nos) Tryz.underlying59 (by kernel_rfl) rfl (by omega)
theorem rows0 {f : Nat} {pv : Value} (h : IsVs f w pv []) : ∃ sp cp, pv = .slice sp 0 cp := by
  obtain ⟨sp, cp, rfl, -⟩ := h; exact ⟨sp, cp, rfl⟩
set_option maxHeartbeats 16000000 in
theorem ran_ok {c : Cli} {j : Jb} {k : Int} {nv pv dv : Value} {gl cl : Nat} {s : ByteArray} (h : VBlk clT w cb (clC c)) (hj : VBlk jbT w jb (jbC j)) (hn : c.now = some ⟨jb, 0, none⟩) (hne : cb ≠ jb) (hs : c.seq ≤ 9007199254740990) (hd : j.dig.length = 32) (hd2 : j.nroot.length = 32) (h64 : R64c c.ses) (h64t : R64c j.txn) (hnv : Sl .i64 w nv []) (hpv : IsVs 17 w pv [])
    (hr : j.rows = nos) (hl : j.l = .slice (some ⟨gl, 0, none⟩) 1 cl) (hgl : w.rangeAt gl 0 [.string s, nos]) (hgl2 : gl < w.heap.size ∧ gl ≠ cb ∧ gl ≠ jb) (hsz : s.size ≤ 4096) :
    Calls Tryz.prog 123 #[.pointer (some ⟨cb, 0, none⟩), .agg (rpC ⟨k, 0, [], [], []⟩ nv pv dv).toArray] w fun e w' => ∃ (d : List Int) (gr cr : Nat), d.length = 32 ∧ Frm.Byt d ∧ Asked w cb jb c { j with dig := d, rows := .slice (some ⟨gr, 0, none⟩) 1 cr } (meth dcF cb) (Frm.frameL (rqB (rqK 5 (c.seq + 1) [c.ses, j.txn] noT d))) e w' := by
  obtain ⟨sv, cv, rfl⟩ := rows0 hpv; obtain ⟨sn, cn, rfl, -⟩ := hnv; refine enter (args := [.pointer (some ⟨cb, 0, none⟩), .agg (rpC ⟨k, 0, [], [], []⟩ (.slice sn 0 cn) (.slice sv 0 cv) dv).toArray]) Tryz.func123 rfl Tryz.ntmps123 rfl ?_; have c7 : ∀ wx, VBlk clT wx cb (clC c) → wx.cell? ⟨cb, 7, none⟩ = some (.pointer (some ⟨jb, 0, none⟩)) := fun wx hx => by have := hx.cell 7 (by simp [clC]); rw [this, ← hn]; rfl
  have cr : ∀ wx, VBlk jbT wx jb (jbC j) → wx.cell? ⟨jb, 36, none⟩ = some nos := fun wx hx => by have := hx.cell 36 (by rw [jbC_len hd hd2]; omega); rw [jbC_rows hd, hr] at this; exact this
  have cl1 : ∀ wx, VBlk jbT wx jb (jbC j) → wx.cell? ⟨jb, 1, none⟩ = some (.slice (some ⟨gl, 0, none⟩) 1 cl) := fun wx hx => by have := hx.cell 1 (by simp [jbC]); rw [this, ← hl]; rfl
  have cgl : ∀ wx, Below w.heap.size w wx → wx.rangeAt gl 0 [.string s, nos] := fun wx hx q u hu => by rw [hx.cell (p := ⟨gl, 0 + q, none⟩) hgl2.1]; exact hgl q u hu
  refine K.kgn ?_; refine WL.box rfl rfl rfl rfl rfl fun g w1 f1 => ?_; have r1 : VBlk rpT w1 g (rpC ⟨k, 0, [], [], []⟩ (.slice sn 0 cn) (.slice sv 0 cv) dv) := f1.blk; have v1 := VBlk.below h f1.below (VBlk.lt h); have j1 := VBlk.below hj f1.below (VBlk.lt hj); have lcb := VBlk.lt h; have ljb := VBlk.lt hj; have b1 := f1.below; have eg := f1.eq; have s1 : w1.cell? ⟨g, 1, none⟩ = some (.int .i64 0) := r1.cell 1 (by simp [rpC]); have s7 := c7 _ v1; clear f1; refine K.kgl ?_; refine WC.drawn 12 (fun wx => VBlk clT wx cb (clC c) ∧ VBlk jbT wx jb (jbC j) ∧ VBlk rpT wx g (rpC ⟨k, 0, [], [], []⟩ (.slice sn 0 cn) (.slice sv 0 cv) dv) ∧ Below w.heap.size w wx) fun w2 hdr => ?_; have hS : VBlk clT w2 cb (clC c) ∧ VBlk jbT w2 jb (jbC j) ∧ VBlk rpT w2 g (rpC ⟨k, 0, [], [], []⟩ (.slice sn 0 cn) (.slice sv 0 cv) dv) ∧ Below w.heap.size w w2 := ⟨VBlk.below v1 (hdr.below _) (VBlk.lt v1), VBlk.below j1 (hdr.below _) (VBlk.lt j1), VBlk.below r1 (hdr.below _) (VBlk.lt r1), b1.trans (hdr.below _)⟩; clear hdr v1 j1 r1 s1 s7; refine K.fr [0, 1, 2] hS ?_; refine K.wl 3 [9, 10, 12] rfl rfl rfl rfl rfl rfl rfl (v := .slice (some ⟨gl, 0, none⟩) 1 cl) (fun wx hx => cl1 wx hx.2.1) hS ?_; refine K.fr [4, 5, 6] hS ?_; refine K.wl 7 [8, 9, 10, 12] rfl rfl rfl rfl rfl rfl rfl (v := nos) (fun wx hx => cr wx hx.2.1) hS ?_; refine K.fr [8] hS ?_; refine K.wi 9 0 0 rfl rfl rfl rfl rfl rfl rfl rfl rfl (by omega) rfl (.inr hS) ?_; refine K.wm 10 [12] rfl rfl rfl rfl rfl rfl rfl (fun wx hx => cgl wx hx.2.2.2) rfl hS ?_; refine K.wo 11 ?_; refine WL.alloc (z := .agg #[.string ByteArray.empty, nos]) rfl rfl rfl rfl (fun _ => by kernel_rfl) fun g8 w6 f6 => ?_; have e6 := f6.eq; have z2 := hS.2.2.2.size; have lr := VBlk.lt hS.2.2.1; have lc := VBlk.lt hS.1; have lj := VBlk.lt hS.2.1; have hS6 : VBlk clT w6 cb (clC c) ∧ VBlk jbT w6 jb (jbC j) ∧ VBlk rpT w6 g (rpC ⟨k, 0, [], [], []⟩ (.slice sn 0 cn) (.slice sv 0 cv) dv) ∧ Below w.heap.size w w6 := ⟨VBlk.below hS.1 f6.below lc, VBlk.below hS.2.1 f6.below lj, VBlk.below hS.2.2.1 f6.below lr, hS.2.2.2.trans (f6.below.mono z2)⟩; refine K.di hS6 ?_; refine K.wo 12 ?_; refine WL.storeRow rfl rfl rfl rfl rfl rfl f6.blk rfl rfl (fun u hu => by rcases List.mem_cons.1 hu with rfl | hu; rfl; rcases List.mem_cons.1 hu with rfl | hu; rfl; cases hu) ?_; have t7 : VBlk smT (w6.setRow g8 #[.string s, nos]) g8 [.string s, nos] := f6.blk.setRow [.string s, nos]; have b7 : Below w2.heap.size w2 (w6.setRow g8 #[.string s, nos]) := below_setRow f6.below (by omega) _; have v7 := VBlk.below hS.1 b7 lc; have j7 := VBlk.below hS.2.1 b7 lj; have r7 := VBlk.below hS.2.2.1 b7 lr; have b07 := hS.2.2.2.trans (b7.mono z2); generalize hw7 : w6.setRow g8 _ = w7; have hw7' : w6.setRow g8 #[.string s, nos] = w7 := hw7; rw [hw7'] at t7 v7 j7 r7 b07; clear hw7 hw7' f6 hS6 hS b7; refine K.dl ?_; refine WD.done (by kernel_rfl) ?_; refine K.kgo ?_; refine WC.drawn 9 (fun wx => VBlk clT wx cb (clC c) ∧ VBlk jbT wx jb (jbC j) ∧ VBlk rpT wx g (rpC ⟨k, 0, [], [], []⟩ (.slice sn 0 cn) (.slice sv 0 cv) dv) ∧ VBlk smT wx g8 [.string s, nos] ∧ Below w.heap.size w wx) fun w8 hdr => ?_; have hS : VBlk clT w8 cb (clC c) ∧ VBlk jbT w8 jb (jbC j) ∧ VBlk rpT w8 g (rpC ⟨k, 0, [], [], []⟩ (.slice sn 0 cn) (.slice sv 0 cv) dv) ∧ VBlk smT w8 g8 [.string s, nos] ∧ Below w.heap.size w w8 := ⟨VBlk.below v7 (hdr.below _) (VBlk.lt v7), VBlk.below j7 (hdr.below _) (VBlk.lt j7), VBlk.below r7 (hdr.below _) (VBlk.lt r7), VBlk.below t7 (hdr.below _) (VBlk.lt t7), b07.trans (hdr.below _)⟩; clear hdr v7 j7 r7 t7 b07; refine K.fr [0, 1, 2, 3] hS ?_; refine K.wm 4 [9, 10, 11, 12, 13, 14, 15] rfl rfl rfl rfl rfl rfl rfl (cs := hC j.dig) (fun wx hx => jbC_dig hx.2.1) (by simpa using hd) hS ?_; refine K.fr [5] hS ?_; refine K.wl 6 [9, 10, 11, 12, 13, 14, 15] rfl rfl rfl rfl rfl rfl rfl (v := .string s) (fun wx hx => hx.2.2.2.1.cell 0 (by simp)) hS ?_; refine K.fr [7] hS ?_; refine K.wl 8 [9, 10, 11, 12, 13, 14, 15] rfl rfl rfl rfl rfl rfl rfl (v := nos) (fun wx hx => hx.2.2.2.1.cell 1 (by simp)) hS ?_; refine K.wo 9 ?_; refine WL.call rfl rfl rfl rfl rfl Tryz.func153 rfl (by kernel_rfl) (next_any hd hsz) ?_; rintro _ w9 ⟨d, rfl, hdl, hdb, hk9⟩; refine ⟨_, rfl, ?_⟩; have z8 := hS.2.2.2.2.size; have v9 := VBlk.below hS.1 hk9 (VBlk.lt hS.1); have j9 := VBlk.below hS.2.1 hk9 (VBlk.lt hS.2.1); have r9 := VBlk.below hS.2.2.1 hk9 (VBlk.lt hS.2.2.1); have b9 := hS.2.2.2.2.trans (hk9.mono z8); clear hS hk9; refine K.dl ?_
  (refine K.fzl 10 rfl (q := ?_); refine K.fzl 11 rfl (q := ?_); refine K.fzl 12 rfl (q := ?_); refine K.fzl 13 rfl (q := ?_); refine K.fzl 14 rfl (q := ?_))
  refine K.wo 15 ?_; have hlen : (hC d).length = 32 := by rw [List.length_map]; exact hdl
  refine WL.storeMid (m := hC d) rfl rfl rfl rfl rfl rfl j9 hlen (by rw [jbC_len hd hd2]; omega) (Ones.int _ _) ?_; rw [show (0 + 4 : Nat) = 4 from rfl, jbC_setDig hd]; have gne : g ≠ jb := by omega
  have jA := j9.setRow (jbC { j with dig := d }); have vA := VBlk.setRow_other v9 (g := jb) (jbC { j with dig := d }).toArray hne; have rA := VBlk.setRow_other r9 (g := jb) (jbC { j with dig := d }).toArray gne; have kA : Keep (fun x => x < w.heap.size ∧ x ≠ cb ∧ x ≠ jb) w (w9.setRow jb (jbC { j with dig := d }).toArray) := Keep.setRow ((Keep.of_below b9).mono fun x hx => hx.1) (fun hx => hx.2.2 rfl) _; generalize w9.setRow jb (jbC { j with dig := d }).toArray = wA at jA vA rA kA ⊢; clear v9 j9 r9 b9; refine K.dl ?_; refine WD.done (by kernel_rfl) ?_; refine K.kgo ?_; refine WC.drawn 8 (fun wx => VBlk clT wx cb (clC c) ∧ VBlk jbT wx jb (jbC { j with dig := d }) ∧ VBlk rpT wx g (rpC ⟨k, 0, [], [], []⟩ (.slice sn 0 cn) (.slice sv 0 cv) dv) ∧ Keep (fun x => x < w.heap.size ∧ x ≠ cb ∧ x ≠ jb) w wx) fun wB hdr => ?_; have hS : VBlk clT wB cb (clC c) ∧ VBlk jbT wB jb (jbC { j with dig := d }) ∧ VBlk rpT wB g (rpC ⟨k, 0, [], [], []⟩ (.slice sn 0 cn) (.slice sv 0 cv) dv) ∧ Keep (fun x => x < w.heap.size ∧ x ≠ cb ∧ x ≠ jb) w wB := ⟨VBlk.below vA (hdr.below _) (VBlk.lt vA), VBlk.below jA (hdr.below _) (VBlk.lt jA), VBlk.below rA (hdr.below _) (VBlk.lt rA), kA.trans ((Keep.of_below (hdr.below _)).mono fun x hx => Nat.lt_of_lt_of_le hx.1 kA.size)⟩; clear hdr vA jA rA kA; refine K.fr [0, 1, 2, 3] hS ?_; refine K.wl 4 [8, 9, 10, 11] rfl rfl rfl rfl rfl rfl rfl (v := nos) (fun wx hx => by have := hx.2.1.cell 36 (by rw [jbC_len (j := { j with dig := d }) hdl hd2]; omega); rw [jbC_rows (j := { j with dig := d }) hdl] at this; rw [this]; exact congrArg some hr) hS ?_; refine K.fr [5] hS ?_; refine K.wl 6 [7, 8, 9, 10, 11] rfl rfl rfl rfl rfl rfl rfl (v := .slice sv 0 cv) (fun wx hx => hx.2.2.1.cell 3 (by simp [rpC])) hS ?_; refine K.wo 7 ?_; refine WL.lit1 (cs := [.slice sv 0 cv]) rfl rfl rfl rfl rfl rfl rfl rfl ⟨by omega, by omega⟩ (by kernel_rfl) fun gC wC fC => ?_; have zB := hS.2.2.2.size; have hSC : VBlk clT wC cb (clC c) ∧ VBlk jbT wC jb (jbC { j with dig := d }) ∧ VBlk rpT wC g (rpC ⟨k, 0, [], [], []⟩ (.slice sn 0 cn) (.slice sv 0 cv) dv) ∧ Keep (fun x => x < w.heap.size ∧ x ≠ cb ∧ x ≠ jb) w wC := ⟨VBlk.below hS.1 fC.below (VBlk.lt hS.1), VBlk.below hS.2.1 fC.below (VBlk.lt hS.2.1), VBlk.below hS.2.2.1 fC.below (VBlk.lt hS.2.2.1), hS.2.2.2.trans ((Keep.of_below fC.below).mono fun x hx => Nat.lt_of_lt_of_le hx.1 zB)⟩; refine K.di hSC ?_; refine K.wo 8 ?_; refine WL.snoc (y := ()) (P := fun (_ : Unit) c => c = [.slice sv 0 cv]) (z := ()) rfl rfl rfl rfl elemRow rfl (OwnE.nil _ _ _ _ (fun _ => False) _) rfl fC.blk (fun u hu => by rcases List.mem_cons.1 hu with rfl | hu; rfl; cases hu) rfl rfl (by simp) (by simp) fun vD wD ownD grD => ?_; have bD : Below wC.heap.size wC wD := grD.old (Nat.le_refl _) fun g hg => by cases hg
  have vD := VBlk.below hSC.1 bD (VBlk.lt hSC.1); have jD := VBlk.below hSC.2.1 bD (VBlk.lt hSC.2.1); have zC := hSC.2.2.2.size; have kD := hSC.2.2.2.trans ((Keep.of_below bD).mono fun x hx => Nat.lt_of_lt_of_le hx.1 zC); obtain ⟨gr, crr, rfl, -, -⟩ := own1 ownD; clear hS hSC fC grD ownD bD; refine K.dl ?_
  (refine K.fzl 9 rfl (q := ?_); refine K.fzl 10 rfl (q := ?_))
  refine K.wo 11 ?_; refine WL.store (v := .slice (some ⟨gr, 0, none⟩) 1 crr) rfl rfl rfl rfl rfl rfl (by kernel_rfl) (VBlk.cell jD 36 (by rw [jbC_len (j := { j with dig := d }) hdl hd2]; omega)) (VBlk.free jD 36) ?_; have jE := VBlk.set jD 36 (.slice (some ⟨gr, 0, none⟩) 1 crr); rw [jbC_setRows (j := { j with dig := d }) hdl] at jE; have vE := VBlk.other vD ⟨jb, 36, none⟩ (.slice (some ⟨gr, 0, none⟩) 1 crr) hne; have kE := kD.setCell (p := ⟨jb, 36, none⟩) (fun hx => hx.2.2 rfl) (.slice (some ⟨gr, 0, none⟩) 1 crr); generalize hwE : wD.setCell ⟨jb, _, none⟩ (.slice (some ⟨gr, 0, none⟩) 1 crr) = wE; have hwE' : wD.setCell ⟨jb, 36, none⟩ (.slice (some ⟨gr, 0, none⟩) 1 crr) = wE := hwE; rw [hwE'] at jE vE kE; clear hwE hwE' jD vD kD; refine K.dl ?_; refine WD.done (by kernel_rfl) ?_; have zE := kE.size; have hgE : wE.rangeAt gl 0 [.string s, nos] := fun q u hu => by rw [kE.cell (p := ⟨gl, 0 + q, none⟩) hgl2]; exact hgl q u hu
  refine K.kgo ?_; refine WL.call rfl rfl rfl rfl rfl Tryz.func92 rfl (by kernel_rfl) (runs_any (m := 1) (rc := crr) (rp := some ⟨gr, 0, none⟩) (j := { j with dig := d, rows := .slice (some ⟨gr, 0, none⟩) 1 crr }) vE jE hn hne hs hdl hd2 hdb h64 h64t (by omega) rfl hl (fun w' hb' q u hu => by rw [hb'.cell (p := ⟨gl, 0 + q, none⟩) (by show gl < wE.heap.size; have := hgl2.1; omega)]; exact hgE q u hu) hsz) ?_; rintro _ wF ⟨v, fb, rfl, q1, q2, q3, q4, ⟨gm, fm, m1, m2, m3, m4, m5⟩, q6⟩; refine ⟨_, rfl, ?_⟩; refine K.kgo ?_; exact WQ.ret1 rfl rfl ⟨d, gr, crr, hdl, hdb, v, fb, rfl, q1, q2, q3, fun x hx => Nat.le_trans zE (q4 x hx), ⟨gm, fm, m1, Nat.le_trans zE m2, m3, m4, fun x hx => Nat.le_trans zE (m5 x hx)⟩, kE.trans (q6.mono fun x hx => ⟨Nat.lt_of_lt_of_le hx.1 zE, hx.2⟩)⟩
theorem decided_bad {c : Cli} {j : Jb} {k e : Int} {nv pv dv : Value} (h : VBlk clT w cb (clC c)) (hj : VBlk jbT w jb (jbC j)) (hn : c.now = some ⟨jb, 0, none⟩) (hne : cb ≠ jb) (hr : c.root.length = 32) (ho : c.out = nos) (he : e = 14 ∨ e = 16) (hh : c.has = true) (hs : c.seq ≤ 9007199254740990) (hd : j.dig.length = 32) (hd2 : j.nroot.length = 32) (h64 : R64c c.ses) (ht : 0 ≤ j.tries ∧ j.tries ≤ 1000) :
    Calls Tryz.prog 122 #[.pointer (some ⟨cb, 0, none⟩), .agg (rpC ⟨k, e, [], [], []⟩ nv pv dv).toArray] w fun r w' => Overed w cb jb c j e r w' := by
  refine enter (args := [.pointer (some ⟨cb, 0, none⟩), .agg (rpC ⟨k, e, [], [], []⟩ nv pv dv).toArray]) Tryz.func122 rfl Tryz.ntmps122 rfl ?_; refine K.kgn ?_; refine WL.box rfl rfl rfl rfl rfl fun g w1 f1 => ?_; have r1 : VBlk rpT w1 g (rpC ⟨k, e, [], [], []⟩ nv pv dv) := f1.blk; have v1 := VBlk.below h f1.below (VBlk.lt h); have j1 := VBlk.below hj f1.below (VBlk.lt hj); have b1 := f1.below; have z1 := b1.size; have s1 : w1.cell? ⟨g, 1, none⟩ = some (.int .i64 e) := r1.cell 1 (by simp [rpC]); clear f1; have fin : ∀ {r : Ending} {w' : World}, Overed w1 cb jb c j e r w' → Overed w cb jb c j e r w' := fun {r w'} hh => by
    by_cases ht2 : j.tries < c.tries
    · unfold Overed at hh
      rw [if_pos ht2] at hh; exact Overed.pos ht2 (Asked.up b1 hh)
    · unfold Overed at hh
      rw [if_neg ht2] at hh; obtain ⟨h1, gR, cR, q1, q2, q3⟩ := hh; exact Overed.neg ht2 ⟨h1, gR, cR, q1, q2.mono fun x hx => Nat.le_trans z1 hx, ((Keep.of_below b1).mono fun x hx => hx.1).trans (q3.mono fun x hx => ⟨Nat.lt_of_lt_of_le hx.1 z1, hx.2⟩)⟩
  rcases he with rfl | rfl
  · refine K.kgl ?_
    refine WL.call rfl rfl rfl rfl rfl Tryz.func150 rfl (by kernel_rfl) (over_any v1 j1 hn hne hr ho (by omega) hh hs hd hd2 h64 ht) ?_; rintro r w2 ho2; obtain ⟨v, rfl⟩ : ∃ v, r = .returned v := by
      unfold Overed at ho2
      split at ho2
      · obtain ⟨v, fb, rfl, -⟩ := ho2; exact ⟨v, rfl⟩
      · exact ⟨_, ho2.1⟩
    refine ⟨_, rfl, ?_⟩; refine K.kgo ?_; exact WQ.ret1 rfl rfl (fin ho2)
  · refine K.kgl ?_
    refine WL.call rfl rfl rfl rfl rfl Tryz.func150 rfl (by kernel_rfl) (over_any v1 j1 hn hne hr ho (by omega) hh hs hd hd2 h64 ht) ?_; rintro r w2 ho2; obtain ⟨v, rfl⟩ : ∃ v, r = .returned v := by
      unfold Overed at ho2
      split at ho2
      · obtain ⟨v, fb, rfl, -⟩ := ho2; exact ⟨v, rfl⟩
      · exact ⟨_, ho2.1⟩
    refine ⟨_, rfl, ?_⟩; refine K.kgo ?_; exact WQ.ret1 rfl rfl (fin ho2)
end Cl
end Go.Proofs.YtpfkcfaifleliaaGreat

namespace Go.Proofs.YtpfkcfaifleliaaGreat
open Go.RowKit
namespace K
abbrev fnT : Nat := 114
theorem fn_run (p : Addr) {w : World} {v : Value} (hc : w.cell? p = some v) : (loadVar fnT p).run Tryz.prog w = .ok v w := by
  have hagg : (isAgg fnT).run Tryz.prog w = .ok false w := by
    unfold isAgg; rw [Sem.run_bind]; rw [run_underlying Tryz.underlying114 w]
    rfl
  simp [loadVar, Sem.run_bind, hagg, hc]
section
variable {kn : Nat} {ds : List Deferred} {ops : Array Oper} {Q : Exit → Act → World → Prop} {l : Env} {w w' : World} {o : Oper} {rest : List Oper} {d : Nat} {S : World → Prop} {m fuel : Nat} {listed : Array Bool} {n : NN}
theorem WD.loadF {oi : Oper} {x : Operand} {p : Addr} {v : Value} (i : Nat) (us : List Nat) (hi : ops[i]? = some oi) (hs : mayR ops listed i m us = true) (hd : oi.dst = some d) (hn : Nat.blt d n.n = true)
    (hQ : Passes Q) (hw : wants ops l oi = some true) (ho : oi.op = .load fnT x) (hx : evl l x = some (.pointer (some p))) (hc : ∀ w, S w → w.cell? p = some v) (hS : S w)
    (h : WD n ops Q S m fuel (listed.setIfInBounds i true) ((d, v) :: l) w) : WD n ops Q S m (fuel + 1) listed l w :=
  WD.read i us hi hs hd hn hQ hw (fun a ha w hw => by unfold execOp; rw [ho]; simp [ha.eval hx, Instr.loadAt, Instr.sureAddr, fn_run p (hc w hw)]) hS h
end
end K
namespace Cl
open K
set_option maxRecDepth 100000
variable {w : World} {cb jb : Nat}
theorem jbC_hearsV {j : Jb} (h : j.dig.length = 32) (h2 : j.nroot.length = 32) : (jbC j).getD 73 undef = j.hears := by
  unfold jbC; simp only [List.getD_eq_getElem?_getD, List.getElem?_cons_succ]; rw [show 69 = 32 + 37 from rfl, cut_at (by simpa using h)]; simp only [List.getElem?_cons_succ]; rw [show 33 = 32 + 1 from rfl, cut_at (by simpa using h2)]
  rfl
set_option maxHeartbeats 16000000 in
theorem hear_any {c : Cli} {j : Jb} {r : Rp} {mv : Value} {fid : Nat} {fn : Func} {R : World → Value → Cli → World → Prop} (h : VBlk clT w cb (clC c)) (hj : VBlk jbT w jb (jbC j)) (hn : c.now = some ⟨jb, 0, none⟩) (hne : cb ≠ jb) (hd : j.dig.length = 32) (hd2 : j.nroot.length = 32) {fp : Addr} {fl fc : Nat} (hf : c.frame = .slice (some fp) fl fc) (hs : c.seq ≤ 9007199254740990)
    (hh : j.hears = meth fid cb) (hfn : Tryz.prog.funcs[fid]? = some fn) (hb : fn.body.isNone = false) (hname : (fn.name == "runtime.NumGoroutine") = false) (hro : RpOk r) (hseq : r.seq = (c.seq : Int)) {ml mc : Nat} {mp : Option Addr} (hm0 : mv = .slice mp ml mc) (hmv : Sl .u8 w mv (Frm.frameL (rpB r)))
    (hc : ∀ w1 nv pv dv, Keep (fun x => x < w.heap.size ∧ x ≠ cb) w w1 → VBlk clT w1 cb (clC { c with frame := nos }) → VBlk jbT w1 jb (jbC j) → Sl .i64 w1 nv r.nums → IsVs 17 w1 pv r.rows → Sl .u8 w1 dv r.data → Calls Tryz.prog fid #[.pointer (some ⟨cb, 0, none⟩), .agg (rpC r nv pv dv).toArray] w1 fun e w' => ∃ v c', e = .returned v ∧ c'.root.length = 32 ∧ VBlk clT w' cb (clC c') ∧ R w1 v c' w') :
    Calls Tryz.prog 14 #[.pointer (some ⟨cb, 0, none⟩), .agg #[.int .i64 0, .int .i64 c.id, mv]] w fun e w' => ∃ v c' w1 w2, e = .returned (.tuple #[c'.out, v]) ∧ Keep (fun x => x < w.heap.size ∧ x ≠ cb) w w1 ∧ R w1 v c' w2 ∧ VBlk clT w' cb (clC { c' with out := nos }) ∧ Keep (fun x => x < w2.heap.size ∧ x ≠ cb) w2 w' := by
  subst hm0; refine enter (args := [.pointer (some ⟨cb, 0, none⟩), .agg #[.int .i64 0, .int .i64 c.id, .slice mp ml mc]]) Tryz.func14 rfl Tryz.ntmps14 rfl ?_; have lcb := VBlk.lt h; have ljb := VBlk.lt hj; have c7 : ∀ wx, VBlk clT wx cb (clC c) → wx.cell? ⟨cb, 7, none⟩ = some (.pointer (some ⟨jb, 0, none⟩)) := fun wx hx => by have := hx.cell 7 (by simp [clC]); rw [this, ← hn]; rfl
  have c8 : ∀ wx, VBlk clT wx cb (clC c) → wx.cell? ⟨cb, 8, none⟩ = some (.slice (some fp) fl fc) := fun wx hx => by have := hx.cell 8 (by simp [clC]); rw [this, ← hf]; rfl
  refine K.kgn ?_; refine WL.box rfl rfl rfl rfl rfl fun g w1 f1 => ?_; have m1 : VBlk msT w1 g [.int .i64 0, .int .i64 c.id, .slice mp ml mc] := f1.blk; have v1 := VBlk.below h f1.below lcb; have j1 := VBlk.below hj f1.below ljb; have b1 := f1.below; clear f1; refine K.kgo ?_; refine WC.drawn 29 (fun wx => VBlk clT wx cb (clC c) ∧ VBlk jbT wx jb (jbC j) ∧ VBlk msT wx g [.int .i64 0, .int .i64 c.id, .slice mp ml mc] ∧ Below w.heap.size w wx) fun w2 hdr => ?_; have hS : VBlk clT w2 cb (clC c) ∧ VBlk jbT w2 jb (jbC j) ∧ VBlk msT w2 g [.int .i64 0, .int .i64 c.id, .slice mp ml mc] ∧ Below w.heap.size w w2 := ⟨VBlk.below v1 (hdr.below _) (VBlk.lt v1), VBlk.below j1 (hdr.below _) (VBlk.lt j1), VBlk.below m1 (hdr.below _) (VBlk.lt m1), b1.trans (hdr.below _)⟩; clear hdr v1 j1 m1 b1; refine K.fr [0] hS ?_; refine K.wo 1 ?_; refine WL.nilP rfl rfl rfl rfl rfl rfl (by kernel_rfl) ?_; refine K.di hS ?_; refine K.fr [2, 3] hS ?_; refine K.wl 4 [5, 6, 7, 8, 9, 10, 11, 12, 13, 14, 15, 16, 17, 18, 19, 20, 21, 22, 23, 24, 25, 26, 27, 28, 29] rfl rfl rfl rfl rfl rfl rfl (v := .int .i64 0) (fun wx hx => hx.2.2.1.cell 0 (by simp)) hS ?_; refine K.fr [5, 6, 7, 8] hS ?_; refine K.wl 9 [14, 15, 16, 17, 18, 19, 20, 21, 22, 23, 24, 25, 26, 27, 28, 29] rfl rfl rfl rfl rfl rfl rfl (v := .int .i64 c.id) (fun wx hx => hx.2.2.1.cell 1 (by simp)) hS ?_; refine K.fr [10, 11, 12] hS ?_; refine K.wl 13 [14, 15, 16, 17, 18, 19, 20, 21, 22, 23, 24, 25, 26, 27, 28, 29] rfl rfl rfl rfl rfl rfl rfl (v := .int .i64 c.id) (fun wx hx => hx.1.cell 0 (by simp [clC])) hS ?_; refine K.fr [14, 15, 16, 17, 18, 19] hS ?_; refine K.wl 20 [21, 22, 23, 24, 25, 26, 27, 28, 29] rfl rfl rfl rfl rfl rfl rfl (v := .pointer (some ⟨jb, 0, none⟩)) (fun wx hx => c7 wx hx.1) hS ?_; refine K.wo 21 ?_; refine K.kgo ?_; refine WL.nilP rfl rfl rfl rfl rfl rfl (by kernel_rfl) ?_; refine K.di hS ?_; refine K.fr [22, 23, 24, 25, 26] hS ?_; refine K.wl 27 [28, 29] rfl rfl rfl rfl rfl rfl rfl (v := .slice (some fp) fl fc) (fun wx hx => c8 wx hx.1) hS ?_; refine K.wo 28 ?_; refine K.kgo ?_; refine WL.nilB rfl rfl rfl rfl rfl rfl rfl ?_; refine K.di hS ?_; refine K.wo 29 ?_; refine WL.pure rfl rfl rfl rfl ?_; refine K.dl ?_; refine WD.done (by kernel_rfl) ?_; obtain ⟨v2, j2, m2, b2⟩ := hS; have s2 : w2.cell? ⟨g, 2, none⟩ = some (.slice mp ml mc) := m2.cell 2 (by simp); refine K.kgl ?_; refine WL.call rfl rfl rfl rfl rfl Tryz.func32 rfl (by kernel_rfl) (wdecR_S hro (hmv.of_below b2)) ?_; rintro _ w3 ⟨nv, pv, dv, rfl, b3, hones, hst⟩; refine ⟨_, rfl, ?_⟩; have v3 := VBlk.below v2 b3 (VBlk.lt v2); have j3 := VBlk.below j2 b3 (VBlk.lt j2); have b03 := b2.trans (b3.mono b2.size); have z2 := b2.size; have z3 := b3.size; refine K.kgo ?_; refine WL.alloc (z := .agg zRep.toArray) rfl rfl rfl rfl (fun _ => by kernel_rfl) fun g8 w6 f6 => ?_; refine WL.storeRow rfl rfl rfl rfl rfl rfl f6.blk rfl rfl hones ?_; have e6 := f6.eq; have r7 : VBlk rpT (w6.setRow g8 (rpC r nv pv dv).toArray) g8 (rpC r nv pv dv) := f6.blk.setRow (rpC r nv pv dv); have b7 : Below w3.heap.size w3 (w6.setRow g8 (rpC r nv pv dv).toArray) := below_setRow f6.below (by omega) _; have v7 := VBlk.below v3 b7 (VBlk.lt v3); have j7 := VBlk.below j3 b7 (VBlk.lt j3); have b07 := b03.trans (b7.mono b03.size); have k37 : Keep (fun b => w2.heap.size ≤ b ∧ b < w3.heap.size) w3 (w6.setRow g8 (rpC r nv pv dv).toArray) := (Keep.of_below b7).mono fun x hx => hx.2; generalize w6.setRow g8 (rpC r nv pv dv).toArray = w7 at r7 b7 v7 j7 b07 k37 ⊢; clear f6 v3 j3 b03 v2 j2 m2 s2; have hw : IntKind.u64.wrap ((c.seq : Nat) : Int) = ((c.seq : Nat) : Int) := by rw [IntKind.wrap_u64]; omega
  refine K.kgo ?_; refine WC.drawn 11 (fun wx => VBlk clT wx cb (clC c) ∧ VBlk jbT wx jb (jbC j) ∧ VBlk rpT wx g8 (rpC r nv pv dv) ∧ Below w7.heap.size w7 wx) fun w8 hdr => ?_; have hS : VBlk clT w8 cb (clC c) ∧ VBlk jbT w8 jb (jbC j) ∧ VBlk rpT w8 g8 (rpC r nv pv dv) ∧ Below w7.heap.size w7 w8 := ⟨VBlk.below v7 (hdr.below _) (VBlk.lt v7), VBlk.below j7 (hdr.below _) (VBlk.lt j7), VBlk.below r7 (hdr.below _) (VBlk.lt r7), hdr.below _⟩; clear hdr v7 j7 r7; refine K.fr [0, 1, 2, 3] hS ?_; refine K.wl 4 [5, 10, 11] rfl rfl rfl rfl rfl rfl rfl (v := .int .i64 ((c.seq : Nat) : Int)) (fun wx hx => by have := hx.2.2.1.cell 0 (by simp [rpC]); rw [this, ← hseq]; rfl) hS ?_; refine K.fr [5, 6, 7, 8] hS ?_; refine K.wl 9 [10, 11] rfl rfl rfl rfl rfl rfl rfl (v := .int .u64 ((c.seq : Nat) : Int)) (fun wx hx => hx.1.cell 2 (by simp [clC])) hS ?_; refine K.fr [10] hS ?_; refine K.wo 11 ?_; refine WL.pure rfl rfl rfl rfl ?_; refine K.dl ?_; refine WD.done (by kernel_rfl) ?_; obtain ⟨v8, j8, r8, b8⟩ := hS; have b08 := b07.trans (b8.mono b07.size); have k38 := k37.trans ((Keep.of_below b8).mono fun x hx => by have := b7.size; omega); refine K.kgo ?_; refine WL.store (v := nos) rfl rfl rfl rfl rfl rfl (by kernel_rfl) (VBlk.cell v8 8 (by simp [clC])) (VBlk.free v8 8) ?_; have v9 : VBlk clT (w8.setCell ⟨cb, 8, none⟩ nos) cb (clC { c with frame := nos }) := VBlk.set v8 8 _; have j9 := VBlk.other j8 ⟨cb, 8, none⟩ nos (fun e => hne e.symm); have gne : g8 ≠ cb := by omega
  have r9 := VBlk.other r8 ⟨cb, 8, none⟩ nos gne; have k9 : Keep (fun x => x < w.heap.size ∧ x ≠ cb) w (w8.setCell ⟨cb, 8, none⟩ nos) := ((Keep.of_below b08).mono fun x hx => hx.1).setCell (fun hx => hx.2 rfl) _; have k39 := k38.setCell (p := ⟨cb, 8, none⟩) (fun hx => by have : w2.heap.size ≤ cb := hx.1; omega) nos; generalize hw9 : w8.setCell ⟨cb, _, none⟩ nos = w9; have hw9' : w8.setCell ⟨cb, 8, none⟩ nos = w9 := hw9; rw [hw9'] at v9 j9 r9 k9 k39; clear hw9 hw9' v8 j8 r8 b8 b08 k38 b07 b7 k37; have c7' : ∀ wx, VBlk clT wx cb (clC { c with frame := nos }) → wx.cell? ⟨cb, 7, none⟩ = some (.pointer (some ⟨jb, 0, none⟩)) := fun wx hx => by have := hx.cell 7 (by simp [clC]); rw [this, ← hn]; rfl
  refine K.kgo ?_; refine WC.drawn 8 (fun wx => VBlk clT wx cb (clC { c with frame := nos }) ∧ VBlk jbT wx jb (jbC j) ∧ VBlk rpT wx g8 (rpC r nv pv dv) ∧ Below w9.heap.size w9 wx) fun wA hdr => ?_; have hS : VBlk clT wA cb (clC { c with frame := nos }) ∧ VBlk jbT wA jb (jbC j) ∧ VBlk rpT wA g8 (rpC r nv pv dv) ∧ Below w9.heap.size w9 wA := ⟨VBlk.below v9 (hdr.below _) (VBlk.lt v9), VBlk.below j9 (hdr.below _) (VBlk.lt j9), VBlk.below r9 (hdr.below _) (VBlk.lt r9), hdr.below _⟩; clear hdr v9 j9 r9; refine K.fr [0, 1, 2] hS ?_; refine K.wl 3 [4, 5, 6, 8, 9] rfl rfl rfl rfl rfl rfl rfl (v := .pointer (some ⟨jb, 0, none⟩)) (fun wx hx => c7' wx hx.1) hS ?_; refine K.fr [4, 5] hS ?_; refine WD.loadF 6 [8, 9] rfl (by kernel_rfl) rfl rfl (fun _ _ _ _ _ h => h) rfl rfl rfl (v := meth fid cb) (fun wx hx => by have := hx.2.1.cell 73 (by rw [jbC_len hd hd2]; omega); rw [jbC_hearsV hd hd2, hh] at this; exact this) hS ?_; refine K.wm 7 [8, 9] rfl rfl rfl rfl rfl rfl rfl (cs := rpC r nv pv dv) (fun wx hx => VBlk.rangeAt hx.2.2.1) rfl hS ?_; refine K.wo 8 ?_; obtain ⟨vA, jA, -, bA⟩ := hS; have z9 := k9.size; have z39 := k39.size; have kA : Keep (fun x => x < w.heap.size ∧ x ≠ cb) w wA := k9.trans ((Keep.of_below bA).mono fun x hx => Nat.lt_of_lt_of_le hx.1 z9); have k3A := k39.trans ((Keep.of_below bA).mono fun x hx => by omega); obtain ⟨hN, hV, hD⟩ := hst wA k3A; refine WL.callM rfl rfl rfl rfl rfl rfl hfn hb hname (hc wA nv pv dv kA vA jA hN hV hD) ?_; rintro _ wB ⟨v, c', rfl, hr', vB, hR⟩; refine ⟨_, rfl, ?_⟩; refine K.dl ?_; refine K.wo 9 ?_; refine WL.pure rfl rfl rfl rfl ?_; refine K.dl ?_; refine WD.done (by kernel_rfl) ?_; refine K.kgo ?_; refine WL.call rfl rfl rfl rfl rfl Tryz.func33 rfl (by kernel_rfl) (told_any vB hr') ?_; rintro _ wC ⟨rfl, vC, kC⟩; refine ⟨_, rfl, ?_⟩; refine K.kgo ?_; exact WQ.ret2 rfl rfl rfl ⟨v, c', wA, wB, rfl, kA, hR, vC, kC⟩
end Cl
end Go.Proofs.YtpfkcfaifleliaaGreat

namespace Go.Proofs.YtpfkcfaifleliaaGreat
open Go.RowKit
namespace Cl
open K
set_option maxRecDepth 100000
variable {w : World} {cb : Nat}
def sel : ByteArray := ⟨#[115, 101, 108, 101, 99, 116, 32, 49]⟩
def fidp (p : Nat) : Nat := if p = 1 then opT else if p = 3 then stF else if p = 4 then rnF else dcF
structure JsP (cb T t p k : Nat) (c : Cli) (w : World) (v : Value) (j : Jb) (jb gl cl : Nat) (nums : List Int) (text : ByteArray) (hash : List Int) (fp : Addr) (fl fc : Nat) (jp : Option Addr) (jc : Nat) : Prop where
  blk : VBlk jbT w jb (jbC j)
  now : c.now = some ⟨jb, 0, none⟩
  gl1 : cb < gl
  gl2 : gl < jb
  id : c.id = 3
  tries : c.tries = T
  seq : c.seq = k
  root : c.root.length = 32
  out : c.out = nos
  jobs : c.jobs = .slice jp 0 jc
  frame : c.frame = .slice (some fp) fl fc
  ses : p ≠ 1 → c.has = true ∧ c.ses = 9
  dig : j.dig.length = 32
  dbyt : Frm.Byt j.dig
  nroot : j.nroot.length = 32
  num : j.num = 0
  jt : j.tries = t
  txn : R64c j.txn
  l : j.l = .slice (some ⟨gl, 0, none⟩) 1 cl
  row : w.rangeAt gl 0 [.string sel, nos]
  rows : p = 4 → j.rows = nos
  hears : j.hears = meth (fidp p) cb
  msg : Msg1 w (cb + 1) v 3 (Frm.frameL (rqB (rqK p k nums text hash)))
  nl : nums.length ≤ 8
  n64 : R64w nums
  tl : text.size ≤ 4096
  hl : hash.length = 32
  hb : Frm.Byt hash
def Jst (cb T t p k : Nat) (c : Cli) (w : World) (v : Value) : Prop := ∃ j jb gl cl nums text hash fp fl fc jp jc, JsP cb T t p k c w v j jb gl cl nums text hash fp fl fc jp jc
theorem Msg1.keep {w w' : World} {B : Nat} {v : Value} {id : Int} {L : List Int} (h : Msg1 w B v id L) {K : Nat → Prop} (hk : Keep K w w') (hK : ∀ x, B ≤ x → x < w.heap.size → K x) : Msg1 w' B v id L := by
  obtain ⟨g, fb, h1, h2, h3, h4, h5⟩ := h; exact ⟨g, fb, h1, h2, VBlk.keep h3 hk (hK g h2 (VBlk.lt h3)), Bu.keep h4 hk (fun x hx => hK x (h5 x hx) (Bu.lt h4 x hx)), h5⟩
theorem Msg1.mono {w : World} {B B' : Nat} {v : Value} {id : Int} {L : List Int} (h : Msg1 w B v id L) (hB : B' ≤ B) : Msg1 w B' v id L := by
  obtain ⟨g, fb, h1, h2, h3, h4, h5⟩ := h; exact ⟨g, fb, h1, Nat.le_trans hB h2, h3, h4, fun x hx => Nat.le_trans hB (h5 x hx)⟩
theorem Jst.keep {T t p k : Nat} {c : Cli} {w w' : World} {v : Value} (h : Jst cb T t p k c w v) (hk : Keep (fun x => x < w.heap.size ∧ x ≠ cb) w w') : Jst cb T t p k c w' v := by
  obtain ⟨j, jb, gl, cl, nums, text, hash, fp, fl, fc, jp, jc, s⟩ := h; have l1 := s.gl1; have l2 := s.gl2; have l3 := VBlk.lt s.blk; exact ⟨j, jb, gl, cl, nums, text, hash, fp, fl, fc, jp, jc, { s with
    blk := VBlk.keep s.blk hk ⟨l3, by omega⟩
    row := fun q u hu => by rw [hk.cell (p := ⟨gl, 0 + q, none⟩) (by show gl < w.heap.size ∧ gl ≠ cb; omega)]; exact s.row q u hu
    msg := s.msg.keep hk fun x h1 h2 => ⟨h2, by omega⟩ }⟩
def yOf (p : Nat) (err : Int) (k : Nat) : Rp := if p = 5 then ⟨k, err, [], [], []⟩ else if p = 4 then ⟨k, 0, [], [], []⟩ else ⟨k, 0, [9], [], []⟩
theorem rp_ok {k : Nat} {e : Int} {ns : List Int} (hk : k ≤ 9007199254740992) (he : 0 ≤ e ∧ e ≤ 100) (hn : ns.length ≤ 8) (h64 : R64w ns) : RpOk ⟨k, e, ns, [], []⟩ := by
  have hlen : (rpB ⟨k, e, ns, [], []⟩).length ≤ 500 := by
    unfold rpB; have h1 := headB_len 82 e (k : Int).toNat ns hn; have h2 := uvB_lenw ([] : List Int).length; have h3 : (valsB []).length ≤ 10 := by unfold valsB; rw [List.length_append]; have := uvB_lenw ([] : List V).length; simp [vlB]; omega
    simp only [List.length_append, List.length_nil] at *; omega
  have hbt : Frm.Byt (rpB ⟨k, e, ns, [], []⟩) := fun c hc => by
    unfold rpB at hc; simp only [List.mem_append] at hc; rcases hc with (hc | hc) | hc | hc
    · exact headB_byt (by omega) (by omega) _ _ c hc
    · exact valsB_byt (l := []) (fun v h => by cases h) c hc
    · exact uvB_bytw _ c hc
    · cases hc
  exact ⟨he, ⟨by show (0 : Int) ≤ k; omega, by show (k : Int) ≤ _; omega⟩, hn, h64, by simp, fun v hv => (by cases hv), by simp, fun c hc => (by cases hc), hbt, by omega⟩
theorem yOf_ok {p k : Nat} {err : Int} (hk : k ≤ 9007199254740992) (he : 0 ≤ err ∧ err ≤ 100) : RpOk (yOf p err k) := by
  unfold yOf
  split
  · exact rp_ok hk he (by simp) (fun x hx => by cases hx)
  · split
    · exact rp_ok hk (by omega) (by simp) (fun x hx => by cases hx)
    · exact rp_ok hk (by omega) (by simp) (fun x hx => by rcases List.mem_cons.1 hx with rfl | hx; omega; cases hx)
def tn (t p : Nat) : Nat := if p = 5 then t + 1 else t
def pn (p : Nat) : Nat := if p = 1 then 3 else if p = 3 then 4 else if p = 4 then 5 else 3
def Went (cb T t p k : Nat) (err : Int) (w : World) : Ending → World → Prop := fun e w' => Keep (fun x => x < cb) w w' ∧
  ((¬ (p = 5 ∧ t = T) ∧ ∃ v c, e = .returned (.tuple #[nos, v]) ∧ VBlk clT w' cb (clC c) ∧ Jst cb T (tn t p) (pn p) (k + 1) c w' v) ∨
   (p = 5 ∧ t = T ∧ ∃ c gR cR jp jc, e = .returned (.tuple #[.slice (some ⟨gR, 0, none⟩) 1 cR, nos]) ∧ VBlk clT w' cb (clC c) ∧ c.now = none ∧ c.jobs = .slice jp 0 jc ∧ w'.rangeAt gR 0 (badC 0 err)))
theorem Asked.went {T t p k t2 p2 : Nat} {c c1 : Cli} {w w1 w2 w' : World} {v v2 : Value} {j j2 : Jb} {jb gl cl : Nat} {nums nums2 : List Int} {text text2 : ByteArray} {hash hash2 : List Int} {fp : Addr} {fl fc : Nat} {jp : Option Addr} {jc : Nat} {fb : Value}
    (s : JsP cb T t p k c w v j jb gl cl nums text hash fp fl fc jp jc)  (k01 : Keep (fun x => x < w.heap.size ∧ x ≠ cb) w w1)
    (c1d : c1.id = 3 ∧ c1.tries = T ∧ c1.seq = k ∧ c1.root.length = 32 ∧ c1.out = nos ∧ c1.jobs = .slice jp 0 jc ∧ c1.now = some ⟨jb, 0, none⟩ ∧ c1.has = true ∧ c1.ses = 9)
    (j2d : j2.dig.length = 32 ∧ Frm.Byt j2.dig ∧ j2.nroot.length = 32 ∧ j2.num = 0 ∧ j2.tries = t2 ∧ R64c j2.txn ∧ j2.l = .slice (some ⟨gl, 0, none⟩) 1 cl ∧ (p2 = 4 → j2.rows = nos))
    (nd : nums2.length ≤ 8 ∧ R64w nums2 ∧ text2.size ≤ 4096 ∧ hash2.length = 32 ∧ Frm.Byt hash2)
    (q2 : VBlk jbT w2 jb (jbC { j2 with hears := meth (fidp p2) cb })) (q3 : Bu w2 fb (Frm.frameL (rqB (rqK p2 (k + 1) nums2 text2 hash2)))) (q5 : Msg1 w2 w1.heap.size v2 3 (Frm.frameL (rqB (rqK p2 (k + 1) nums2 text2 hash2)))) (q6 : Keep (fun x => x < w1.heap.size ∧ x ≠ cb ∧ x ≠ jb) w1 w2)
    (k2 : Keep (fun x => x < w2.heap.size ∧ x ≠ cb) w2 w') :
    Keep (fun x => x < cb) w w' ∧ Jst cb T t2 p2 (k + 1) { c1 with seq := c1.seq + 1, frame := fb, waited := 0, sends := 1, out := nos } w' v2 := by
  have z1 := k01.size; have z2 := q6.size; have l1 := s.gl1; have l2 := s.gl2; have l3 := VBlk.lt s.blk; have hL : 0 < (Frm.frameL (rqB (rqK p2 (k + 1) nums2 text2 hash2))).length := by rw [Frm.frameL_len]; omega
  obtain ⟨gf, cf, rfl, -, -⟩ := Bu.at q3 hL; obtain ⟨a1, a2, a3, a4, a5, a6, a7, a8, a9⟩ := c1d; obtain ⟨b1, b2, b3, b4, b5, b6, b7, b8⟩ := j2d; obtain ⟨d1, d2, d3, d4, d5⟩ := nd; have st : Jst cb T t2 p2 (k + 1) { c1 with seq := c1.seq + 1, frame := .slice (some ⟨gf, 0, none⟩) (Frm.frameL (rqB (rqK p2 (k + 1) nums2 text2 hash2))).length cf, waited := 0, sends := 1, out := nos } w2 v2 :=
    ⟨{ j2 with hears := meth (fidp p2) cb }, jb, gl, cl, nums2, text2, hash2, ⟨gf, 0, none⟩, _, cf, jp, jc, ⟨q2, a7, l1, l2, a1, a2, by show c1.seq + 1 = k + 1; rw [a3], a4, rfl, a6, rfl, fun _ => ⟨a8, a9⟩, b1, b2, b3, b4, b5, b6, b7, fun q u hu => by
      rw [q6.cell (p := ⟨gl, 0 + q, none⟩) (by show gl < w1.heap.size ∧ gl ≠ cb ∧ gl ≠ jb; omega), k01.cell (p := ⟨gl, 0 + q, none⟩) (by show gl < w.heap.size ∧ gl ≠ cb; omega)]; exact s.row q u hu, b8, rfl, q5.mono (by omega), d1, d2, d3, d4, d5⟩⟩
  exact ⟨((k01.mono fun x (hx : x < cb) => ⟨by omega, by omega⟩).trans (q6.mono fun x (hx : x < cb) => ⟨by omega, by omega, by omega⟩)).trans (k2.mono fun x (hx : x < cb) => ⟨by omega, by omega⟩), st.keep k2⟩
set_option maxHeartbeats 16000000 in
theorem hear_step {T t p k : Nat} {c : Cli} {v mv : Value} {err : Int} {mp : Option Addr} {ml mc : Nat} (h : VBlk clT w cb (clC c)) (hJ : Jst cb T t p k c w v) (hp : p = 1 ∨ p = 3 ∨ p = 4 ∨ p = 5) (hT : t ≤ T) (hT2 : T ≤ 20) (hk : k ≤ 1000) (he : err = 14 ∨ err = 16) (hm0 : mv = .slice mp ml mc) (hmv : Sl .u8 w mv (Frm.frameL (rpB (yOf p err k)))) :
    Calls Tryz.prog 14 #[.pointer (some ⟨cb, 0, none⟩), .agg #[.int .i64 0, .int .i64 3, mv]] w (Went cb T t p k err w) := by
  obtain ⟨j, jb, gl, cl, nums, text, hash, fp, fl, fc, jp, jc, s⟩ := hJ; have l1 := s.gl1; have l2 := s.gl2; have l3 := VBlk.lt s.blk; have hne : cb ≠ jb := by omega
  have hsq : c.seq ≤ 9007199254740990 := by rw [s.seq]; omega
  have h9 : R64c 9 := ⟨by omega, by omega⟩; rw [show (Value.int .i64 3) = .int .i64 c.id from by rw [s.id]]; have hro : RpOk (yOf p err k) := yOf_ok (by omega) (by omega); have rowK : ∀ {w1 : World}, Keep (fun x => x < w.heap.size ∧ x ≠ cb) w w1 → w1.rangeAt gl 0 [.string sel, nos] := fun hk q u hu => by
    rw [hk.cell (p := ⟨gl, 0 + q, none⟩) (by show gl < w.heap.size ∧ gl ≠ cb; omega)]; exact s.row q u hu
  rcases hp with rfl | rfl | rfl | rfl
  · refine (hear_any (R := fun w1 v' c' w2 => ∃ fb, c' = { { c with frame := nos, ses := 9, has := true } with seq := c.seq + 1, frame := fb, waited := 0, sends := 1 } ∧ VBlk jbT w2 jb (jbC { j with hears := meth stF cb }) ∧ Bu w2 fb (Frm.frameL (rqB (rqK 3 (c.seq + 1) [9] noT z32))) ∧ Msg1 w2 w1.heap.size v' c.id (Frm.frameL (rqB (rqK 3 (c.seq + 1) [9] noT z32))) ∧ Keep (fun x => x < w1.heap.size ∧ x ≠ cb ∧ x ≠ jb) w1 w2) h s.blk s.now hne s.dig s.nroot s.frame hsq s.hears Tryz.func60 rfl (by kernel_rfl) hro (by rw [s.seq]; rfl) hm0 hmv ?_).mono ?_
    · intro w1 nv pv dv k1 v1 j1 hN hV hD
      refine (opened_ok (k := k) (s := 9) (pv := pv) (dv := dv) (c := { c with frame := nos }) v1 j1 s.now hne hsq s.dig s.nroot h9 hN).mono ?_; rintro _ w2 ⟨v', fb, rfl, q1, q2, q3, -, q5, q6⟩; exact ⟨v', _, rfl, by exact s.root, q1, fb, rfl, q2, q3, q5, q6⟩
    · rintro _ w' ⟨v', c', w1, w2, rfl, k01, ⟨fb, rfl, q2, q3, q5, q6⟩, v2, k2⟩
      rw [s.seq] at q3 q5; rw [s.id] at q5; obtain ⟨a, b⟩ := Asked.went (t2 := t) (p2 := 3) (j2 := j) (c1 := { c with frame := nos, ses := 9, has := true }) s k01 ⟨s.id, s.tries, s.seq, s.root, s.out, s.jobs, s.now, rfl, rfl⟩ ⟨s.dig, s.dbyt, s.nroot, s.num, s.jt, s.txn, s.l, fun e => by omega⟩ ⟨by simp, fun x hx => (by rcases List.mem_cons.1 hx with rfl | hx; omega; cases hx), by decide, rfl, z32_byt⟩ q2 q3 q5 q6 k2; exact ⟨a, .inl ⟨fun e => by omega, v', _, congrArg (fun x => Ending.returned (.tuple #[x, v'])) s.out, v2, b⟩⟩
  · refine (hear_any (R := fun w1 v' c' w2 => ∃ fb d, d.length = 32 ∧ Frm.Byt d ∧ c' = { { c with frame := nos } with seq := c.seq + 1, frame := fb, waited := 0, sends := 1 } ∧ VBlk jbT w2 jb (jbC { { j with txn := 9, rows := nos, dig := d } with hears := meth rnF cb }) ∧ Bu w2 fb (Frm.frameL (rqB (rqK 4 (c.seq + 1) [c.ses, 9] sel z32))) ∧ Msg1 w2 w1.heap.size v' c.id (Frm.frameL (rqB (rqK 4 (c.seq + 1) [c.ses, 9] sel z32))) ∧ Keep (fun x => x < w1.heap.size ∧ x ≠ cb ∧ x ≠ jb) w1 w2) h s.blk s.now hne s.dig s.nroot s.frame hsq s.hears Tryz.func61 rfl (by kernel_rfl) hro (by rw [s.seq]; rfl) hm0 hmv ?_).mono ?_
    · intro w1 nv pv dv k1 v1 j1 hN hV hD
      have z1 := k1.size; refine (started_ok (k := k) (t := 9) (pv := pv) (dv := dv) (c := { c with frame := nos }) v1 j1 s.now hne hsq s.dig s.nroot (by show R64c c.ses; rw [(s.ses (by omega)).2]; exact h9) h9 hN s.l (rowK k1) ⟨by omega, by omega, by omega⟩ (by decide)).mono ?_; rintro _ w2 ⟨d, hdl, hdb, v', fb, rfl, q1, q2, q3, -, q5, q6⟩; exact ⟨v', _, rfl, by exact s.root, q1, fb, d, hdl, hdb, rfl, q2, q3, q5, q6⟩
    · rintro _ w' ⟨v', c', w1, w2, rfl, k01, ⟨fb, d, hdl, hdb, rfl, q2, q3, q5, q6⟩, v2, k2⟩
      rw [s.seq] at q3 q5; rw [s.id] at q5; rw [(s.ses (by omega)).2] at q3 q5; obtain ⟨a, b⟩ := Asked.went (t2 := t) (p2 := 4) (j2 := { j with txn := 9, rows := nos, dig := d }) (c1 := { c with frame := nos }) s k01 ⟨s.id, s.tries, s.seq, s.root, s.out, s.jobs, s.now, (s.ses (by omega)).1, (s.ses (by omega)).2⟩ ⟨hdl, hdb, s.nroot, s.num, s.jt, h9, s.l, fun _ => rfl⟩ ⟨by simp, fun x hx => (by rcases List.mem_cons.1 hx with rfl | hx; omega; rcases List.mem_cons.1 hx with rfl | hx; omega; cases hx), by decide, rfl, z32_byt⟩ q2 q3 q5 q6 k2; exact ⟨a, .inl ⟨fun e => by omega, v', _, congrArg (fun x => Ending.returned (.tuple #[x, v'])) s.out, v2, b⟩⟩
  · refine (hear_any (R := fun w1 v' c' w2 => ∃ fb d gr cr, d.length = 32 ∧ Frm.Byt d ∧ c' = { { c with frame := nos } with seq := c.seq + 1, frame := fb, waited := 0, sends := 1 } ∧ VBlk jbT w2 jb (jbC { { j with dig := d, rows := .slice (some ⟨gr, 0, none⟩) 1 cr } with hears := meth dcF cb }) ∧ Bu w2 fb (Frm.frameL (rqB (rqK 5 (c.seq + 1) [c.ses, j.txn] noT d))) ∧ Msg1 w2 w1.heap.size v' c.id (Frm.frameL (rqB (rqK 5 (c.seq + 1) [c.ses, j.txn] noT d))) ∧ Keep (fun x => x < w1.heap.size ∧ x ≠ cb ∧ x ≠ jb) w1 w2) h s.blk s.now hne s.dig s.nroot s.frame hsq s.hears Tryz.func123 rfl (by kernel_rfl) hro (by rw [s.seq]; rfl) hm0 hmv ?_).mono ?_
    · intro w1 nv pv dv k1 v1 j1 hN hV hD
      have z1 := k1.size; refine (ran_ok (k := k) (dv := dv) (c := { c with frame := nos }) v1 j1 s.now hne hsq s.dig s.nroot (by show R64c c.ses; rw [(s.ses (by omega)).2]; exact h9) s.txn hN hV (s.rows rfl) s.l (rowK k1) ⟨by omega, by omega, by omega⟩ (by decide)).mono ?_; rintro _ w2 ⟨d, gr, cr, hdl, hdb, v', fb, rfl, q1, q2, q3, -, q5, q6⟩; exact ⟨v', _, rfl, by exact s.root, q1, fb, d, gr, cr, hdl, hdb, rfl, q2, q3, q5, q6⟩
    · rintro _ w' ⟨v', c', w1, w2, rfl, k01, ⟨fb, d, gr, cr, hdl, hdb, rfl, q2, q3, q5, q6⟩, v2, k2⟩
      rw [s.seq] at q3 q5; rw [s.id] at q5; rw [(s.ses (by omega)).2] at q3 q5; obtain ⟨a, b⟩ := Asked.went (t2 := t) (p2 := 5) (j2 := { j with dig := d, rows := .slice (some ⟨gr, 0, none⟩) 1 cr }) (c1 := { c with frame := nos }) s k01 ⟨s.id, s.tries, s.seq, s.root, s.out, s.jobs, s.now, (s.ses (by omega)).1, (s.ses (by omega)).2⟩ ⟨hdl, hdb, s.nroot, s.num, s.jt, s.txn, s.l, fun e => by omega⟩ ⟨by simp, fun x hx => (by rcases List.mem_cons.1 hx with rfl | hx; omega; rcases List.mem_cons.1 hx with rfl | hx; exact s.txn; cases hx), by decide, hdl, hdb⟩ q2 q3 q5 q6 k2; exact ⟨a, .inl ⟨fun e => by omega, v', _, congrArg (fun x => Ending.returned (.tuple #[x, v'])) s.out, v2, b⟩⟩
  · refine (hear_any (R := fun w1 v' c' w2 => (t < T ∧ ∃ fb, c' = { { c with frame := nos } with seq := c.seq + 1, frame := fb, waited := 0, sends := 1 } ∧ VBlk jbT w2 jb (jbC { { j with tries := j.tries + 1 } with hears := meth stF cb }) ∧ Bu w2 fb (Frm.frameL (rqB (rqK 3 (c.seq + 1) [c.ses] noT z32))) ∧ Msg1 w2 w1.heap.size v' c.id (Frm.frameL (rqB (rqK 3 (c.seq + 1) [c.ses] noT z32))) ∧ Keep (fun x => x < w1.heap.size ∧ x ≠ cb ∧ x ≠ jb) w1 w2) ∨ (t = T ∧ v' = nos ∧ ∃ gR cR, c' = { { c with frame := nos } with now := none, frame := nos, out := .slice (some ⟨gR, 0, none⟩) 1 cR } ∧ OwnV rsT 5 w2 (fun x => w1.heap.size ≤ x) (.slice (some ⟨gR, 0, none⟩) 1 cR) 1 (badC j.num err) ∧ Keep (fun x => x < w1.heap.size ∧ x ≠ cb) w1 w2)) h s.blk s.now hne s.dig s.nroot s.frame hsq s.hears Tryz.func122 rfl (by kernel_rfl) hro (by rw [s.seq]; rfl) hm0 hmv ?_).mono ?_
    · intro w1 nv pv dv k1 v1 j1 hN hV hD
      refine (decided_bad (k := k) (nv := nv) (pv := pv) (dv := dv) (c := { c with frame := nos }) v1 j1 s.now hne s.root s.out he (s.ses (by omega)).1 hsq s.dig s.nroot (by show R64c c.ses; rw [(s.ses (by omega)).2]; exact h9) (by rw [s.jt]; omega)).mono ?_; intro e w2 ho
      by_cases ht : t < T
      · have ht2 : j.tries < ({ c with frame := nos } : Cli).tries := by show j.tries < c.tries; rw [s.jt, s.tries]; omega
        unfold Overed at ho; rw [if_pos ht2] at ho; obtain ⟨v', fb, rfl, q1, q2, q3, -, q5, q6⟩ := ho; exact ⟨v', _, rfl, by exact s.root, q1, .inl ⟨ht, fb, rfl, q2, q3, q5, q6⟩⟩
      · have ht2 : ¬ j.tries < ({ c with frame := nos } : Cli).tries := by show ¬ j.tries < c.tries; rw [s.jt, s.tries]; omega
        unfold Overed at ho; rw [if_neg ht2] at ho; obtain ⟨rfl, gR, cR, q1, q2, q3⟩ := ho; exact ⟨nos, _, rfl, by exact s.root, q1, .inr ⟨by omega, rfl, gR, cR, rfl, q2, q3⟩⟩
    · rintro _ w' ⟨v', c', w1, w2, rfl, k01, hR, v2, k2⟩
      rcases hR with ⟨ht, fb, rfl, q2, q3, q5, q6⟩ | ⟨ht, rfl, gR, cR, rfl, q2, q3⟩
      · rw [s.seq] at q3 q5
        rw [s.id] at q5; rw [(s.ses (by omega)).2] at q3 q5; obtain ⟨a, b⟩ := Asked.went (t2 := t + 1) (p2 := 3) (j2 := { j with tries := j.tries + 1 }) (c1 := { c with frame := nos }) s k01 ⟨s.id, s.tries, s.seq, s.root, s.out, s.jobs, s.now, (s.ses (by omega)).1, (s.ses (by omega)).2⟩ ⟨s.dig, s.dbyt, s.nroot, s.num, by show j.tries + 1 = ((t + 1 : Nat) : Int); rw [s.jt]; omega, s.txn, s.l, fun e => by omega⟩ ⟨by simp, fun x hx => (by rcases List.mem_cons.1 hx with rfl | hx; omega; cases hx), by decide, rfl, z32_byt⟩ q2 q3 q5 q6 k2; exact ⟨a, .inl ⟨fun e => by omega, v', _, congrArg (fun x => Ending.returned (.tuple #[x, v'])) s.out, v2, b⟩⟩
      · rw [s.num] at q2
        have z1 := k01.size; have z2 := q3.size; have lcb := VBlk.lt h; refine ⟨((k01.mono fun x (hx : x < cb) => ⟨by omega, by omega⟩).trans (q3.mono fun x (hx : x < cb) => ⟨by omega, by omega⟩)).trans (k2.mono fun x (hx : x < cb) => ⟨by omega, by omega⟩), .inr ⟨rfl, ht, _, gR, cR, jp, jc, rfl, v2, rfl, s.jobs, fun q u hu => ?_⟩⟩; have hg : w1.heap.size ≤ gR := OwnV.own q2 rfl; have hlt : gR < w2.heap.size := OwnV.lt q2 rfl; have hq : q < (badC 0 err).length := by
          rcases Nat.lt_or_ge q (badC 0 err).length with h | h
          · exact h
          · rw [List.getElem?_eq_none h] at hu; cases hu
        rw [k2.cell (p := ⟨gR, 0 + q, none⟩) (by show gR < w2.heap.size ∧ gR ≠ cb; omega), Nat.zero_add, q2.at q hq]; rw [List.getElem?_eq_getElem hq] at hu; simp [List.getD_eq_getElem?_getD, List.getElem?_eq_getElem hq, ← hu]
end Cl
end Go.Proofs.YtpfkcfaifleliaaGreat

namespace Go.Proofs.YtpfkcfaifleliaaGreat
open Go.RowKit
namespace Cl
open K
set_option maxRecDepth 100000
abbrev xT : Nat := 105
abbrev prT : Nat := 35
def xC0 (id tries : Int) : List Value := [.int .i64 id, .int .i64 tries, nos, .int .i64 0, .int .i64 0, .int .i64 0, .int .i64 0, .bool false, .int .i64 0] ++ (z32.map (Value.int .u8) ++ ([nos, .int .i64 0, .int .i64 0, .int .i64 0, nos, .int .i64 0, .int .i64 0, .int .i64 0] ++ (z32.map (Value.int .u8) ++ (.int .i64 0 :: z32.map (Value.int .u8)))))
variable {w : World}
theorem newX {id tries : Int} (h1 : 1 ≤ id) (h2 : 1 ≤ tries) (h3 : tries ≤ 100) : Calls Tryz.prog 21 #[.int .i64 id, .int .i64 tries] w fun e w' => ∃ xb, e = .returned (.tuple #[.pointer (some ⟨xb, 0, none⟩), .int .i64 0]) ∧ VBlk xT w' xb (xC0 id tries) ∧ xb = w.heap.size ∧ Below w.heap.size w w' := by
  refine enter (args := [.int .i64 id, .int .i64 tries]) Tryz.func21 rfl Tryz.ntmps21 rfl ?_; refine K.kgo ?_; refine WL.build (xC0 id tries) rfl rfl rfl rfl rfl (by kernel_rfl) ?_; refine WL.box rfl rfl rfl rfl rfl fun cb w1 f1 => ?_; have v1 : VBlk xT w1 cb (xC0 id tries) := f1.blk; refine K.kgo ?_; exact WQ.ret2 rfl rfl rfl ⟨cb, rfl, v1, f1.eq, f1.below⟩
set_option maxHeartbeats 4000000 in
theorem start_any {id tries : Int} (h1 : 1 ≤ id) (h2 : 1 ≤ tries) (h3 : tries ≤ 100) : Calls Tryz.prog 9 #[.int .i64 id, .int .i64 tries] w fun e w' => ∃ pb cb xb sp, e = .returned (.tuple #[.pointer (some ⟨pb, 0, none⟩), .bool true]) ∧ VBlk prT w' pb [.pointer (some ⟨cb, 0, none⟩), .pointer (some ⟨xb, 0, none⟩), .pointer sp, nos] ∧
    VBlk clT w' cb (clC (cl0 id tries)) ∧ VBlk xT w' xb (xC0 id tries) ∧ w.heap.size ≤ cb ∧ cb < xb ∧ xb < pb ∧ Below w.heap.size w w' := by
  refine enter (args := [.int .i64 id, .int .i64 tries]) Tryz.func9 rfl Tryz.ntmps9 rfl ?_; refine K.kgo ?_; refine WL.call rfl rfl rfl rfl rfl Tryz.func17 rfl (by kernel_rfl) (newC h1 h2 h3) ?_; rintro _ w1 ⟨cb, rfl, v1, e1, b1⟩; refine ⟨_, rfl, ?_⟩; refine K.kgo ?_; refine WL.call rfl rfl rfl rfl rfl Tryz.func21 rfl (by kernel_rfl) (newX h1 h2 h3) ?_; rintro _ w2 ⟨xb, rfl, x2, e2, b2⟩; refine ⟨_, rfl, ?_⟩; refine K.kgo ?_; refine WL.call rfl rfl rfl rfl rfl Tryz.func22 rfl (by kernel_rfl) new3 ?_; rintro _ w3 ⟨db, rfl, d3, e3, b3⟩; refine ⟨_, rfl, ?_⟩; refine K.kgo ?_; refine WL.build [.int .i64 2, .int .i64 30] rfl rfl rfl rfl rfl (by kernel_rfl) ?_; refine K.kgo ?_; refine WL.call rfl rfl rfl rfl rfl Tryz.func23 rfl (by kernel_rfl) (open26 d3) ?_; rintro _ w4 ⟨sp, rfl, k4⟩; refine ⟨_, rfl, ?_⟩; have z1 := b1.size; have z2 := b2.size; have z3 := b3.size; have z4 := k4.size; have l1 := VBlk.lt v1; have l2 := VBlk.lt x2; have l3 := VBlk.lt d3; have v4 := VBlk.keep (VBlk.below (VBlk.below v1 b2 (VBlk.lt v1)) b3 (by omega)) k4 ⟨by omega, by omega⟩; have x4 := VBlk.keep (VBlk.below x2 b3 (VBlk.lt x2)) k4 ⟨by omega, by omega⟩; have b4 : Below w.heap.size w w4 := ((Keep.of_below (b1.trans ((b2.trans (b3.mono z2)).mono z1))).trans (k4.mono fun x (hx : x < w.heap.size) => ⟨by omega, by omega⟩)).below; refine K.kgo ?_; refine WL.build [.pointer (some ⟨cb, 0, none⟩), .pointer (some ⟨xb, 0, none⟩), .pointer sp, nos] rfl rfl rfl rfl rfl (by kernel_rfl) ?_; refine WL.box rfl rfl rfl rfl rfl fun pb w5 f5 => ?_; have p5 : VBlk prT w5 pb [.pointer (some ⟨cb, 0, none⟩), .pointer (some ⟨xb, 0, none⟩), .pointer sp, nos] := f5.blk; have e5 := f5.eq; refine K.kgo ?_; refine WL.nilP rfl rfl rfl rfl rfl rfl (by kernel_rfl) ?_; refine K.kgo ?_; exact WQ.ret2 rfl rfl rfl ⟨pb, cb, xb, sp, rfl, p5, VBlk.below v4 f5.below (VBlk.lt v4), VBlk.below x4 f5.below (VBlk.lt x4), by omega, by omega, by omega, b4.trans (f5.below.mono b4.size)⟩
theorem rqC_onesC {w : World} {f : Nat} {r : Rq} {nv pv : Value} (h1 : Sl .i64 w nv r.nums) (h2 : IsVs f w pv r.params) : Ones (rqC r nv pv) := by
  obtain ⟨a, b, rfl, -⟩ := h1; obtain ⟨c, d, rfl, -⟩ := h2; intro u hu; unfold rqC at hu; simp only [List.mem_cons, List.mem_map] at hu; rcases hu with rfl | rfl | rfl | rfl | rfl | ⟨x, -, rfl⟩ <;> rfl
theorem rd1 : (rdRq (rqB (rq1 1))).map (fun r => (r.kind, r.seq, r.hash.length)) = some (1, 1, 32) := by decide +kernel
theorem rq1_byt : Frm.Byt (rqB (rq1 1)) := by
  have : ((rqB (rq1 1)).all fun c => decide (0 ≤ c ∧ c ≤ 255)) = true := by decide +kernel
  exact fun c hc => of_decide_eq_true (List.all_eq_true.1 this c hc)
set_option maxHeartbeats 8000000 in
theorem known_any : Calls Tryz.prog 8 #[] w fun e w' => e = .returned (.bool true) ∧ Below w.heap.size w w' := by
  refine enter (args := []) Tryz.func8 rfl Tryz.ntmps8 rfl ?_; refine K.kgo ?_; refine WL.call rfl rfl rfl rfl rfl Tryz.func9 rfl (by kernel_rfl) (start_any (id := 1) (tries := 5) (by omega) (by omega) (by omega)) ?_; rintro _ w1 ⟨pb, cb, xb, sp, rfl, p1, v1, -, l1, l2, l3, b1⟩; refine ⟨_, rfl, ?_⟩; have c1 : w1.cell? ⟨pb, 0, none⟩ = some (.pointer (some ⟨cb, 0, none⟩)) := p1.cell 0 (by simp); have lp := VBlk.lt p1; refine K.kgl ?_; refine WL.nilP rfl rfl rfl rfl rfl rfl (by kernel_rfl) ?_; refine K.kgl ?_; refine WL.build [.string ⟨#[99, 114, 101, 97, 116, 101, 32, 116, 97, 98, 108, 101, 32, 116]⟩, nos] rfl rfl rfl rfl rfl (by kernel_rfl) ?_; refine WL.lit1 (cs := [.string ⟨#[99, 114, 101, 97, 116, 101, 32, 116, 97, 98, 108, 101, 32, 116]⟩, nos]) rfl rfl rfl rfl rfl rfl rfl rfl ⟨by omega, by omega⟩ (by kernel_rfl) fun g w2 f2 => ?_; have v2 := VBlk.below v1 f2.below (VBlk.lt v1); have p2 := VBlk.below p1 f2.below (VBlk.lt p1); have z2 := f2.size; have b2 := b1.trans (f2.below.mono b1.size); have z1 := b1.size; refine WL.call rfl rfl rfl rfl rfl Tryz.func10 rfl (by kernel_rfl) (do1 (s := ⟨#[99, 114, 101, 97, 116, 101, 32, 116, 97, 98, 108, 101, 32, 116]⟩) (by decide) v2 f2.blk) ?_; rintro _ w3 ⟨rfl, gj, cj, gl, cl, v3, oj, ol, k3⟩; refine ⟨_, rfl, ?_⟩; have p3 := VBlk.keep p2 k3 ⟨by omega, by omega⟩; clear f2 v2 p2 v1 p1 c1; have c3 : w3.cell? ⟨pb, 0, none⟩ = some (.pointer (some ⟨cb, 0, none⟩)) := p3.cell 0 (by simp); have z3 := k3.size; have hgj : w3.cell? ⟨gj, 0, none⟩ = some (.slice (some ⟨gl, 0, none⟩) 1 cl) := oj.at 0 (by simp); refine K.kgl ?_; refine WL.call rfl rfl rfl rfl rfl Tryz.func15 rfl (by kernel_rfl) (tick_new (m := 0) v3 rfl rfl rfl (show (0 : Nat) ≤ 9007199254740990 by omega) rfl hgj (OwnV.lt oj rfl) ⟨show (0 : Int) ≤ 1 by omega, show (1 : Int) ≤ 1000000 by omega⟩ (by omega)) ?_; rintro _ w4 ⟨v, jb, fb, rfl, -, -, -, -, ⟨gm, fm, rfl, g4, m4, f4, -⟩, k4, -⟩; refine ⟨_, rfl, ?_⟩; have k04 : Keep (fun x => x < w.heap.size) w w4 := ((Keep.of_below b2).trans (k3.mono fun x hx => ⟨by omega, by omega⟩)).trans (k4.mono fun x hx => ⟨by omega, by omega⟩); have f4 : Bu w4 fm (Frm.frameL (rqB (rq1 1))) := f4; obtain ⟨sf, cf, rfl, -, -⟩ := f4.form; have m40 : w4.cell? ⟨gm, 0, none⟩ = some (.int .i64 1) := m4.cell 0 (by simp); have m41 : w4.cell? ⟨gm, 1, none⟩ = some (.int .i64 0) := m4.cell 1 (by simp); have m42 : w4.cell? ⟨gm, 2, none⟩ = some (.slice sf (Frm.frameL (rqB (rq1 1))).length cf) := m4.cell 2 (by simp); refine K.kgo ?_; refine WL.idx 0 0 rfl rfl rfl rfl rfl rfl rfl rfl (by omega) rfl ?_; refine K.kgl ?_; refine WL.idx 0 0 rfl rfl rfl rfl rfl rfl rfl rfl (by omega) rfl ?_; refine K.kgl ?_; refine WL.idx 0 0 rfl rfl rfl rfl rfl rfl rfl rfl (by omega) rfl ?_; refine K.kgl ?_; obtain ⟨r, hr, hk, hq, hh⟩ : ∃ r, rdRq (rqB (rq1 1)) = some r ∧ r.kind = 1 ∧ r.seq = 1 ∧ r.hash.length = 32 := by
    have h := rd1; cases hx : rdRq (rqB (rq1 1)) with
    | none => rw [hx] at h; cases h
    | some r => rw [hx] at h; simp at h; exact ⟨r, rfl, h.1, h.2.1, h.2.2⟩
  refine WL.call rfl rfl rfl rfl rfl Tryz.func18 rfl (by kernel_rfl) (rdec_ok f4.sl rq1_byt (show (rqB (rq1 1)).length ≤ 524288 from by have := rq1_len 1; omega) hr) ?_; rintro _ w5 ⟨nv, pv, rfl, b5, hn5, hp5⟩; refine ⟨_, rfl, ?_⟩; refine K.kgo ?_; refine WL.alloc (z := .agg (rqC ⟨0, 0, [], ByteArray.mk #[], [], z32⟩ nos nos).toArray) rfl rfl rfl rfl (fun _ => by kernel_rfl) fun g8 w6 f6 => ?_; refine WL.storeRow rfl rfl rfl rfl rfl rfl f6.blk (rqC_len hh) rfl (rqC_onesC hn5 hp5) ?_; have q7 : VBlk 71 (w6.setRow g8 (rqC r nv pv).toArray) g8 (rqC r nv pv) := f6.blk.setRow _; have e6 := f6.eq; have b6 : Below w5.heap.size w5 (w6.setRow g8 (rqC r nv pv).toArray) := below_setRow f6.below (by omega) _; have z4 := k04.size; have b06 : Below w.heap.size w (w6.setRow g8 (rqC r nv pv).toArray) := ((k04.trans ((Keep.of_below b5).mono fun x (hx : x < w.heap.size) => by omega)).trans ((Keep.of_below b6).mono fun x (hx : x < w.heap.size) => by have := b5.size; omega)).below; generalize w6.setRow g8 _ = w7 at q7 b06 ⊢; have c70 : w7.cell? ⟨g8, 0, none⟩ = some (.int .i64 1) := by have := q7.cell 0 (by simp [rqC]); rw [this, ← hk]; rfl
  have c71 : w7.cell? ⟨g8, 1, none⟩ = some (.int .i64 1) := by have := q7.cell 1 (by simp [rqC]); rw [this, ← hq]; rfl
  refine K.kgl ?_; exact WQ.ret1 rfl rfl ⟨rfl, b06⟩
end Cl
end Go.Proofs.YtpfkcfaifleliaaGreat

namespace Go.Proofs.YtpfkcfaifleliaaGreat
open Go.RowKit
namespace Cl
open K
set_option maxRecDepth 100000
variable {w : World}
abbrev rp5T : Nat := 53
abbrev rq5T : Nat := 71
theorem own_range {e m : Nat} {O : Nat → Prop} {g n cap : Nat} {l : List Value} (h : OwnV e m w O (.slice (some ⟨g, 0, none⟩) n cap) n l) : w.rangeAt g 0 l := fun q u hu => by
  have hq : q < l.length := by
    rcases Nat.lt_or_ge q l.length with h | h
    · exact h
    · rw [List.getElem?_eq_none h] at hu; cases hu
  rw [Nat.zero_add, h.at q hq]; rw [List.getElem?_eq_getElem hq] at hu; simp [List.getD_eq_getElem?_getD, List.getElem?_eq_getElem hq, ← hu]
theorem yOf_E {p k : Nat} {err : Int} (hk : k ≤ 9007199254740992) (he : 0 ≤ err ∧ err ≤ 100) : rpE (yOf p err k) = 0 := by
  have h := yOf_ok (p := p) hk he; unfold rpE; rw [if_neg (by have := h.err; have := h.seq; have := h.nums; omega), if_neg (by have := h.rows; omega)]; unfold yOf
  split
  · rfl
  · split <;> rfl
theorem yOf_len {p k : Nat} {err : Int} : (yOf p err k).data.length ≤ 10000 := by
  unfold yOf
  split
  · simp
  · split <;> simp
theorem yOf_rows (p k : Nat) (err : Int) : (yOf p err k).rows = [] ∧ (yOf p err k).data = [] := by
  unfold yOf
  split
  · exact ⟨rfl, rfl⟩
  · split <;> exact ⟨rfl, rfl⟩
def At (T t p i : Nat) : Prop := 1 ≤ t ∧ t ≤ T ∧ ((p = 1 ∧ t = 1 ∧ i = 0) ∨ (p = 3 ∧ i = 3 * (t - 1) + 1) ∨ (p = 4 ∧ i = 3 * (t - 1) + 2) ∨ (p = 5 ∧ i = 3 * (t - 1) + 3))
theorem At.next {T t p i : Nat} (h : At T t p i) (hn : ¬ (p = 5 ∧ t = T)) : At T (tn t p) (pn p) (i + 1) := by
  unfold At tn pn at *; obtain ⟨h1, h2, h | h | h | h⟩ := h
  · obtain ⟨rfl, rfl, rfl⟩ := h; simp; omega
  · obtain ⟨rfl, rfl⟩ := h; simp; omega
  · obtain ⟨rfl, rfl⟩ := h; simp; omega
  · obtain ⟨rfl, rfl⟩ := h; simp; omega
def cmt (t p : Nat) : Int := if p = 5 then (t : Int) else (t : Int) - 1
theorem cmt_tn (t p : Nat) : cmt t p = ((tn t p : Nat) : Int) - 1 := by
  unfold cmt tn
  split <;> omega
set_option maxHeartbeats 32000000 in
theorem tries_law {T err : Int} : Calls Tryz.prog 4 #[.int .i64 T, .int .i64 err] w fun e w' => e = .returned (.bool true) ∧ Below w.heap.size w w' := by
  refine enter (args := [.int .i64 T, .int .i64 err]) Tryz.func4 rfl Tryz.ntmps4 rfl ?_
  by_cases t1 : T < 1
  · refine K.kgo ?_
    refine WL.call rfl rfl rfl rfl rfl Tryz.func8 rfl (by kernel_rfl) known_any ?_; rintro _ w6 ⟨rfl, b6⟩; refine ⟨_, rfl, ?_⟩; refine K.kgo ?_; exact WQ.ret1 rfl rfl ⟨rfl, b6⟩
  by_cases t2 : 20 < T
  · refine K.kgo ?_
    refine WL.call rfl rfl rfl rfl rfl Tryz.func8 rfl (by kernel_rfl) known_any ?_; rintro _ w6 ⟨rfl, b6⟩; refine ⟨_, rfl, ?_⟩; refine K.kgo ?_; exact WQ.ret1 rfl rfl ⟨rfl, b6⟩
  by_cases he : ¬ (err = 14 ∨ err = 16)
  · have he1 : ¬ err = 14 := fun h => he (.inl h)
    have he2 : ¬ err = 16 := fun h => he (.inr h); refine K.kgo ?_; refine WL.call rfl rfl rfl rfl rfl Tryz.func8 rfl (by kernel_rfl) known_any ?_; rintro _ w6 ⟨rfl, b6⟩; refine ⟨_, rfl, ?_⟩; refine K.kgo ?_; exact WQ.ret1 rfl rfl ⟨rfl, b6⟩
  have he : err = 14 ∨ err = 16 := Classical.not_not.1 he; obtain ⟨Tn, rfl⟩ : ∃ n : Nat, T = (n : Int) := ⟨T.toNat, by omega⟩; have her : 0 ≤ err ∧ err ≤ 100 := by omega
  refine K.kgo ?_; refine WL.mid (fun _ : Unit => [(0, .int .i64 (Tn : Int)), (1, .int .i64 err), (30, .bool false)]) (fun _ wz => w = wz) rfl ?_ ?_
  · rcases he with rfl | rfl
    · refine K.kgo ?_
      exact WQ.meet () ⟨rfl, rfl, rfl, trivial⟩ rfl
    · refine K.kgo ?_
      exact WQ.meet () ⟨rfl, rfl, rfl, trivial⟩ rfl
  rintro ⟨⟩ _ rfl; refine K.kgo ?_; refine WL.call rfl rfl rfl rfl rfl Tryz.func17 rfl (by kernel_rfl) (newC (id := 3) (tries := (Tn : Int)) (by omega) (by omega) (by omega)) ?_; rintro _ w1 ⟨cb, rfl, v1, e1, b1⟩; refine ⟨_, rfl, ?_⟩; refine K.kgo ?_; refine WL.nilP rfl rfl rfl rfl rfl rfl (by kernel_rfl) ?_; refine K.kgo ?_; refine WL.build [.string sel, nos] rfl rfl rfl rfl rfl (by kernel_rfl) ?_; refine WL.lit1 (cs := [.string sel, nos]) rfl rfl rfl rfl rfl rfl rfl rfl ⟨by omega, by omega⟩ (by kernel_rfl) fun g w2 f2 => ?_; have v2 := VBlk.below v1 f2.below (VBlk.lt v1); have z1 := b1.size; have z2 := f2.size; have b2 := b1.trans (f2.below.mono z1); refine WL.call rfl rfl rfl rfl rfl Tryz.func10 rfl (by kernel_rfl) (do1 (s := sel) (by decide) v2 f2.blk) ?_; rintro _ w3 ⟨rfl, gj, cj, gl, cl, v3, oj, ol, k3⟩; refine ⟨_, rfl, ?_⟩; have lcb1 := VBlk.lt v1; clear f2 v2 v1; have z3 := k3.size; have hgj : w3.cell? ⟨gj, 0, none⟩ = some (.slice (some ⟨gl, 0, none⟩) 1 cl) := oj.at 0 (by simp); have hgl := own_range ol; have lgl : gl < w3.heap.size := OwnV.lt ol rfl; have lgl2 : w2.heap.size ≤ gl := OwnV.own ol rfl; refine K.kgo ?_; refine WL.call rfl rfl rfl rfl rfl Tryz.func15 rfl (by kernel_rfl) (tick_new (m := 0) v3 rfl rfl rfl (show (0 : Nat) ≤ 9007199254740990 by omega) rfl hgj (OwnV.lt oj rfl) ⟨show (0 : Int) ≤ 1 by omega, show (1 : Int) ≤ 1000000 by omega⟩ (by omega)) ?_; rintro _ w4 ⟨v, jb, fb, rfl, v4, j4, fb4, -, m4, k4, ljb, -⟩; refine ⟨_, rfl, ?_⟩; have z4 := k4.size; have b4 : Below w.heap.size w w4 := (((Keep.of_below b2).trans (k3.mono fun x (hx : x < w.heap.size) => ⟨by omega, by omega⟩)).trans (k4.mono fun x (hx : x < w.heap.size) => ⟨by omega, by omega⟩)).below; have fb4 : Bu w4 fb (Frm.frameL (rqB (rqK 1 1 [] noT z32))) := fb4; have hL : 0 < (Frm.frameL (rqB (rqK 1 1 [] noT z32))).length := by rw [Frm.frameL_len]; omega
  obtain ⟨gf, cf, rfl, -, -⟩ := Bu.at fb4 hL; have J4 : ∃ c, VBlk clT w4 cb (clC c) ∧ Jst cb Tn 1 1 1 c w4 v := ⟨_, v4, _, jb, gl, cl, [], noT, z32, ⟨gf, 0, none⟩, _, cf, _, _, ⟨j4, rfl, by omega, by omega, rfl, rfl, rfl, rfl, rfl, rfl, rfl, fun e => absurd rfl e, rfl, z32_byt, rfl, rfl, rfl, ⟨show (-9223372036854775808 : Int) ≤ 0 by omega, show (0 : Int) ≤ 9223372036854775807 by omega⟩, rfl, fun q u hu => by
    rw [k4.cell (p := ⟨gl, 0 + q, none⟩) (by show gl < w3.heap.size ∧ gl ≠ cb; omega)]; exact hgl q u hu, fun e => by omega, rfl, Msg1.mono m4 (by omega), by simp, fun x hx => (by cases hx), by decide, rfl, z32_byt⟩⟩
  clear j4 fb4 m4 hgl hgj oj ol v3; refine K.kgo ?_; refine WC.loop (fun x : Nat × Nat × Nat × Value => [(0, .int .i64 (Tn : Int)), (1, .int .i64 err), (5, .pointer (some ⟨cb, 0, none⟩)), (7, .int .i64 ((x.1 : Int) - 1)), (9, x.2.2.2), (10, .int .i64 x.2.2.1)])
    (fun x wz => At Tn x.1 x.2.1 x.2.2.1 ∧ Below w.heap.size w wz ∧ ∃ c, VBlk clT wz cb (clC c) ∧ Jst cb Tn x.1 x.2.1 (x.2.2.1 + 1) c wz x.2.2.2) (fun x => 400 - x.2.2.1) (1, 1, 0, v) ⟨rfl, rfl, rfl, rfl, rfl, rfl, trivial⟩ ⟨⟨by omega, by omega, .inl ⟨rfl, rfl, rfl⟩⟩, b4, J4⟩ ?_
  clear J4 v4 b4 k4 k3 b2 b1; rintro ⟨t, p, i, v⟩ wz ⟨hat, bz, c, vc, hJ⟩; simp only at hat hJ ⊢; have hi : i ≤ 60 := by unfold At at hat; omega
  have ht : 1 ≤ t ∧ t ≤ Tn := ⟨hat.1, hat.2.1⟩; have hp : p = 1 ∨ p = 3 ∨ p = 4 ∨ p = 5 := by unfold At at hat; omega
  obtain ⟨j, jb, gl, cl, nums, text, hash, fp, fl, fc, jp, jc, s⟩ := id hJ; obtain ⟨gm, fm, rfl, -, mB, mBu, -⟩ := s.msg; obtain ⟨sf, cf, rfl, -, -⟩ := mBu.form; obtain ⟨tx, hrd⟩ := rqK_back (kind := (p : Int)) (seq := i + 1) (nums := nums) (text := text) (hash := hash) (by omega) (by omega) s.nl s.n64 s.tl s.hl; have hby := rqK_byt (kind := (p : Int)) (seq := i + 1) (nums := nums) (text := text) (hash := hash) (by omega) s.hb; have hln := rqK_len (kind := (p : Int)) (seq := i + 1) (nums := nums) (text := text) (hash := hash) s.nl s.tl s.hl; have hhl := s.hl; have lcb : w.heap.size ≤ cb := by omega
  clear s; have m0 : wz.cell? ⟨gm, 0, none⟩ = some (.int .i64 3) := mB.cell 0 (by simp); have m1 : wz.cell? ⟨gm, 1, none⟩ = some (.int .i64 0) := mB.cell 1 (by simp); have m2 : wz.cell? ⟨gm, 2, none⟩ = some (.slice sf (Frm.frameL (rqB (rqK p (i + 1) nums text hash))).length cf) := mB.cell 2 (by simp); have lgm := VBlk.lt mB; refine K.kgo ?_; refine WL.idx 0 0 rfl rfl rfl rfl rfl rfl rfl rfl (by omega) rfl ?_; refine K.kgl ?_; refine WL.call rfl rfl rfl rfl rfl Tryz.func18 rfl (by kernel_rfl) (rdec_ok mBu.sl hby (by omega) hrd) ?_; rintro _ w5 ⟨nv, pv, rfl, b5, hn5, hp5⟩; refine ⟨_, rfl, ?_⟩; refine K.kgo ?_; refine WL.alloc (z := .agg (rqC ⟨0, 0, [], ByteArray.mk #[], [], z32⟩ nos nos).toArray) rfl rfl rfl rfl (fun _ => by kernel_rfl) fun g8 w6 f6 => ?_; refine WL.storeRow rfl rfl rfl rfl rfl rfl f6.blk (rqC_len (r := rqK p (i + 1) nums tx hash) hhl) rfl (rqC_onesC hn5 hp5) ?_; have q7 : VBlk rq5T (w6.setRow g8 (rqC (rqK p (i + 1) nums tx hash) nv pv).toArray) g8 (rqC (rqK p (i + 1) nums tx hash) nv pv) := f6.blk.setRow _; have e6 := f6.eq; have b6 : Below w5.heap.size w5 (w6.setRow g8 (rqC (rqK p (i + 1) nums tx hash) nv pv).toArray) := below_setRow f6.below (by omega) _; have bz7 : Below wz.heap.size wz (w6.setRow g8 (rqC (rqK p (i + 1) nums tx hash) nv pv).toArray) := b5.trans (b6.mono b5.size); generalize w6.setRow g8 _ = w7 at q7 bz7 ⊢; clear f6 b6 b5 hn5 hp5 m2; have n0 : w7.cell? ⟨gm, 0, none⟩ = some (.int .i64 3) := (bz7.cell (p := ⟨gm, 0, none⟩) lgm).trans m0; have n1 : w7.cell? ⟨gm, 1, none⟩ = some (.int .i64 0) := (bz7.cell (p := ⟨gm, 1, none⟩) lgm).trans m1; have c70 : w7.cell? ⟨g8, 0, none⟩ = some (.int .i64 (p : Int)) := q7.cell 0 (by simp [rqC]); have c71 : w7.cell? ⟨g8, 1, none⟩ = some (.int .i64 ((i + 1 : Nat) : Int)) := q7.cell 1 (by simp [rqC]); refine K.kgo ?_; refine WL.idx 0 0 rfl rfl rfl rfl rfl rfl rfl rfl (by omega) rfl ?_; refine K.kgl ?_; refine WL.idx 0 0 rfl rfl rfl rfl rfl rfl rfl rfl (by omega) rfl ?_; refine K.kgl ?_; refine WL.litV [.int .i64 9] rfl rfl rfl rfl rfl rfl (by kernel_rfl) fun g9 w9 f9 => ?_; have i9 : VBlk 3 w9 g9 ([9].map (Value.int .i64)) := f9.blk; have q9 := VBlk.below q7 f9.below (VBlk.lt q7); have z7 := bz7.size; have z9 := f9.size; have bz9 := bz7.trans (f9.below.mono z7); have e9 := f9.eq; clear f9 n0 n1 c70 c71 m0 m1; refine K.kgo ?_; refine WL.build (rpC ⟨((i + 1 : Nat) : Int), 0, [9], [], []⟩ (.slice (some ⟨g9, 0, none⟩) 1 1) nos nos) rfl rfl rfl rfl rfl (by kernel_rfl) ?_; refine WL.alloc (z := .agg #[.int .i64 0, .int .i64 0, nos, nos, nos]) rfl rfl rfl rfl (fun _ => by kernel_rfl) fun gy wA fA => ?_; refine WL.storeRow rfl rfl rfl rfl rfl rfl fA.blk rfl rfl (fun u hu => by
    unfold rpC at hu; simp only [List.mem_cons, List.not_mem_nil, or_false] at hu; rcases hu with rfl | rfl | rfl | rfl | rfl <;> rfl) ?_
  have yB : VBlk rp5T (wA.setRow gy (rpC ⟨((i + 1 : Nat) : Int), 0, [9], [], []⟩ (.slice (some ⟨g9, 0, none⟩) 1 1) nos nos).toArray) gy (rpC ⟨((i + 1 : Nat) : Int), 0, [9], [], []⟩ (.slice (some ⟨g9, 0, none⟩) 1 1) nos nos) := fA.blk.setRow _; have eA := fA.eq; have bA : Below w9.heap.size w9 (wA.setRow gy (rpC ⟨((i + 1 : Nat) : Int), 0, [9], [], []⟩ (.slice (some ⟨g9, 0, none⟩) 1 1) nos nos).toArray) := below_setRow fA.below (by omega) _; have qB := VBlk.below q9 bA (VBlk.lt q9); have iB := VBlk.below i9 bA (VBlk.lt i9); have bzB := bz9.trans (bA.mono bz9.size); have zz9 := bz9.size; generalize hwB : wA.setRow gy _ = wB; have hwB' : wA.setRow gy (rpC ⟨((i + 1 : Nat) : Int), 0, [9], [], []⟩ (.slice (some ⟨g9, 0, none⟩) 1 1) nos nos).toArray = wB := hwB; rw [hwB'] at yB qB iB bzB; clear hwB hwB' fA bA q9 q7 i9; have c70 : wB.cell? ⟨g8, 0, none⟩ = some (.int .i64 (p : Int)) := qB.cell 0 (by simp [rqC]); have c71 : wB.cell? ⟨g8, 1, none⟩ = some (.int .i64 ((i + 1 : Nat) : Int)) := qB.cell 1 (by simp [rqC]); refine K.kgb ?_; refine WC.mid (fun nx : Value => [(0, .int .i64 (Tn : Int)), (1, .int .i64 err), (5, .pointer (some ⟨cb, 0, none⟩)), (7, .int .i64 (cmt t p)), (10, .int .i64 i), (13, .pointer (some ⟨gy, 0, none⟩))])
    (fun nx wy => VBlk rp5T wy gy (rpC (yOf p err (i + 1)) nx nos nos) ∧ Sl .i64 wy nx (yOf p err (i + 1)).nums ∧ Below wz.heap.size wz wy) rfl ?_ ?_
  · rcases hp with rfl | rfl | rfl | rfl
    · refine K.kgo ?_
      exact WQ.meet (.slice (some ⟨g9, 0, none⟩) 1 1) ⟨rfl, rfl, rfl, rfl, rfl, rfl, trivial⟩ ⟨yB, cell_ints iB (by simp), bzB⟩
    · refine K.kgo ?_
      exact WQ.meet (.slice (some ⟨g9, 0, none⟩) 1 1) ⟨rfl, rfl, rfl, rfl, rfl, rfl, trivial⟩ ⟨yB, cell_ints iB (by simp), bzB⟩
    · refine K.kgo ?_
      refine WL.store (v := nos) rfl rfl rfl rfl rfl rfl (by kernel_rfl) (VBlk.cell yB 2 (by simp [rpC])) (VBlk.free yB 2) ?_; have yC : VBlk rp5T (wB.setCell ⟨gy, 2, none⟩ nos) gy (rpC (yOf 4 err (i + 1)) nos nos nos) := VBlk.set yB 2 nos; have bC : Below wz.heap.size wz (wB.setCell ⟨gy, 2, none⟩ nos) := ((Keep.of_below bzB).setCell (fun hx => by have : gy < wz.heap.size := hx; omega) _).below; refine K.kgo ?_; exact WQ.meet nos ⟨rfl, rfl, rfl, rfl, rfl, rfl, trivial⟩ ⟨yC, Sl.nil _ _, bC⟩
    · refine K.kgl ?_
      refine WL.build (rpC ⟨((i + 1 : Nat) : Int), err, [], [], []⟩ nos nos nos) rfl rfl rfl rfl rfl (by kernel_rfl) ?_; refine WL.storeRow rfl rfl rfl rfl rfl rfl yB rfl rfl (fun u hu => by
        unfold rpC at hu; simp only [List.mem_cons, List.not_mem_nil, or_false] at hu; rcases hu with rfl | rfl | rfl | rfl | rfl <;> rfl) ?_
      have yC : VBlk rp5T (wB.setRow gy (rpC ⟨((i + 1 : Nat) : Int), err, [], [], []⟩ nos nos nos).toArray) gy (rpC (yOf 5 err (i + 1)) nos nos nos) := yB.setRow _; have bC : Below wz.heap.size wz (wB.setRow gy (rpC ⟨((i + 1 : Nat) : Int), err, [], [], []⟩ nos nos nos).toArray) := below_setRow bzB (by omega) _; refine K.kgo ?_; exact WQ.meet nos ⟨rfl, rfl, rfl, congrArg (fun z => some (Value.int .i64 z)) (show (t : Int) - 1 + 1 = cmt t 5 by show _ = (t : Int); omega), rfl, rfl, trivial⟩ ⟨yC, Sl.nil _ _, bC⟩
  clear yB qB iB bzB c70 c71 bz9 bz7; rintro nx wy ⟨yC, sC, bzC⟩; have hyo := yOf_ok (p := p) (k := i + 1) (err := err) (by omega) her; refine K.kgo ?_; refine WL.loadMid rfl rfl rfl rfl rfl rfl (VBlk.rangeAt yC) rfl ?_; refine WL.call rfl rfl rfl rfl rfl Tryz.func13 rfl (by kernel_rfl) (rrpenc_any (f := 17) (n := 0) (r := yOf p err (i + 1)) ⟨sC, hyo.r64, by rw [(yOf_rows p (i + 1) err).1]; exact isVs_none _ _, by rw [(yOf_rows p (i + 1) err).2]; exact Sl.nil _ _, hyo.dbyt⟩ (by rw [(yOf_rows p (i + 1) err).1]; exact few0) yOf_len) ?_; rintro _ wN ⟨b, rfl, ⟨bN, -⟩, hbu⟩; rw [if_pos (yOf_E (by omega) her)] at hbu; rw [yOf_E (by omega) her]; refine ⟨_, rfl, ?_⟩; obtain ⟨sq, cq, rfl, -, -⟩ := hbu.form; have bzN := bzC.trans (bN.mono bzC.size); have zN := bzN.size; have vN := VBlk.below vc bzN (VBlk.lt vc); have JN := hJ.keep ((Keep.of_below bzN).mono fun x hx => hx.1); have b0N := bz.trans (bzN.mono bz.size); clear yC sC bzC bN hJ vc bzN; refine K.kgo ?_; refine WL.build [.int .i64 0, .int .i64 3, .slice sq (Frm.frameL (rpB (yOf p err (i + 1)))).length cq] rfl rfl rfl rfl rfl (by kernel_rfl) ?_; refine K.kgo ?_; refine WL.call rfl rfl rfl rfl rfl Tryz.func14 rfl (by kernel_rfl) (hear_step vN JN hp ht.2 (by omega) (by omega) he rfl hbu.sl) ?_; rintro _ wF ⟨kF, hc⟩; have bF : Below w.heap.size w wF := ((Keep.of_below b0N).trans (kF.mono fun x (hx : x < w.heap.size) => by omega)).below; rcases hc with ⟨hnot, v', c', rfl, v2, J2⟩ | ⟨rfl, rfl, c', gR, cR, jp2, jc2, rfl, v2, hn2, hj2, hR⟩
  · refine ⟨_, rfl, ?_⟩
    refine K.kgo ?_; exact WQ.again (tn t p, pn p, i + 1, v') ⟨rfl, rfl, rfl, congrArg (fun z => some (Value.int .i64 z)) (cmt_tn t p), rfl, rfl, trivial⟩ ⟨hat.next hnot, bF, c', v2, J2⟩ (by show 400 - (i + 1) < 400 - i; omega)
  · refine ⟨_, rfl, ?_⟩
    have hR1 : wF.cell? ⟨gR, 1, none⟩ = some (.int .i64 err) := hR 1 _ rfl; have hR3 : wF.cell? ⟨gR, 3, none⟩ = some (.int .i64 (-1)) := hR 3 _ rfl; rw [show cmt t 5 = (t : Int) from rfl]; refine K.kgo ?_; refine WL.idx 0 0 rfl rfl rfl rfl rfl rfl rfl rfl (by omega) rfl ?_; refine K.kgl ?_; refine WL.idx 0 0 rfl rfl rfl rfl rfl rfl rfl rfl (by omega) rfl ?_; refine K.kgl ?_; refine WL.call rfl rfl rfl rfl rfl Tryz.func16 rfl (by kernel_rfl) (left0 v2 hn2 hj2) ?_; rintro _ _ ⟨rfl, rfl⟩; refine ⟨_, rfl, ?_⟩; refine K.kgo ?_; refine WL.call rfl rfl rfl rfl rfl Tryz.func8 rfl (by kernel_rfl) known_any ?_; rintro _ wG ⟨rfl, bG⟩; refine ⟨_, rfl, ?_⟩; refine K.kgo ?_; exact WQ.ret1 rfl rfl ⟨rfl, bF.trans (bG.mono bF.size)⟩
end Cl
end Go.Proofs.YtpfkcfaifleliaaGreat

namespace Go.Proofs.YtpfkcfaifleliaaGreat
open Go.ChangeShapes Go.WideShapes Go.ChangeAt Go.RowKit
namespace K

section
variable {H : Type} {P : Program}
end

section
variable {H : Type} {enc : TypeId × Value → H} {W : World} {base : Nat} {held : Bool}
set_option maxRecDepth 100000
end
end K
end Go.Proofs.YtpfkcfaifleliaaGreat

namespace Go.Proofs.YtpfkcfaifleliaaGreat
open Go.ChangeShapes Go.WideShapes Go.ChangeAt Go.RowKit
namespace Vw
open K
set_option maxRecDepth 100000
section
variable {H : Type} {enc : TypeId × Value → H} {W : World} {base : Nat} {held : Bool}
end
end Vw
end Go.Proofs.YtpfkcfaifleliaaGreat

namespace Go.Proofs.YtpfkcfaifleliaaGreat
open Go.ChangeShapes Go.WideShapes Go.ChangeAt Go.RowKit
namespace Cl
open K
set_option maxRecDepth 100000
section
variable {H : Type} {enc : TypeId × Value → H} {W : World} {base : Nat} {held : Bool}
end
end Cl
end Go.Proofs.YtpfkcfaifleliaaGreat

namespace Go.Proofs.YtpfkcfaifleliaaGreat.clientTries
open Go.ChangeShapes Go.WideShapes Go.ChangeAt Go.RowKit
open Go.ChangeMaps (open_string shut_string)
open Go.Proofs.YtpfkcfaifleliaaGreat

set_option maxRecDepth 100000 in
theorem lifted (os : Os) (started : os.Started) (H : Type) (enc : TypeId × Value → H) :
    ReturnsInHanded {} Tryz.checked os 4 .any (Rows.clientTriesSpec.pre6 enc Tryz.prog Tryz.f4 Rows.clientTriesRow.domain false) (Rows.clientTriesSpec.post enc Tryz.prog Tryz.f4 false true false false) := by
  refine returnsInHanded_of_change_sized (C := Tryz.checked) Tryz.ownKnob started (by kernel_rfl) Tryz.func4
    (ChangeSpec.witness6 (enc := enc) (C := Tryz.checked) false ⟨#[], #[.int .i64 0, .int .i64 0], []⟩ 8 (by kernel_rfl) (by kernel_rfl) (by kernel_rfl) (by kernel_rfl)) ?_
  intro W base args ds gs before hval0 hW hcnd hsz _; have hval : ∀ (j : Nat) t v, Tryz.f4.params[j]? = some t → args[j]? = some v → Value.okWide Tryz.prog W .any base t v := hval0; have hW' := hW; obtain ⟨p, q, hA0, hV, rfl, hfz, hnd⟩ := hW; have hA : DataW.TrodAll enc Tryz.prog W 0 (fun _ => true) true Tryz.f4.params.toList args.toList ds p := hA0; rw [Tryz.params4] at hA hval; obtain ⟨v0, vs0, d0, ds0, p0, q0, hargs, rfl, rfl, h0, r0⟩ := trodAll_cons hA; obtain ⟨v1, vs1, d1, ds1, p1, q1, rfl, rfl, rfl, h1, r1⟩ := trodAll_cons r0; obtain ⟨rfl, rfl, rfl⟩ := trodAll_nil r1; obtain rfl : args = #[v0, v1] := by cases args; simp_all
  obtain ⟨rfl, rfl⟩ := trodVars_none hV; have k0 := h0; have lt0 : ∀ x ∈ p0, x.block < W.heap.size := by obtain ⟨m, hm⟩ := k0; exact DataW.trod_lt m _ _ _ hm
  obtain ⟨x0, rfl, -, -, wx0⟩ := open_int Tryz.underlying3 (hval 0 3 v0 rfl rfl) h0; have k1 := h1; have lt1 : ∀ x ∈ p1, x.block < W.heap.size := by obtain ⟨m, hm⟩ := k1; exact DataW.trod_lt m _ _ _ hm
  obtain ⟨x1, rfl, -, -, wx1⟩ := open_int Tryz.underlying3 (hval 1 3 v1 rfl rfl) h1; clear hA0 hval0; refine (Cl.tries_law).mono fun e W' ⟨he, bel⟩ => ?_; subst he; exact ⟨_, rfl, _, _, _, [], _, [], hW', trodAll_mk1 (shut_bool Tryz.underlying4 _), (trodAll_cons_mk (Below.trod Tryz.laid (by kernel_rfl) (of_decide_eq_true (by kernel_rfl)) k0 bel lt0) (trodAll_cons_mk (Below.trod Tryz.laid (by kernel_rfl) (of_decide_eq_true (by kernel_rfl)) k1 bel lt1) trodAll_mk0)), rfl, bel.frame _, fun h => by cases h⟩

theorem over : Rows.clientTriesRow.holds Tryz.pinned (OpenSpec.ofChange Rows.clientTriesSpec) :=
  OpenClaim.holds_of_wide 4 Tryz.f4 rfl rfl rfl rfl rfl rfl rfl ⟨rfl, rfl, rfl, rfl, rfl⟩ rfl rfl rfl rfl rfl (by kernel_rfl) Tryz.func4 (by kernel_rfl)
    (of_decide_eq_true (by kernel_rfl)) (by unfold Func.isWrapper; first | (rw [if_pos (by decide +kernel)]; kernel_rfl) | (rw [if_neg (by decide +kernel)]; exact ⟨rfl, rfl⟩))
    (fun os started H enc _ => lifted os started H enc)

theorem proved : Rows.ClientTriesSaid := over
end Go.Proofs.YtpfkcfaifleliaaGreat.clientTries
