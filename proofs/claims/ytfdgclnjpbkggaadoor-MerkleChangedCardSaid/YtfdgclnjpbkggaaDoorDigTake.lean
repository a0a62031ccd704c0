/- digest: the program's function that takes a block in. -/
import Derived.Test.YtfdgclnjpbkggaaDoorDigWord
namespace Go.Proofs.YtfdgclnjpbkggaaDoor
open Go.RowKit
namespace Dig

/-- The word at byte j. -/
def wordAt (by_ : List Int) (j : Nat) : Int := word (nth by_ j) (nth by_ (j + 1)) (nth by_ (j + 2)) (nth by_ (j + 3))
/-- The first n words of a block laid into sixty-four cells. -/
def load (by_ : List Int) : Nat → List Int
  | 0 => List.replicate 64 0
  | n + 1 => (load by_ n).set n (wordAt by_ (4 * n))
theorem load_length (by_ : List Int) (n : Nat) : (load by_ n).length = 64 := by
  induction n with
  | zero => rfl
  | succ n ih => rw [load, List.length_set, ih]

def sig0 (x : Int) : Int := bits .xor .u32 (bits .xor .u32 (rotr x 7) (rotr x 18)) (x / 8)
def sig1 (x : Int) : Int := bits .xor .u32 (bits .xor .u32 (rotr x 17) (rotr x 19)) (x / 1024)
/-- The further words: n of them behind the sixteen. -/
def sched (l : List Int) : Nat → List Int
  | 0 => l
  | n + 1 => (sched l n).set (16 + n) ((nth (sched l n) n + sig0 (nth (sched l n) (n + 1)) + nth (sched l n) (n + 9) + sig1 (nth (sched l n) (n + 14))) % 4294967296)
theorem sched_length (l : List Int) (n : Nat) : (sched l n).length = l.length := by
  induction n with
  | zero => rfl
  | succ n ih => rw [sched, List.length_set, ih]

theorem eight (l : List Int) (h : l.length = 8) : l = [nth l 0, nth l 1, nth l 2, nth l 3, nth l 4, nth l 5, nth l 6, nth l 7] := by
  match l, h with
  | [a, b, c, d, e, f, g, i], _ => rfl
theorem mk8 (w : World) (l : List Int) (h : l.length = 8) :
    IBlk .u32 79 (w.alloc (.cells #[.int .u32 (nth l 0), .int .u32 (nth l 1), .int .u32 (nth l 2), .int .u32 (nth l 3), .int .u32 (nth l 4), .int .u32 (nth l 5), .int .u32 (nth l 6), .int .u32 (nth l 7)] 79)) w.heap.size l := by
  have := VBlk.mk w (l.map (Value.int .u32)) 79
  match l, h with
  | [a, b, c, d, e, f, g, i], _ => exact this
/-- The round's two sums, and the eight words behind it. -/
def rt (kk W v : List Int) (i : Nat) : Int :=
  nth v 7 + bits .xor .u32 (bits .xor .u32 (rotr (nth v 4) 6) (rotr (nth v 4) 11)) (rotr (nth v 4) 25) +
    bits .xor .u32 (bits .and .u32 (nth v 4) (nth v 5)) (bits .and .u32 (bits .xor .u32 IntKind.u32.max (nth v 4)) (nth v 6)) + nth kk i + nth W i
def ru (v : List Int) : Int :=
  bits .xor .u32 (bits .xor .u32 (rotr (nth v 0) 2) (rotr (nth v 0) 13)) (rotr (nth v 0) 22) +
    bits .xor .u32 (bits .xor .u32 (bits .and .u32 (nth v 0) (nth v 1)) (bits .and .u32 (nth v 0) (nth v 2))) (bits .and .u32 (nth v 1) (nth v 2))
def rnd (kk W v : List Int) (i : Nat) : List Int :=
  [(rt kk W v i + ru v) % 4294967296, nth v 0, nth v 1, nth v 2, (nth v 3 + rt kk W v i) % 4294967296, nth v 4, nth v 5, nth v 6]
def rounds (kk W v : List Int) : Nat → List Int
  | 0 => v
  | n + 1 => rnd kk W (rounds kk W v n) n
theorem rounds_length (kk W v : List Int) (n : Nat) (h : v.length = 8) : (rounds kk W v n).length = 8 := by
  cases n with
  | zero => exact h
  | succ n => rfl
theorem set8 {k : IntKind} {T : TypeId} {w : World} {b : Nat} {l : List Int} (h : IBlk k T w b l) (hl : l.length = 8) (x0 x1 x2 x3 x4 x5 x6 x7 : Int) :
    IBlk k T ((((((((w.setCell ⟨b, 0, none⟩ (.int k x0)).setCell ⟨b, 1, none⟩ (.int k x1)).setCell ⟨b, 2, none⟩ (.int k x2)).setCell ⟨b, 3, none⟩ (.int k x3)).setCell ⟨b, 4, none⟩ (.int k x4)).setCell ⟨b, 5, none⟩ (.int k x5)).setCell ⟨b, 6, none⟩ (.int k x6)).setCell ⟨b, 7, none⟩ (.int k x7)) b [x0, x1, x2, x3, x4, x5, x6, x7] := by
  have := (((((((h.set 0 x0).set 1 x1).set 2 x2).set 3 x3).set 4 x4).set 5 x5).set 6 x6).set 7 x7
  match l, hl with
  | [a, b, c, d, e, f, g, i], _ => exact this
theorem oth8 {K : Nat → Prop} {w w' : World} {b : Nat} (h : Keep K w w') (hK : ¬ K b) (x0 x1 x2 x3 x4 x5 x6 x7 : Value) :
    Keep K w ((((((((w'.setCell ⟨b, 0, none⟩ x0).setCell ⟨b, 1, none⟩ x1).setCell ⟨b, 2, none⟩ x2).setCell ⟨b, 3, none⟩ x3).setCell ⟨b, 4, none⟩ x4).setCell ⟨b, 5, none⟩ x5).setCell ⟨b, 6, none⟩ x6).setCell ⟨b, 7, none⟩ x7) :=
  (((((((h.setCell hK x0).setCell hK x1).setCell hK x2).setCell hK x3).setCell hK x4).setCell hK x5).setCell hK x6).setCell hK x7
/-- The words of the state, each with one added. -/
def addInto (st v : List Int) : Nat → List Int
  | 0 => st
  | n + 1 => (addInto st v n).set n ((nth (addInto st v n) n + nth v n) % 4294967296)
theorem addInto_length (st v : List Int) (n : Nat) : (addInto st v n).length = st.length := by
  induction n with
  | zero => rfl
  | succ n ih => rw [addInto, List.length_set, ih]
/-- What taking a block in makes of the eight words. -/
def compress (kk by_ st : List Int) : List Int := addInto st (rounds kk (sched (load by_ 16) 48) st 64) 8

set_option maxRecDepth 100000 in
set_option maxHeartbeats 1000000 in
theorem take_any (bs bb ob n cap bk : Nat) (st by_ kk : List Int) (T T' : TypeId) (w : World) (hn : 64 ≤ n) (hn2 : n ≤ 9223372036854775807) (hcap : n ≤ cap)
    (hbb : bb < w.heap.size) 
    (hst : IBlk .u32 T w bs st) (hby : Row .u8 w bb ob by_) (hkk : IBlk .u32 T' w bk kk) (hl1 : st.length = 8) (hl2 : 64 ≤ by_.length) (hl3 : kk.length = 64) :
    Calls Tryd.prog 41 #[.pointer (some ⟨bs, 0, none⟩), .slice (some ⟨bb, ob, none⟩) n cap, .pointer (some ⟨bk, 0, none⟩)] w
      fun e w' => e = .returned (.tuple #[]) ∧ IBlk .u32 T w' bs (compress kk by_ st) ∧ Keep (fun k => k < w.heap.size ∧ k ≠ bs) w w' := by
  have hbs := hst.lt
  have hbk := hkk.lt
  go_enter Tryd.func41, Tryd.ntmps41
  go_wp2
  have hW : IBlk .u32 80 (w.alloc (.cells ((List.replicate 64 (0:Int)).map (Value.int .u32)).toArray 80)) w.heap.size (load by_ 0) := VBlk.mk w _ _
  have hB : Below w.heap.size w (w.alloc (.cells ((List.replicate 64 (0:Int)).map (Value.int .u32)).toArray 80)) := (Below.refl _ _).alloc (Nat.le_refl _) _
  simp only [List.replicate, List.map] at hW hB
  generalize w.alloc _ = w1 at hW hB ⊢
  go_loopw [20] (fun c wr => ∃ i : Nat, i ≤ 16 ∧ c = .int .i64 i ∧ IBlk .u32 80 wr w.heap.size (load by_ i) ∧ Below w.heap.size w wr)
    (fun c _ => 16 - (intOf c).toNat)
  case atStart => exact ⟨0, by omega, rfl, hW, hB⟩
  case round =>
    obtain ⟨i, hi, rfl, hWr, hBr⟩ := hrel
    have hlw := load_length by_ i
    by_cases h16 : i < 16
    · have hbyr := hby.below hBr hbb
      have c0 := hWr.cell i (by omega)
      have f0 := hWr.free i
      go_wp2_with (go_at_call 48; refine (word_any bb (ob + 4 * i) _ _ _ _ _ _ _ (by omega) (hbyr.at (4 * i) (by omega)) (hbyr.at' (4 * i + 1) _ (by omega) (by omega)) (hbyr.at' (4 * i + 2) _ (by omega) (by omega)) (hbyr.at' (4 * i + 3) _ (by omega) (by omega))).mono ?_; rintro e w' ⟨rfl, nq, rfl⟩)
      go_roundw
      case rel => exact ⟨i + 1, by omega, by go_num, (hWr.drewN nq).set _ _, (hBr.trans (Keep.below ((Keep.refl _ _).drewN nq))).setCell (Nat.le_refl _) _⟩
      case measure => simp [intOf]; omega
    · have e16 : i = 16 := by omega
      have hWf : IBlk .u32 80 wr w.heap.size (load by_ 16) := by rw [← e16]; exact hWr
      clear e16 hWr
      go_wp2
      go_loopw [8] (fun c wr => ∃ i : Nat, i ≤ 48 ∧ c = .int .i64 (16 + (i : Int)) ∧ IBlk .u32 80 wr w.heap.size (sched (load by_ 16) i) ∧ Below w.heap.size w wr)
        (fun c _ => 64 - (intOf c).toNat)
      case atStart => exact ⟨0, by omega, rfl, hWf, hBr⟩
      case round =>
        clear hWf hBr hlw
        obtain ⟨i, hi2, rfl, hWr, hBr⟩ := hrel
        have hlw := (sched_length (load by_ 16) i).trans (load_length by_ 16)
        by_cases h48 : i < 48
        · have c0 := hWr.cell (16 + i) (by omega)
          have c1 := hWr.cell' (16 + i - 15) (i + 1) (by omega) (by omega)
          have c2 := hWr.cell' (16 + i - 2) (i + 14) (by omega) (by omega)
          have c3 := hWr.cell i (by omega)
          have c4 := hWr.cell' (16 + i - 7) (i + 9) (by omega) (by omega)
          have f0 := hWr.free (16 + i)
          go_wp2_with fail
          go_quiet (fail)
          go_wp2_with (go_at_call 49; refine (turn_any _ _ _ (by omega) (by omega)).mono ?_; rintro e w' ⟨rfl, rfl⟩)
          go_region
          go_wp2
          go_roundw
          case rel =>
            exact ⟨i + 1, by omega, by go_num, (hWr.drewN _).set _ _, ((Keep.of_below hBr).drewN _).below.setCell (Nat.le_refl _) _⟩
          case measure => simp [intOf]; omega
        · have e48 : i = 48 := by omega
          have hWf : IBlk .u32 80 wr w.heap.size (sched (load by_ 16) 48) := by rw [← e48]; exact hWr
          clear e48 hWr hlw
          have hstr : IBlk .u32 T wr bs st := hst.below hBr hbs
          have hkkr : IBlk .u32 T' wr bk kk := hkk.below hBr hbk
          have d0 := hstr.cell 0 (by omega)
          have d1 := hstr.cell 1 (by omega)
          have d2 := hstr.cell 2 (by omega)
          have d3 := hstr.cell 3 (by omega)
          have d4 := hstr.cell 4 (by omega)
          have d5 := hstr.cell 5 (by omega)
          have d6 := hstr.cell 6 (by omega)
          have d7 := hstr.cell 7 (by omega)
          go_wp2
          have hV := mk8 wr st hl1
          have hBz : w.heap.size < wr.heap.size := hWf.lt
          have hB2 : Below w.heap.size w _ := hBr.alloc (Nat.le_of_lt hBz) (.cells #[.int .u32 (nth st 0), .int .u32 (nth st 1), .int .u32 (nth st 2), .int .u32 (nth st 3), .int .u32 (nth st 4), .int .u32 (nth st 5), .int .u32 (nth st 6), .int .u32 (nth st 7)] 79)
          have hW2 := hWf.alloc (.cells #[.int .u32 (nth st 0), .int .u32 (nth st 1), .int .u32 (nth st 2), .int .u32 (nth st 3), .int .u32 (nth st 4), .int .u32 (nth st 5), .int .u32 (nth st 6), .int .u32 (nth st 7)] 79)
          generalize wr.alloc _ = w2 at hV hB2 hW2 ⊢
          clear d0 d1 d2 d3 d4 d5 d6 d7 hWf hBr hstr hkkr
          generalize wr.heap.size = Bv at hV hBz ⊢
          have hlW : (sched (load by_ 16) 48).length = 64 := (sched_length (load by_ 16) 48).trans (load_length by_ 16)
          obtain ⟨W, hWW⟩ : ∃ W, W = sched (load by_ 16) 48 := ⟨_, rfl⟩
          rw [← hWW] at hW2 hlW
          have HW := Lib.hid hWW
          clear hWW
          go_loopw [77] (fun c wr => ∃ i : Nat, i ≤ 64 ∧ c = .int .i64 i ∧ IBlk .u32 80 wr w.heap.size W ∧ IBlk .u32 79 wr Bv (rounds kk W st i) ∧ Below w.heap.size w wr)
            (fun c _ => 64 - (intOf c).toNat)
          case atStart => exact ⟨0, by omega, rfl, hW2, hV, hB2⟩
          case round =>
            clear hW2 hV hB2
            obtain ⟨r, hr, rfl, hWr, hVr, hBr⟩ := hrel
            have hlv := rounds_length kk W st r hl1
            obtain ⟨v, hvv⟩ : ∃ v, v = rounds kk W st r := ⟨_, rfl⟩
            rw [← hvv] at hVr hlv
            have Hv := Lib.hid hvv
            clear hvv
            by_cases hr64 : r < 64
            · have hkkr : IBlk .u32 T' wr bk kk := hkk.below hBr hbk
              have d0 := hVr.cell 0 (by omega)
              have d1 := hVr.cell 1 (by omega)
              have d2 := hVr.cell 2 (by omega)
              have d3 := hVr.cell 3 (by omega)
              have d4 := hVr.cell 4 (by omega)
              have d5 := hVr.cell 5 (by omega)
              have d6 := hVr.cell 6 (by omega)
              have d7 := hVr.cell 7 (by omega)
              have f0 := hVr.free
              have k0 := hkkr.cell r (by omega)
              have w0 := hWr.cell r (by omega)
              go_wp2_with fail
              go_quiet (fail)
              go_wp2_with fail
              go_quiet ((go_at_call 49; exact quiet_add_left (turn_any _ _ _ (by omega) (by omega))))
              go_wp2_with fail
              go_quiet ((go_at_call 49; exact quiet_add_left (turn_any _ _ _ (by omega) (by omega))))
              go_wp2
              go_roundw
              case rel =>
                refine ⟨r + 1, by omega, by go_num, hWr.keep (oth8 ((Keep.refl (fun k => k < Bv) wr).drewN _) (Nat.lt_irrefl _) _ _ _ _ _ _ _ _) hBz, ?_, ?_⟩
                · rw [rounds, ← Hv.out]
                  exact set8 (hVr.drewN _) hlv _ _ _ _ _ _ _ _
                · exact (oth8 ((Keep.of_below hBr).drewN _) (Nat.not_lt.2 (Nat.le_of_lt hBz)) _ _ _ _ _ _ _ _).below
              case measure => simp [intOf]; omega
            · have e64 : r = 64 := by omega
              have hVf : IBlk .u32 79 wr Bv (rounds kk W st 64) := by rw [← e64, ← Hv.out]; exact hVr
              have hstr : IBlk .u32 T wr bs st := hst.below hBr hbs
              have hl8 := rounds_length kk W st 64 hl1
              have hres : compress kk by_ st = addInto st (rounds kk W st 64) 8 := by rw [HW.out]; rfl
              have Hres := Lib.hid hres
              clear hres e64 hVr hWr hlv Hv HW hlW
              obtain ⟨z, hz⟩ : ∃ z, z = rounds kk W st 64 := ⟨_, rfl⟩
              rw [← hz] at hVf hl8
              have Hz := Lib.hid hz
              clear hz
              have hBz2 : Keep (fun k => k < w.heap.size ∧ k ≠ bs) w wr := (Keep.of_below hBr).mono fun _ h => h.1
              go_wp2
              go_loopw [161] (fun c wr => ∃ i : Nat, i ≤ 8 ∧ c = .int .i64 i ∧ IBlk .u32 79 wr Bv z ∧ IBlk .u32 T wr bs (addInto st z i) ∧ Keep (fun k => k < w.heap.size ∧ k ≠ bs) w wr)
                (fun c _ => 8 - (intOf c).toNat)
              case atStart => exact ⟨0, by omega, rfl, hVf, hstr, hBz2⟩
              case round =>
                clear hVf hstr hBz2 hBr
                obtain ⟨q, hq, rfl, hVr, hSr, hKr⟩ := hrel
                have hls := (addInto_length st z q).trans hl1
                by_cases h8 : q < 8
                · have s0 := hSr.cell q (by omega)
                  have v0 := hVr.cell q (by omega)
                  have f0 := hSr.free q
                  go_wp2_with fail
                  go_region
                  go_wp2
                  go_roundw
                  case rel =>
                    refine ⟨q + 1, by omega, by go_num, ?_, ?_, ?_⟩
                    · exact hVr.other _ _ (by show Bv ≠ bs; omega)
                    · exact hSr.set _ _
                    · exact (hKr.setCell (fun h => h.2 rfl) _).drewN 1
                  case measure => simp [intOf]; omega
                · have e8 : q = 8 := by omega
                  have hSf : IBlk .u32 T wr bs (compress kk by_ st) := by rw [Hres.out, ← Hz.out, ← e8]; exact hSr
                  clear e8 hSr hVr Hres Hz hls
                  go_wp2
                  go_end0
                  exact ⟨rfl, hSf, hKr⟩

end Dig
end Go.Proofs.YtfdgclnjpbkggaaDoor
