/- digest: digests as digits, in the program. -/
import Derived.Test.YtokdbdebmlpdaaaDigPure
import Derived.Laws.BytesArg
namespace Go.Proofs.Ytokdbdebmlpdaaa
open Go.RowKit
namespace Dig

/-- The two halves of a byte. -/
def nib (x : Int) (j : Nat) : Int := nth [x / 16, x % 16] j
/-- A digit's sign. -/
def dig (n : Int) : Int := n + 48 + n / 10 * 39
/-- The first n digits of the bytes l. -/
def hexN (l : List Int) : Nat → List Int
  | 0 => []
  | n + 1 => hexN l n ++ [dig (nib (nth l (n / 2)) (n % 2))]
theorem hexN_length (l : List Int) (n : Nat) : (hexN l n).length = n := by
  induction n with
  | zero => rfl
  | succ n ih => simp [hexN, ih]
theorem nib_range (x : Int) (j : Nat) (h0 : 0 ≤ x) (h1 : x ≤ 255) : 0 ≤ nib x j ∧ nib x j ≤ 15 := by
  unfold nib
  rcases j with _ | _ | j
  · show 0 ≤ x / 16 ∧ x / 16 ≤ 15; omega
  · show 0 ≤ x % 16 ∧ x % 16 ≤ 15; omega
  · show 0 ≤ nth [] j ∧ nth [] j ≤ 15
    simp [nth]

theorem Try.infoU8 : (Try.prog.info? 5).map (fun i => (i.zero, i.size, i.bytes)) = some (some (.int .u8 0), 1, 1) := by kernel_rfl
theorem index25 (l : List Int) (hl : l.length = 32) (i : Nat) (h : i < 32) (W : World) :
    (Instr.index 25 (.agg (l.map (Value.int .u8)).toArray) (.int .i64 (i : Int))).run Try.prog W = .ok (.int .u8 (nth l i)) W := by
  obtain ⟨it, hit, -, hit2, -⟩ := info_parts Try.infoU8
  exact run_index_arr W _ _ 32 _ it Try.underlying25 hit hit2 Try.underlying5 rfl _ .i64 i h _ (by simp [nth, show i < l.length by omega])
theorem index51 (x : Int) (i : Nat) (h : i < 2) (W : World) :
    (Instr.index 51 (.agg #[.int .u8 (x / 16), .int .u8 (x % 16)]) (.int .i64 (i : Int))).run Try.prog W = .ok (.int .u8 (nib x i)) W := by
  obtain ⟨it, hit, -, hit2, -⟩ := info_parts Try.infoU8
  refine run_index_arr W _ _ 2 _ it Try.underlying51 hit hit2 Try.underlying5 rfl _ .i64 i h _ ?_
  match i, h with
  | 0, _ => rfl
  | 1, _ => rfl

set_option maxRecDepth 100000 in
set_option maxHeartbeats 1000000 in
theorem hex_any (l : List Int) (w : World) (hl : l.length = 32) (hr : ∀ i, i < 32 → 0 ≤ nth l i ∧ nth l i ≤ 255) :
    Calls Try.prog 18 #[.agg (l.map (Value.int .u8)).toArray] w fun e w' => e = .returned (.string (strOfNums (hexN l 64))) ∧ Below w.heap.size w w' := by
  have hB0 := VBlk.mk w (l.map (Value.int .u8)) 25
  have hbel0 : Below w.heap.size w (w.alloc (.cells (l.map (Value.int .u8)).toArray 25)) := (Below.refl _ w).alloc (Nat.le_refl _) _
  have hi25 : (Try.prog.info? 25).map (·.size) = some (l.map (Value.int .u8)).toArray.size := by
    rw [List.size_toArray, List.length_map, hl]; kernel_rfl
  have HB0 := Hid2.mk hB0
  have Hi25 := Hid2.mk hi25
  have Hl := Hid2.mk hl
  clear hB0 hi25 hl
  go_enter Try.func18, Try.ntmps18
  go_wp2_with (refine wpList_load_row rfl 25 (.tmp 1) rfl w.heap.size rfl 25 (l.map (Value.int .u8)).toArray (0, 0) _ HB0.out Try.underlying25 rfl Hi25.out ?_)
  have hs0 : (w.alloc (.cells (l.map (Value.int .u8)).toArray 25)).heap.size = w.heap.size + 1 := by simp
  generalize World.alloc _ _ = w0 at hbel0 hs0 ⊢
  clear HB0 Hi25
  go_loopw [3, 9] (fun v i wr => ∃ k n sp c, k ≤ 32 ∧ n = 2 * k ∧ i = .int .i64 (k : Nat) ∧ v = .slice sp n c ∧ Buf .u8 5 wr (w.heap.size + 1) (.slice sp n c) (hexN l n) ∧ Keep (fun k => k < w.heap.size + 1) w0 wr)
    (fun _ i _ => 32 - (intOf i).toNat)
  case atStart => exact ⟨0, 0, none, 0, by omega, rfl, rfl, rfl, Buf.nil _ _ _ _, Keep.refl _ _⟩
  case round =>
    obtain ⟨k, n, sp, c, hk, hn, rfl, rfl, hbr, hkr⟩ := hrel
    by_cases h32 : k < 32
    · have hki : (k : Int) < 32 := by omega
      have hix := index25 l Hl.out k h32
      obtain ⟨x0, x1⟩ := hr k h32
      obtain ⟨x, hx⟩ : ∃ x, x = nth l k := ⟨_, rfl⟩
      rw [← hx] at hix x0 x1
      have Hx := Hid2.mk hx
      have hnb : n ≤ 62 := by omega
      have Hn := Hid2.mk hn
      clear hx hn
      go_wp2_with fail
      clear hix
      go_loopw [3, 17] (fun v i wr => ∃ j nn sp c, j ≤ 2 ∧ nn = n + j ∧ i = .int .i64 (j : Nat) ∧ v = .slice sp nn c ∧ Buf .u8 5 wr (w.heap.size + 1) (.slice sp nn c) (hexN l nn) ∧ Keep (fun k => k < w.heap.size + 1) w0 wr)
        (fun _ i _ => 2 - (intOf i).toNat)
      case atStart => exact ⟨0, n, sp, c, by omega, rfl, rfl, rfl, hbr, hkr⟩
      case round =>
        clear hbr hkr
        obtain ⟨j, nn, sp2, c2, hj, hnn, rfl, rfl, hbr, hkr⟩ := hrel
        have hsr := hkr.size
        have hnb2 : nn ≤ 64 := by omega
        have hdig : j < 2 → nib x j = nib (nth l (nn / 2)) (nn % 2) := by
          intro hj2
          have h1 := Hn.out
          rw [Hx.out, show nn / 2 = k from by omega, show nn % 2 = j from by omega]
        have Hdig := Hid2.mk hdig
        have Hnn := Hid2.mk hnn
        clear hdig hnn
        by_cases hj2 : j < 2
        · have hji : (j : Int) < 2 := by omega
          have hix := index51 x j hj2
          obtain ⟨y0, y1⟩ := nib_range x j x0 x1
          obtain ⟨y, hy⟩ : ∃ y, y = nib x j := ⟨_, rfl⟩
          rw [← hy] at hix y0 y1
          have Hy := Hid2.mk hy
          clear hy
          go_wp2_with (refine wpList_app rfl (.tmp 20) (.tmp 27) 22 rfl elemBytes (w.heap.size + 1) _ (hexN l nn) rfl (hbr.alloc _) _ [y + 48 + y / 10 * 39] rfl (Sl.one .u8 wr _ 5) (nn + 1) ?g1 ?g2 ?g3 ?g4 ?g5)
          case g1 => rw [hexN_length]; rfl
          case g2 => unfold maxLen; omega
          case g3 => omega
          case g4 => simp; omega
          case g5 =>
            intro sp5 c5 w5 hb5 hk5
            have hb6 : Buf .u8 5 w5 (w.heap.size + 1) (.slice sp5 (nn + 1) c5) (hexN l (nn + 1)) := by
              rw [hexN, ← Hdig.out hj2, ← Hy.out]; exact hb5
            have hk6 : Keep (fun k => k < w.heap.size + 1) w0 w5 := (hkr.trans ((Keep.refl _ wr).alloc (fun k (hk : k < w.heap.size + 1) => by omega) _)).trans hk5
            clear hb5 hk5 hbr hkr hsr
            go_wp2_with fail
            go_roundw
            case rel => exact ⟨j + 1, nn + 1, sp5, c5, by omega, by rw [Hnn.out]; rfl, by go_num, rfl, hb6, hk6⟩
            case measure => simp [intOf]; omega
        · have hd : decide ((j : Int) < 2) = false := decide_eq_false (by omega)
          have h2 : nn = 2 * (k + 1) := by rw [Hnn.out, Hn.out]; omega
          have H2 := Hid2.mk h2
          clear h2
          go_wp2_with fail
          go_roundw
          case rel => exact ⟨k + 1, nn, sp2, c2, by omega, H2.out, by go_num, rfl, hbr, hkr⟩
          case measure => simp [intOf]; omega
    · have hd : decide ((k : Int) < 32) = false := decide_eq_false (by omega)
      have hn64 : n = 64 := by omega
      clear hn
      subst hn64
      obtain ⟨g, rfl, -, hgB, hgl, hc, hc', hrow⟩ := buf_open hbr (by rw [hexN_length]; omega)
      have hcv := run_convert_bytes_arg (P := Try.prog) wr 22 5 Try.underlying22 Try.underlying5 g 0 64 c (hexN l 64) (hexN_length l 64) (fun i hi => by
        have := hrow i (by rw [hexN_length]; exact hi)
        exact this) 9 Try.underlying9
      have hbelf : Below w.heap.size w wr := hbel0.trans (hkr.mono (fun k (hk : k < w.heap.size) => by omega)).below
      clear hbr hkr hrow hbel0
      go_wp2_with fail
      go_ret
      exact ⟨rfl, hbelf⟩

end Dig
end Go.Proofs.Ytokdbdebmlpdaaa
