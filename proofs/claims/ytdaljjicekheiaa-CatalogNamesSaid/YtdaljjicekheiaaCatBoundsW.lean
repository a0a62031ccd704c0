/- The law CatalogBounds, walked. -/
import Derived.Test.YtdaljjicekheiaaCatJ
import Derived.Laws.BytesArg
namespace Go.Proofs.Ytdaljjicekheiaa
open Go.RowKit Go.Maps
namespace Cat

/-- A name of two letters. -/
def nm (a : Int) (i : Nat) : ByteArray := strOfNums [a, (i : Int)]
/-- k tables. -/
def LL (k : Nat) : List Tb := (List.range k).map fun i => ⟨nm 116 (i + 1), false, []⟩
/-- n tables, the first of which has k indexes. -/
def LF (n k : Nat) : List Tb := (LL n).set 0 ⟨nm 116 1, false, (List.range k).map (nm 102)⟩

theorem nm_size (a : Int) (i : Nat) : (nm a i).size = 2 := rfl
theorem ll_len (k : Nat) : (LL k).length = k := by simp [LL]
theorem ll_code : ∀ k, k < 70 → appC (LL (min k 64)) 5 (nm 116 (k + 1)) ((k : Int) + 1) = if k < 64 then 0 else 17 := by decide +kernel
theorem ll_next (k : Nat) (h : k < 70) : appL (LL (min k 64)) 5 (nm 116 (k + 1)) ((k : Int) + 1) = LL (min (k + 1) 64) := by
  unfold appL
  rw [ll_code k h]
  by_cases h1 : k < 64
  · rw [if_pos h1, if_pos rfl, if_pos rfl]
    have e1 : min k 64 = k := by omega
    have e2 : min (k + 1) 64 = k + 1 := by omega
    rw [e1, e2]
    simp [LL, List.range_succ]
  · rw [if_neg h1, if_neg (by decide)]
    have e1 : min k 64 = min (k + 1) 64 := by omega
    rw [e1]
theorem lf_len (n k : Nat) : (LF n k).length = n := by simp [LF, LL]
theorem lf_zero (n : Nat) (h : 0 < n) : LF n 0 = LL n := by
  obtain ⟨m, rfl⟩ : ∃ m, n = m + 1 := ⟨n - 1, by omega⟩
  simp [LF, LL, List.range_succ_eq_map]
theorem lf_get (n k : Nat) (h : 0 < n) : (LF n k).getD 0 noTb = ⟨nm 116 1, false, (List.range k).map (nm 102)⟩ := by
  have : 0 < (LL n).length := by rw [ll_len]; exact h
  simp [LF, this]
theorem mem_names : ∀ k, k < 16 → mem ((List.range k).map (nm 102)) (nm 102 k) = false := by decide +kernel
theorem mem_names2 : ∀ k, k < 20 → 16 ≤ k → mem ((List.range 16).map (nm 102)) (nm 102 k) = false := by decide +kernel
theorem lf_code (n k : Nat) (hn : 0 < n) (hk : k < 20) : appC (LF n (min k 16)) 7 (nm 102 k) 1 = if k < 16 then 0 else 17 := by
  have hg := lf_get n (min k 16) hn
  have h0 : ((1 : Int) - 1).toNat = 0 := rfl
  have ht : there (LF n (min k 16)) 1 = true := by
    unfold there
    rw [h0, hg, lf_len]
    simp; omega
  have hh : has (LF n (min k 16)) 1 (nm 102 k) = false := by
    unfold has
    rw [h0, hg]
    have : mem ((List.range (min k 16)).map (nm 102)) (nm 102 k) = false := by
      by_cases h : k < 16
      · have e : min k 16 = k := by omega
        rw [e]; exact mem_names k h
      · have e : min k 16 = 16 := by omega
        rw [e]; exact mem_names2 k hk (by omega)
    show (_ && _ && mem ((List.range (min k 16)).map (nm 102)) (nm 102 k)) = false
    rw [this]; simp
  have hi : isNm (nm 102 k) = true := by unfold isNm; rw [nm_size]; rfl
  unfold appC
  rw [if_neg (by decide), if_neg (by decide), if_pos rfl, ht, hi, hh, if_neg (by decide), if_neg (by decide), if_neg (by decide), h0, hg]
  simp only [List.length_map, List.length_range]
  by_cases h : k < 16
  · rw [if_neg (by omega), if_pos h]
  · rw [if_pos (by omega), if_neg h]
theorem lf_next (n k : Nat) (hn : 0 < n) (hk : k < 20) : appL (LF n (min k 16)) 7 (nm 102 k) 1 = LF n (min (k + 1) 16) := by
  unfold appL
  rw [lf_code n k hn hk]
  have h0 : ((1 : Int) - 1).toNat = 0 := rfl
  by_cases h : k < 16
  · rw [if_pos h, if_pos rfl, if_neg (by decide), if_neg (by decide), if_pos rfl, h0, lf_get n _ hn]
    have e1 : min k 16 = k := by omega
    have e2 : min (k + 1) 16 = k + 1 := by omega
    rw [e1, e2]
    simp [LF, List.range_succ]
  · rw [if_neg h, if_neg (by decide)]
    have e1 : min k 16 = min (k + 1) 16 := by omega
    rw [e1]

theorem conv_two (w : World) (a : Int) (i : Nat) : (convert 27 9 (.slice (some ⟨w.heap.size, 0, none⟩) 2 2)).run Try.prog (w.alloc (.cells #[.int .u8 a, .int .u8 (i : Int)] 5)) = .ok (.string (nm a i)) (w.alloc (.cells #[.int .u8 a, .int .u8 (i : Int)] 5)) := by
  refine run_convert_bytes_arg (P := Try.prog) _ 27 5 Try.underlying27 Try.underlying5 w.heap.size 0 2 2 [a, (i : Int)] rfl (fun j hj => ?_) 9 Try.underlying9
  have hv := VBlk.mk w [.int .u8 a, .int .u8 (i : Int)] 5
  rw [Nat.zero_add]
  refine (hv.cell j hj).trans ?_
  match j, hj with
  | 0, _ => rfl
  | 1, _ => rfl

/-- What the first loop keeps. -/
def BRel (w : World) (c : Nat) (L : List Tb) (m : Nat) (wr : World) : Prop := ∃ O, IsCat wr c O m L ∧ Below w.heap.size w wr ∧ (∀ b, O b → w.heap.size ≤ b) ∧ w.heap.size ≤ wr.heap.size
theorem BRel.alloc {w : World} {c : Nat} {L : List Tb} {m : Nat} {wr : World} (h : BRel w c L m wr) (o : Obj) : BRel w c L m (wr.alloc o) := by
  obtain ⟨O, h1, h2, h3, h4⟩ := h
  exact ⟨O, h1.below ((Below.refl _ _).alloc (Nat.le_refl _) _) (Nat.le_refl _), h2.alloc h4 _, h3, by simp; omega⟩
theorem BRel.app {w : World} {c : Nat} {L : List Tb} {m : Nat} {wr w' : World} {O : Nat → Prop} {kind : Int} {txt : ByteArray} {tbl : Int} {e : Ending} (h2 : Below w.heap.size w wr) (h3 : ∀ b, O b → w.heap.size ≤ b) (h4 : w.heap.size ≤ wr.heap.size)
    (hp : AppPost wr c m O L kind txt tbl e w') : e = .returned (.int .i64 (appC L kind txt tbl)) ∧ BRel w c (appL L kind txt tbl) (m + 1) w' := by
  obtain ⟨O', he, hc, hk, ho⟩ := hp
  obtain ⟨a1, a2, a3⟩ := app_below h2 h3 hk ho h4
  exact ⟨he, O', hc, a1, a2, a3⟩
theorem BRel.call {w : World} {c : Nat} {L : List Tb} {m : Nat} {wr : World} {cs : Array Value} {kind : Int} {txt : ByteArray} {tbl : Int} (h : BRel w c L m wr) (hE : Ent cs kind txt tbl) (hm : m < 1000000000) :
    Calls Try.prog 9 #[.pointer (some ⟨c, 0, none⟩), .agg cs] wr fun e w' => e = .returned (.int .i64 (appC L kind txt tbl)) ∧ BRel w c (appL L kind txt tbl) (m + 1) w' := by
  obtain ⟨O, h1, h2, h3, h4⟩ := h
  exact (apply_any h1 hE hm).mono fun e w' hp => BRel.app h2 h3 h4 hp

set_option maxRecDepth 100000 in
set_option maxHeartbeats 4000000 in
theorem bounds_no {n f : Int} (w : World) (h : n < 1 ∨ 70 < n ∨ f < 0 ∨ 20 < f) : Calls Try.prog 3 #[.int .i64 n, .int .i64 f] w fun e w' => e = .returned (.bool true) ∧ Below w.heap.size w w' := by
  by_cases h1 : n < 1
  · clear h
    go_enter Try.func3, Try.ntmps3
    go_wp2_with fail
    refine (known_any _).mono ?_
    rintro e w9 ⟨rfl, hb9⟩
    go_wp2_with fail
    go_ret
    exact ⟨rfl, hb9⟩
  · by_cases h2 : 70 < n
    · clear h
      go_enter Try.func3, Try.ntmps3
      go_wp2_with fail
      refine (known_any _).mono ?_
      rintro e w9 ⟨rfl, hb9⟩
      go_wp2_with fail
      go_ret
      exact ⟨rfl, hb9⟩
    · by_cases h3 : f < 0
      · clear h
        go_enter Try.func3, Try.ntmps3
        go_wp2_with fail
        refine (known_any _).mono ?_
        rintro e w9 ⟨rfl, hb9⟩
        go_wp2_with fail
        go_ret
        exact ⟨rfl, hb9⟩
      · have h4 : 20 < f := by omega
        clear h
        go_enter Try.func3, Try.ntmps3
        go_wp2_with fail
        refine (known_any _).mono ?_
        rintro e w9 ⟨rfl, hb9⟩
        go_wp2_with fail
        go_ret
        exact ⟨rfl, hb9⟩

set_option maxRecDepth 100000 in
set_option maxHeartbeats 8000000 in
theorem bounds_in (N F : Nat) (w : World) (hN : 1 ≤ N) (hN2 : N ≤ 70) (hF : F ≤ 20) : Calls Try.prog 3 #[.int .i64 (N : Int), .int .i64 (F : Int)] w fun e w' => e = .returned (.bool true) ∧ Below w.heap.size w w' := by
  have g1 : decide ((N : Int) < 1) = false := decide_eq_false (by omega)
  have g2 : decide ((70 : Int) < N) = false := decide_eq_false (by omega)
  have g3 : decide ((F : Int) < 0) = false := decide_eq_false (by omega)
  have g4 : decide ((20 : Int) < F) = false := decide_eq_false (by omega)
  go_enter Try.func3, Try.ntmps3
  go_wp2_with fail
  refine (new_any _).mono ?_
  rintro e w1 ⟨O1, rfl, h1, hb1, ho1⟩
  have H1 : Hid2 (BRel w (w.heap.size + 1) (LL 0) 0 w1) := Hid2.mk ⟨O1, h1, hb1, ho1, hb1.size⟩
  generalize w.heap.size + 1 = c at H1 ⊢
  clear h1 hb1 ho1 g1 g2 g3 g4
  go_wp2_with fail
  go_loopw [6] (fun i wr => ∃ k : Nat, k ≤ N ∧ i = .int .i64 ((k : Int) + 1) ∧ BRel w c (LL (min k 64)) k wr) (fun i _ => N + 1 - (intOf i).toNat)
  case atStart => exact ⟨0, by omega, rfl, H1.out⟩
  case round =>
    obtain ⟨k, hk, rfl, hr⟩ := hrel
    have Hr := Hid2.mk hr
    clear hr
    by_cases hkN : k < N
    · have g1 : (k : Int) + 1 ≤ N := by omega
      have hu8 : IntKind.u8.wrap ((k : Int) + 1) = (k : Int) + 1 := by
        unfold IntKind.wrap; simp [IntKind.signed, IntKind.bits]; omega
      have hcv := conv_two wr 116 (k + 1)
      rw [show ((k + 1 : Nat) : Int) = (k : Int) + 1 from by omega] at hcv
      have Hr2 := Hid2.mk (Hr.out.alloc (.cells #[.int .u8 116, .int .u8 ((k : Int) + 1)] 5))
      go_wp2_with fail
      refine (Hr2.out.call (kind := 5) (txt := nm 116 (k + 1)) (tbl := (k : Int) + 1) (by exact ⟨rfl, rfl, rfl, rfl, by rw [nm_size]; decide +kernel, by have := wf_small k (by omega); simpa using this⟩) (by omega)).mono ?_
      rintro e w2 ⟨he, h2⟩
      rw [ll_code k (by omega)] at he
      rw [ll_next k (by omega)] at h2
      have H2 := Hid2.mk h2
      clear h2 hcv hu8 Hr2 Hr
      by_cases h64 : k < 64
      · rw [if_pos h64] at he
        subst he
        have g2 : (k : Int) + 1 ≤ 64 := by omega
        go_wp2_with fail
        go_roundw
        case rel => exact ⟨k + 1, by omega, by go_num, H2.out⟩
        case measure => simp [intOf]; omega
      · rw [if_neg h64] at he
        subst he
        have g2 : decide ((k : Int) + 1 ≤ 64) = false := decide_eq_false (by omega)
        go_wp2_with fail
        go_roundw
        case rel => exact ⟨k + 1, by omega, by go_num, H2.out⟩
        case measure => simp [intOf]; omega
    · have g1 : decide ((k : Int) + 1 ≤ N) = false := decide_eq_false (by omega)
      obtain rfl : k = N := by omega
      have Hf : Hid2 (BRel w c (LF (min k 64) (min 0 16)) k wr) := Hid2.mk (by have e : min 0 16 = 0 := rfl
                                                                               rw [e, lf_zero _ (by omega)]; exact Hr.out)
      have hpos : 0 < min k 64 := by omega
      clear Hr H1
      generalize min k 64 = M at Hf hpos
      go_wp2_with fail
      go_loopw [8] (fun i wr => ∃ j : Nat, j ≤ F ∧ i = .int .i64 (j : Nat) ∧ BRel w c (LF M (min j 16)) (k + j) wr) (fun i _ => F - (intOf i).toNat)
      case atStart => exact ⟨0, by omega, rfl, Hf.out⟩
      case round =>
        obtain ⟨j, hj, rfl, hr⟩ := hrel
        have Hr := Hid2.mk hr
        clear hr
        by_cases hjF : j < F
        · have g1 : (j : Int) < F := by omega
          have hu8 : IntKind.u8.wrap (j : Int) = j := by
            unfold IntKind.wrap; simp [IntKind.signed, IntKind.bits]; omega
          have hcv := conv_two wr 102 j
          have Hr2 := Hid2.mk (Hr.out.alloc (.cells #[.int .u8 102, .int .u8 (j : Int)] 5))
          go_wp2_with fail
          refine (Hr2.out.call (kind := 7) (txt := nm 102 j) (tbl := 1) (by exact ⟨rfl, rfl, rfl, rfl, by rw [nm_size]; decide +kernel, by decide⟩) (by omega)).mono ?_
          rintro e w2 ⟨he, h2⟩
          rw [lf_code _ _ hpos (by omega)] at he
          rw [lf_next _ _ hpos (by omega)] at h2
          have H2 := Hid2.mk h2
          clear h2 hcv hu8 Hr2 Hr
          by_cases h16 : j < 16
          · rw [if_pos h16] at he
            subst he
            have g2 : (j : Int) < 16 := by omega
            go_wp2_with fail
            go_roundw
            case rel => exact ⟨j + 1, by omega, by go_num, H2.out⟩
            case measure => simp [intOf]; omega
          · rw [if_neg h16] at he
            subst he
            have g2 : decide ((j : Int) < 16) = false := decide_eq_false (by omega)
            go_wp2_with fail
            go_roundw
            case rel => exact ⟨j + 1, by omega, by go_num, H2.out⟩
            case measure => simp [intOf]; omega
        · have g1 : decide ((j : Int) < F) = false := decide_eq_false (by omega)
          have Hb : Hid2 (Below w.heap.size w wr) := Hid2.mk (by obtain ⟨O, h1, h2, -⟩ := Hr.out; exact h2)
          have Hs : Hid2 (w.heap.size ≤ wr.heap.size) := Hid2.mk (by obtain ⟨O, h1, h2, h3, h4⟩ := Hr.out; exact h4)
          clear Hr Hf
          go_wp2_with fail
          refine (known_any _).mono ?_
          rintro e w9 ⟨rfl, hb9⟩
          go_wp2_with fail
          go_ret
          exact ⟨rfl, Hb.out.trans (hb9.mono Hs.out)⟩

theorem bounds_any (n f : Int) (w : World) (_h1 : (Lit.int .i64 n).wf = true) (_h2 : (Lit.int .i64 f).wf = true) : Calls Try.prog 3 #[.int .i64 n, .int .i64 f] w fun e w' => e = .returned (.bool true) ∧ Below w.heap.size w w' := by
  by_cases h : n < 1 ∨ 70 < n ∨ f < 0 ∨ 20 < f
  · exact bounds_no w h
  · obtain ⟨N, rfl⟩ : ∃ N : Nat, n = N := ⟨n.toNat, by omega⟩
    obtain ⟨F, rfl⟩ : ∃ F : Nat, f = F := ⟨f.toNat, by omega⟩
    exact bounds_in N F w (by omega) (by omega) (by omega)

end Cat
end Go.Proofs.Ytdaljjicekheiaa
