/- The catalog: there, Has, Find, Table. -/
import Derived.Test.YtdaljjicekheiaaCatMap
import Derived.Laws.Bits64b
namespace Go.Proofs.Ytdaljjicekheiaa
open Go.RowKit Go.Maps
namespace Cat

theorem bit_eq (dr k : Nat) (h : dr < 18446744073709551616) : (bits BinOp.and IntKind.u64 ((dr : Int) / 2 ^ k) 1 == 0) = !dr.testBit k := by
  have h1 : ((dr : Int) / 2 ^ k) = ((dr / 2 ^ k : Nat) : Int) := by simp
  have h2 : dr / 2 ^ k < 18446744073709551616 := Nat.lt_of_le_of_lt (Nat.div_le_self _ _) h
  have h3 := bits_and_u64_nat (dr / 2 ^ k) 1 h2 (by omega)
  rw [h1]
  have h4 : ((1 : Nat) : Int) = 1 := rfl
  rw [h4] at h3
  rw [h3, Nat.testBit_eq_decide_div_mod_eq]
  have h5 : dr / 2 ^ k &&& 1 = dr / 2 ^ k % 2 := Nat.and_one_is_mod _
  rw [h5]
  rcases Nat.mod_two_eq_zero_or_one (dr / 2 ^ k) with h6 | h6 <;> simp [h6]

set_option maxHeartbeats 800000 in
theorem there_any {w : World} {c n : Nat} {O : Nat → Prop} {L : List Tb} (h : IsCat w c O n L) (id : Int) :
    Calls Try.prog 23 #[.pointer (some ⟨c, 0, none⟩), .int .i64 id] w fun e w' => e = .returned (.bool (there L id)) ∧ w = w' := by
  obtain ⟨tv, dr, mb, hc, hOc, hOm, hO, ⟨cells, hT, hI⟩, hB, hM, hG⟩ := h
  obtain ⟨sp, cap, rfl, hcap, hcap2⟩ := hT.slice
  have c0 := hc.cell 0 (by simp)
  have c1 := hc.cell 1 (by simp)
  have hlen := hG.len
  simp only [List.getD_cons_zero, List.getD_cons_succ] at c0 c1
  have HB := Hid2.mk hB
  by_cases h1 : id < 1
  · have h1' : decide (1 ≤ id) = false := decide_eq_false (by omega)
    clear hT hI hM hG hO hc hB
    go_enter Try.func23, Try.ntmps23
    go_wp2
    go_ret
    exact ⟨by simp [there]; omega, rfl⟩
  · by_cases h2 : id ≤ L.length
    · obtain ⟨k, rfl⟩ : ∃ k : Nat, id = (k + 1 : Nat) := ⟨(id - 1).toNat, by omega⟩
      have h3 : (1 : Int) ≤ (k + 1 : Nat) := by omega
      clear hT hI hM hG hO hc h1 hB
      go_enter Try.func23, Try.ntmps23
      go_wp2
      go_ret
      refine ⟨?_, rfl⟩
      have h5 : there L ((k + 1 : Nat) : Int) = !dr.testBit k := by
        rw [HB.out.2 k]
        have e1 : (((k + 1 : Nat) : Int) - 1).toNat = k := by omega
        unfold there
        rw [e1]
        simp; omega
      rw [h5, ← bit_eq dr k HB.out.1]
      rfl
    · have h1' : (1 : Int) ≤ id := by omega
      have h2' : decide (id ≤ (L.length : Int)) = false := decide_eq_false (by omega)
      clear hT hI hM hG hO hc hB
      go_enter Try.func23, Try.ntmps23
      go_wp2
      go_ret
      exact ⟨by simp [there]; omega, rfl⟩

theorem there_nil (id : Int) (w : World) : Calls Try.prog 23 #[.pointer none, .int .i64 id] w fun e w' => e = .returned (.bool false) ∧ w = w' := by
  go_enter Try.func23, Try.ntmps23
  go_wp2
  go_ret
  exact ⟨rfl, rfl⟩

theorem has_there {L : List Tb} (hG : Good L) (id : Int) (f : ByteArray) (h : there L id = false) : has L id f = false := by
  unfold there at h
  unfold has
  by_cases h1 : 1 ≤ id
  · by_cases h2 : id ≤ L.length
    · simp [h1, h2] at h
      have h3 := (hG.each (id - 1).toNat (by omega)).2.2.2 (by simpa using h)
      rw [h3, mem_nil]
      simp
    · simp [h2]
  · simp [h1]

set_option maxHeartbeats 800000 in
theorem has_any {w : World} {c n : Nat} {O : Nat → Prop} {L : List Tb} (h : IsCat w c O n L) (id : Int) (f : ByteArray) (hf : f.size ≤ maxLen) :
    Calls Try.prog 18 #[.pointer (some ⟨c, 0, none⟩), .int .i64 id, .string f] w fun e w' => e = .returned (.bool (has L id f)) ∧ w = w' := by
  have hh := h
  obtain ⟨tv, dr, mb, hc, hOc, hOm, hO, -, hB, hM, hG⟩ := h
  have c2 := hc.cell 2 (by simp)
  have hlen := hG.len
  simp only [List.getD_cons_zero, List.getD_cons_succ] at c2
  have HH := Hid2.mk hh
  cases ht : there L id with
  | false =>
    rw [has_there hG id f ht]
    have HT := Hid2.mk ht
    clear hc hOc hOm hO hB hM hG hh ht
    go_enter Try.func18, Try.ntmps18
    go_wp2_with (refine (there_any HH.out _).mono ?_; rw [HT.out]; rintro e w' ⟨rfl, rfl⟩)
    go_ret
    exact ⟨rfl, rfl⟩
  | true =>
    have HT := Hid2.mk ht
    have hid : 1 ≤ id ∧ id ≤ 64 := by
      unfold there at ht
      simp at ht
      omega
    have hl := look_has hM id f ⟨by simp [Lit.wf, IntKind.min, IntKind.max, IntKind.bits, IntKind.signed]; omega, hf⟩
    clear hc hOc hOm hO hB hM hG hh ht hid
    go_enter Try.func18, Try.ntmps18
    go_wp2_with (refine (there_any HH.out _).mono ?_; rw [HT.out]; rintro e w' ⟨rfl, rfl⟩)
    go_ret
    exact ⟨rfl, rfl⟩

theorem has_nil (id : Int) (f : ByteArray) (w : World) : Calls Try.prog 18 #[.pointer none, .int .i64 id, .string f] w fun e w' => e = .returned (.bool false) ∧ w = w' := by
  go_enter Try.func18, Try.ntmps18
  go_wp2_with (refine (there_nil _ _).mono ?_; rintro e w' ⟨rfl, rfl⟩)
  go_ret
  exact ⟨rfl, rfl⟩

end Cat
end Go.Proofs.Ytdaljjicekheiaa
