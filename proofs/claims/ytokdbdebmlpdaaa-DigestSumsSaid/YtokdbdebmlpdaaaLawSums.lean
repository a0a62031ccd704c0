/-
  For every row of bytes: the law DigestSums answers true, and the bytes read as they did. No condition.
-/
import Derived.Test.YtokdbdebmlpdaaaDigKnown
import Derived.Test.YtokdbdebmlpdaaaArrEq
import Derived.ProofKit
import Derived.OpenShut
import Derived.ShutString
import Derived.ChangeOld
import Derived.Below
namespace Go.Proofs.Ytokdbdebmlpdaaa.digestSums
open Go.ChangeShapes Go.WideShapes Go.ChangeAt Go.RowKit
open Go.Proofs.Ytokdbdebmlpdaaa.Dig

theorem own : ownKnob Try.prog.godebug = none := by kernel_rfl
theorem laidOut : laidOutB Try.prog = true := by kernel_rfl

/-- What a slice of integers that came in reads as: nil, or a row of cells. -/
def IsRow (k : IntKind) (w : World) (a : Option Addr) (len cap : Nat) (zs : List Int) : Prop :=
  (a = none ∧ len = 0 ∧ cap = 0 ∧ zs = []) ∨
  ∃ x, a = some x ∧ len ≤ cap ∧ cap ≤ maxLen ∧ zs.length = cap ∧ (∀ i, i < zs.length → w.cell? (x.add i) = some (.int k (zs.getD i 0))) ∧ ∀ n ∈ zs, (Lit.int k n).wf = true

theorem cell_spot {w : World} {x : Addr} {v : Value} (h : w.cell? x = some v) : x.spot = none := by
  unfold World.cell? at h
  split at h
  · cases hs : x.spot with
    | none => rfl
    | some _ => simp [hs] at h
  · cases h
theorem IsRow.sl {k : IntKind} {w : World} {a : Option Addr} {len cap : Nat} {zs : List Int} (h : IsRow k w a len cap zs) :
    ∃ l : List Int, l.length = len ∧ Sl k w (.slice a len cap) l := by
  rcases h with ⟨rfl, rfl, rfl, rfl⟩ | ⟨x, rfl, h1, h2, h3, h4, -⟩
  · exact ⟨[], rfl, Sl.nil k w⟩
  · have hl : (zs.take len).length = len := by rw [List.length_take]; omega
    refine ⟨zs.take len, hl, some x, cap, by rw [hl], by omega, by unfold maxLen at h2; exact h2, fun h0 => ?_, fun h => by cases h⟩
    have h40 := h4 0 (by omega)
    have hx0 : x.add 0 = x := rfl
    rw [hx0] at h40
    have hsp := cell_spot h40
    obtain ⟨b, o, s⟩ := x
    simp only at hsp
    subst hsp
    refine ⟨b, o, rfl, block_lt_of_cell h40, fun j hj => ?_⟩
    have := h4 j (by omega)
    rw [addr_add] at this
    rw [this]
    have hj2 : j < len := by omega
    simp [nth, hj2]

theorem walk_big (v : Value) (l : List Int) (w : World) (hv : Sl .u8 w v l) (hb : 2000 < l.length) :
    Calls Try.prog 3 #[v] w fun e w' => e = .returned (.bool true) ∧ Below w.heap.size w w' := by
  obtain ⟨sp, cap, rfl, -, -, -, -⟩ := hv
  have hi : (2000 : Int) < l.length := by omega
  go_enter Try.func3, Try.ntmps3
  go_wp2
  go_ret
  exact ⟨rfl, Below.refl _ _⟩

set_option maxRecDepth 100000 in
set_option maxHeartbeats 1000000 in
theorem walk_small (v : Value) (l : List Int) (w : World) (hv : Sl .u8 w v l) (hb : l.length ≤ 2000) :
    Calls Try.prog 3 #[v] w fun e w' => e = .returned (.bool true) ∧ Below w.heap.size w w' := by
  have hv2 := hv
  obtain ⟨sp, cap, rfl, -, -, -, -⟩ := hv2
  have hi : ¬ (2000 : Int) < l.length := by omega
  have hi2 : (l.length : Int) ≤ 2000 := by omega
  go_enter Try.func3, Try.ntmps3
  go_wp2_with fail
  refine (roomy_any _ l _ hv (by omega)).mono ?_
  rintro e w1 ⟨⟨g, c, rfl, hc, hc2, hg, hrow⟩, hb1⟩
  have hv1 := hv.of_below hb1
  have hpre : Row .u8 w1 g 0 l := fun j hj => by rw [hrow j (by simp; omega), nth_left _ _ _ hj]
  have hsl : Sl .u8 w1 (.slice (some ⟨g, 0, none⟩) l.length c) l := Sl.mk (by omega) hc2 hg hpre
  have hci : (l.length : Int) ≤ c := by omega
  have hc0 : ¬ c = 0 := by omega
  have Hrow := Hid2.mk hrow
  clear hv hpre hrow
  go_wp2_with fail
  refine (sum_any _ _ _ hsl (by omega)).mono ?_
  rintro e w2 ⟨rfl, hb2⟩
  have hv2 := hv1.of_below hb2
  have hrow2 := Hrow.out.below hb2 hg
  have hg2 : g < w2.heap.size := Nat.lt_of_lt_of_le hg hb2.size
  have hbb2 : Below w.heap.size w w2 := hb1.trans (hb2.mono hb1.size)
  clear hsl hv1 hb1 hb2 Hrow
  go_wp2_with fail
  refine (refSum_any _ _ _ hv2 (by omega)).mono ?_
  rintro e w3 ⟨rfl, hb3⟩
  rw [refL_eq]
  have hv3 := hv2.of_below hb3
  have hrow3 := hrow2.below hb3 hg2
  have hg3 : g < w3.heap.size := Nat.lt_of_lt_of_le hg2 hb3.size
  have hbb3 : Below w.heap.size w w3 := hbb2.trans (hb3.mono hbb2.size)
  obtain ⟨hh, hhe⟩ : ∃ hh, hh = sumL l := ⟨_, rfl⟩
  have hhl : hh.length = 32 := by rw [hhe]; exact sumL_length _
  rw [← hhe]
  have heq : ∀ W : World, (binOp .eql 25 (.agg (hh.map (Value.int .u8)).toArray) (.agg (hh.map (Value.int .u8)).toArray)).run Try.prog W = .ok (.bool true) W := by
    intro W
    obtain ⟨it, hit, -, hit2, -⟩ := info_parts Try.infoU8
    rw [run_eql_ints W Try.underlying25 Try.underlying5 hit hit2 hh hh hhl hhl]
    simp
  clear hhe hhl hv2 hrow2 hbb2 hb3
  go_wp2_with fail
  refine (stands_true g c _ l _ hv3 hc hc2 hg3 hrow3).mono ?_
  rintro e w4 ⟨rfl, nq, rfl⟩
  clear heq hv3 hrow3
  go_wp2_with fail
  refine (known_any _).mono ?_
  rintro e w5 ⟨rfl, hb5⟩
  have hbf : Below w.heap.size w w5 := (Keep.of_below hbb3).drewN nq |>.below.trans (hb5.mono hbb3.size)
  clear hb5 hbb3
  go_wp2_with fail
  go_ret
  exact ⟨rfl, hbf⟩

theorem walk (a0 : Option Addr) (len0 cap0 : Nat) (z0 : List Int) (w : World) (w0 : IsRow .u8 w a0 len0 cap0 z0) :
    Calls Try.prog 3 #[.slice a0 len0 cap0] w fun e w' => e = .returned (.bool true) ∧ Below w.heap.size w w' := by
  obtain ⟨l, hl, hsl⟩ := w0.sl
  by_cases h : 2000 < l.length
  · exact walk_big _ l w hsl h
  · exact walk_small _ l w hsl (by omega)

set_option maxRecDepth 100000 in
theorem lifted (os : Os) (started : os.Started) (H : Type) (enc : TypeId × Value → H) :
    ReturnsInHanded {} Try.checked os 3 .any (Rows.digestSumsSpec.pre6 enc Try.prog Try.f3 Rows.digestSumsRow.domain false) (Rows.digestSumsSpec.post enc Try.prog Try.f3 false true false false) := by
  refine returnsInHanded_of_change (C := Try.checked) own started (by kernel_rfl) Try.func3
    (ChangeSpec.witness6 (enc := enc) (C := Try.checked) false ⟨#[], #[.slice none 0 0], []⟩ 8 (by kernel_rfl) (by kernel_rfl) (by kernel_rfl) (by kernel_rfl)) ?_
  intro W base args ds gs before hval0 hW hcnd _
  have hval : ∀ (j : Nat) t v, Try.f3.params[j]? = some t → args[j]? = some v → Value.okWide Try.prog W .any base t v := hval0
  have hW' := hW
  obtain ⟨p, q, hA0, hV, rfl, hfz, hnd⟩ := hW
  have hA : DataW.TrodAll enc Try.prog W 0 (fun _ => true) true Try.f3.params.toList args.toList ds p := hA0
  rw [Try.params3] at hA hval
  obtain ⟨v0, vs0, d0, ds0, p0, q0, hargs, rfl, rfl, h0, r0⟩ := trodAll_cons hA
  obtain ⟨rfl, rfl, rfl⟩ := trodAll_nil r0
  obtain rfl : args = #[v0] := by cases args; simp_all
  obtain ⟨rfl, rfl⟩ := trodVars_none hV
  obtain ⟨a0, len0, cap0, rfl⟩ := okWide_slice Try.underlying22 (hval 0 22 v0 rfl rfl)
  have k0 := h0
  have lt0 : ∀ x ∈ p0, x.block < W.heap.size := by obtain ⟨m, hm⟩ := k0; exact DataW.trod_lt m _ _ _ hm
  obtain ⟨z0, w0⟩ : ∃ zs, IsRow .u8 W a0 len0 cap0 zs := by
    obtain ⟨fuel, hf⟩ := h0
    rcases open_ints Try.underlying22 Try.underlying5 (by kernel_rfl) hf with ⟨hcs, _⟩ | ⟨x, l, c, zs, hcs, _, hl, hm, hz, _, hcell, hwz⟩
    · simp [Value.cells] at hcs
      obtain ⟨rfl, rfl, rfl⟩ := hcs
      exact ⟨[], .inl ⟨rfl, rfl, rfl, rfl⟩⟩
    · simp [Value.cells] at hcs
      obtain ⟨rfl, rfl, rfl⟩ := hcs
      exact ⟨zs, .inr ⟨_, rfl, hl, hm, by simpa using hz, hcell, hwz⟩⟩
  clear hA0 hval0
  refine (walk a0 len0 cap0 z0 W w0).mono fun e W' ⟨he, bel⟩ => ?_
  subst he
  exact ⟨_, rfl, _, _, _, [], _, [], hW', trodAll_mk1 (shut_bool Try.underlying4 _), (trodAll_cons_mk (Below.trod laidOut (by kernel_rfl) (of_decide_eq_true (by kernel_rfl)) k0 bel lt0) trodAll_mk0), rfl, bel.frame _, fun h => by cases h⟩

theorem over : Rows.digestSumsRow.holds Try.pinned (OpenSpec.ofChange Rows.digestSumsSpec) :=
  OpenClaim.holds_of_wide 3 Try.f3 rfl rfl rfl rfl rfl rfl rfl ⟨rfl, rfl, rfl, rfl, rfl⟩ rfl rfl rfl rfl rfl (by kernel_rfl) Try.func3 (by kernel_rfl)
    (of_decide_eq_true (by kernel_rfl)) (by unfold Func.isWrapper; first | (rw [if_pos (by decide +kernel)]; kernel_rfl) | (rw [if_neg (by decide +kernel)]; exact ⟨rfl, rfl⟩))
    (fun os started H enc _ => lifted os started H enc)

/-- ████ THE STATEMENT ████ -/
theorem proved : Rows.DigestSumsSaid := over
#print axioms proved
end Go.Proofs.Ytokdbdebmlpdaaa.digestSums
