/-
  NARROWER THAN 'FOR EVERY INPUT', by the rows' own cells (each row's printed sentence says how): IndexOfNothing: loops · IndexSplits: loops · IndexPlays: loops · IndexBuilds: loops.
  DERIVED. THE GIVEN ROWS OF THIS SEAT. 4 by the template 'for every input the law returns true; each argument reads behind the call as it read before'; 0 by the template 'total and deterministic' (their statements: YtlenklobbngopaaGreatTotals.lean).
  GIVEN WITH THE SEED: the statements are not yours to turn. If you find one false, say at which input.
  Laid BY PROGRAM, IN A SANDBOX (cutbox-rows.mjs): the forced cells as the released guide's own fill.sh prints them over the translation b7b01bf29926ffc3… (all of the seat's roots in one cut). By AI agents, Wed Nov 11 2026. No macro, syntax, notation, axiom, sorry.
-/
import Derived.Test.YtlenklobbngopaaGreatChecked
import GoSem.Claim
import GoSem.ClaimJoined
import GoSem.ClaimMapViews
import Derived.JoinedTies
import Derived.KernelRfl
namespace Go.Proofs.YtlenklobbngopaaGreat
/- THE CELL 'sum', in the pinned program and in every row, IS THE sha256 OF THE DUMP (.gsa) THAT YtlenklobbngopaaGreatProg.lean LOADS. Nothing in Lean hashes anything: it is a label: what it is worth is what the hold of that sum in a sandbox is worth. -/
noncomputable def Tryz.pinned : Pinned := { name := "ytlenklobbngopaagreat", sum := "b7b01bf29926ffc33eda48a8bda37b5681ae1a0a0095b6d02b826e88f422a8da", checked := Tryz.checked }
namespace Rows
def none {H : Type} : Left H := { results := [], args := [] }

/-- 'scrivenerlaw16.IndexOfNothing': WHATEVER THE INPUT: true; the input reads as it did. -/
def indexOfNothingSpec : ChangeSpec := { name := "indexOfNothing", fn := fun _ => fun
  | [d1, d2] => { results := [.lit (.bool true)], args := [d1, d2] }
  | _ => none }
def indexOfNothingRow : OpenClaim := { program := "ytlenklobbngopaagreat", sum := "b7b01bf29926ffc33eda48a8bda37b5681ae1a0a0095b6d02b826e88f422a8da", func := "scrivener/scrivenerlaw16.IndexOfNothing", spec := "indexOfNothing", inPlace := ["maps.clone"], unfollowed := true, recurses := true, loops := true, plainKeys := false, apart := false }
def IndexOfNothingSaid : Prop := indexOfNothingRow.holds Tryz.pinned (OpenSpec.ofChange indexOfNothingSpec)

/-- ITS FALSE NEIGHBOUR: 'it returns false'. Refute it at one input. -/
def indexOfNothingWrong : ChangeSpec := { name := "indexOfNothing", fn := fun _ => fun
  | [d1, d2] => { results := [.lit (.bool false)], args := [d1, d2] }
  | _ => none }
def IndexOfNothingWrongFalsely : Prop := indexOfNothingRow.holds Tryz.pinned (OpenSpec.ofChange indexOfNothingWrong)

/-- 'scrivenerlaw16.IndexSplits': WHATEVER THE INPUT: true; the input reads as it did. -/
def indexSplitsSpec : ChangeSpec := { name := "indexSplits", fn := fun _ => fun
  | [d1, d2, d3] => { results := [.lit (.bool true)], args := [d1, d2, d3] }
  | _ => none }
def indexSplitsRow : OpenClaim := { program := "ytlenklobbngopaagreat", sum := "b7b01bf29926ffc33eda48a8bda37b5681ae1a0a0095b6d02b826e88f422a8da", func := "scrivener/scrivenerlaw16.IndexSplits", spec := "indexSplits", inPlace := ["maps.clone"], unfollowed := true, recurses := true, loops := true, plainKeys := false, apart := false }
def IndexSplitsSaid : Prop := indexSplitsRow.holds Tryz.pinned (OpenSpec.ofChange indexSplitsSpec)

/-- ITS FALSE NEIGHBOUR: 'it returns false'. Refute it at one input. -/
def indexSplitsWrong : ChangeSpec := { name := "indexSplits", fn := fun _ => fun
  | [d1, d2, d3] => { results := [.lit (.bool false)], args := [d1, d2, d3] }
  | _ => none }
def IndexSplitsWrongFalsely : Prop := indexSplitsRow.holds Tryz.pinned (OpenSpec.ofChange indexSplitsWrong)

/-- 'scrivenerlaw16.IndexPlays': WHATEVER THE INPUT: true; the input reads as it did. -/
def indexPlaysSpec : ChangeSpec := { name := "indexPlays", fn := fun _ => fun
  | [d1, d2, d3] => { results := [.lit (.bool true)], args := [d1, d2, d3] }
  | _ => none }
def indexPlaysRow : OpenClaim := { program := "ytlenklobbngopaagreat", sum := "b7b01bf29926ffc33eda48a8bda37b5681ae1a0a0095b6d02b826e88f422a8da", func := "scrivener/scrivenerlaw16.IndexPlays", spec := "indexPlays", inPlace := ["maps.clone"], unfollowed := true, recurses := true, loops := true, plainKeys := false, apart := false }
def IndexPlaysSaid : Prop := indexPlaysRow.holds Tryz.pinned (OpenSpec.ofChange indexPlaysSpec)

/-- ITS FALSE NEIGHBOUR: 'it returns false'. Refute it at one input. -/
def indexPlaysWrong : ChangeSpec := { name := "indexPlays", fn := fun _ => fun
  | [d1, d2, d3] => { results := [.lit (.bool false)], args := [d1, d2, d3] }
  | _ => none }
def IndexPlaysWrongFalsely : Prop := indexPlaysRow.holds Tryz.pinned (OpenSpec.ofChange indexPlaysWrong)

/-- 'scrivenerlaw16.IndexBuilds': WHATEVER THE INPUT: true; the input reads as it did. -/
def indexBuildsSpec : ChangeSpec := { name := "indexBuilds", fn := fun _ => fun
  | [d1, d2, d3] => { results := [.lit (.bool true)], args := [d1, d2, d3] }
  | _ => none }
def indexBuildsRow : OpenClaim := { program := "ytlenklobbngopaagreat", sum := "b7b01bf29926ffc33eda48a8bda37b5681ae1a0a0095b6d02b826e88f422a8da", func := "scrivener/scrivenerlaw16.IndexBuilds", spec := "indexBuilds", inPlace := ["maps.clone"], unfollowed := true, recurses := true, loops := true, plainKeys := false, apart := false }
def IndexBuildsSaid : Prop := indexBuildsRow.holds Tryz.pinned (OpenSpec.ofChange indexBuildsSpec)

/-- ITS FALSE NEIGHBOUR: 'it returns false'. Refute it at one input. -/
def indexBuildsWrong : ChangeSpec := { name := "indexBuilds", fn := fun _ => fun
  | [d1, d2, d3] => { results := [.lit (.bool false)], args := [d1, d2, d3] }
  | _ => none }
def IndexBuildsWrongFalsely : Prop := indexBuildsRow.holds Tryz.pinned (OpenSpec.ofChange indexBuildsWrong)

/- THE SECOND FORM. 'bulk': how many values and letters a reading holds, each counted each time it is reached (what is shared counts as often as it is met; a slice's spare places count too). A statement '..UptoSaid' is the law's where the arguments, and the package variables that the reading takes, are together of bulk at most 1048576: NARROWER than '..Said'. Prove '..Said' where nothing that the law and all that it calls make is longer than what came in: it says more and counts as full. Else prove '..UptoSaid'. A law counts once. -/
mutual
def uptoBulk {H : Type} : DataW H → Nat
  | .lit (.string bytes) => bytes.length + 1
  | .lit _ => 1
  | .nil => 1
  | .ptr d => uptoBulk d + 1
  | .slice elems spare => uptoBulkAll elems + uptoBulkAll spare + 1
  | .agg parts => uptoBulkAll parts + 1
  | .iface _ d => uptoBulk d + 1
  | .map entries => uptoBulkEntries entries + 1
  | .held _ => 1
def uptoBulkAll {H : Type} : List (DataW H) → Nat
  | [] => 0
  | d :: r => uptoBulk d + uptoBulkAll r
def uptoBulkEntries {H : Type} : List (Lit × DataW H) → Nat
  | [] => 0
  | x :: r => uptoBulkEntry x + uptoBulkEntries r
def uptoBulkEntry {H : Type} : Lit × DataW H → Nat
  | (.string bytes, d) => bytes.length + uptoBulk d + 1
  | (_, d) => uptoBulk d + 1
 end
def uptoSmall : (H : Type) → List (DataW H) → Bool := fun _ ds => decide (uptoBulkAll ds ≤ 1048576)
def OpenSpec.upto (s : _root_.Go.ChangeSpec) : _root_.Go.OpenSpec := { _root_.Go.OpenSpec.ofChange s with cond := some uptoSmall }

/-- 'scrivenerlaw16.IndexOfNothing', WHERE WHAT IT READS IS OF BULK AT MOST 1048576: true; the input reads as it did. -/
def indexOfNothingUptoRow : OpenClaim := { program := "ytlenklobbngopaagreat", sum := "b7b01bf29926ffc33eda48a8bda37b5681ae1a0a0095b6d02b826e88f422a8da", func := "scrivener/scrivenerlaw16.IndexOfNothing", spec := "indexOfNothing", inPlace := ["maps.clone"], unfollowed := true, recurses := true, loops := true, plainKeys := false, apart := false, narrowed := true }
def IndexOfNothingUptoSaid : Prop := indexOfNothingUptoRow.holds Tryz.pinned (OpenSpec.upto indexOfNothingSpec)

/-- 'scrivenerlaw16.IndexSplits', WHERE WHAT IT READS IS OF BULK AT MOST 1048576: true; the input reads as it did. -/
def indexSplitsUptoRow : OpenClaim := { program := "ytlenklobbngopaagreat", sum := "b7b01bf29926ffc33eda48a8bda37b5681ae1a0a0095b6d02b826e88f422a8da", func := "scrivener/scrivenerlaw16.IndexSplits", spec := "indexSplits", inPlace := ["maps.clone"], unfollowed := true, recurses := true, loops := true, plainKeys := false, apart := false, narrowed := true }
def IndexSplitsUptoSaid : Prop := indexSplitsUptoRow.holds Tryz.pinned (OpenSpec.upto indexSplitsSpec)

/-- 'scrivenerlaw16.IndexPlays', WHERE WHAT IT READS IS OF BULK AT MOST 1048576: true; the input reads as it did. -/
def indexPlaysUptoRow : OpenClaim := { program := "ytlenklobbngopaagreat", sum := "b7b01bf29926ffc33eda48a8bda37b5681ae1a0a0095b6d02b826e88f422a8da", func := "scrivener/scrivenerlaw16.IndexPlays", spec := "indexPlays", inPlace := ["maps.clone"], unfollowed := true, recurses := true, loops := true, plainKeys := false, apart := false, narrowed := true }
def IndexPlaysUptoSaid : Prop := indexPlaysUptoRow.holds Tryz.pinned (OpenSpec.upto indexPlaysSpec)

/-- 'scrivenerlaw16.IndexBuilds', WHERE WHAT IT READS IS OF BULK AT MOST 1048576: true; the input reads as it did. -/
def indexBuildsUptoRow : OpenClaim := { program := "ytlenklobbngopaagreat", sum := "b7b01bf29926ffc33eda48a8bda37b5681ae1a0a0095b6d02b826e88f422a8da", func := "scrivener/scrivenerlaw16.IndexBuilds", spec := "indexBuilds", inPlace := ["maps.clone"], unfollowed := true, recurses := true, loops := true, plainKeys := false, apart := false, narrowed := true }
def IndexBuildsUptoSaid : Prop := indexBuildsUptoRow.holds Tryz.pinned (OpenSpec.upto indexBuildsSpec)

end Rows
end Go.Proofs.YtlenklobbngopaaGreat
