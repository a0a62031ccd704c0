/-
  NARROWER THAN 'FOR EVERY INPUT', by the rows' own cells (each row's printed sentence says how): ViewsPlay: loops · ViewsReplay: loops · ViewsVersions: loops · ViewsLast: loops.
  DERIVED. THE GIVEN ROWS OF THIS SEAT. 5 by the template 'for every input the law returns true; each argument reads behind the call as it read before'; 0 by the template 'total and deterministic' (their statements: YtchgjaaadfjiiaaGreatTotals.lean).
  GIVEN WITH THE SEED: the statements are not yours to turn. If you find one false, say at which input.
  Laid BY PROGRAM, IN A SANDBOX (cutbox-rows.mjs): the forced cells as the released guide's own fill.sh prints them over the translation 826c050e212d8833… (all of the seat's roots in one cut). By AI agents, Wed Nov 11 2026. No macro, syntax, notation, axiom, sorry.
-/
import Derived.Test.YtchgjaaadfjiiaaGreatChecked
import GoSem.Claim
import GoSem.ClaimJoined
import GoSem.ClaimMapViews
import Derived.JoinedTies
import Derived.KernelRfl
namespace Go.Proofs.YtchgjaaadfjiiaaGreat
/- THE CELL 'sum', in the pinned program and in every row, IS THE sha256 OF THE DUMP (.gsa) THAT YtchgjaaadfjiiaaGreatProg.lean LOADS. Nothing in Lean hashes anything: it is a label: what it is worth is what the hold of that sum in a sandbox is worth. -/
noncomputable def Tryz.pinned : Pinned := { name := "ytchgjaaadfjiiaagreat", sum := "826c050e212d88333e398ae872106d3230c144e1e29996e6b08e135b486dd19d", checked := Tryz.checked }
namespace Rows
def none {H : Type} : Left H := { results := [], args := [] }

/-- 'scrivenerlaw15.ViewsPlay': WHATEVER THE INPUT: true; the input reads as it did. -/
def viewsPlaySpec : ChangeSpec := { name := "viewsPlay", fn := fun _ => fun
  | [d1, d2] => { results := [.lit (.bool true)], args := [d1, d2] }
  | _ => none }
def viewsPlayRow : OpenClaim := { program := "ytchgjaaadfjiiaagreat", sum := "826c050e212d88333e398ae872106d3230c144e1e29996e6b08e135b486dd19d", func := "scrivener/scrivenerlaw15.ViewsPlay", spec := "viewsPlay", inPlace := ["maps.clone"], unfollowed := true, recurses := true, loops := true, plainKeys := false, apart := false }
def ViewsPlaySaid : Prop := viewsPlayRow.holds Tryz.pinned (OpenSpec.ofChange viewsPlaySpec)

/-- ITS FALSE NEIGHBOUR: 'it returns false'. Refute it at one input. -/
def viewsPlayWrong : ChangeSpec := { name := "viewsPlay", fn := fun _ => fun
  | [d1, d2] => { results := [.lit (.bool false)], args := [d1, d2] }
  | _ => none }
def ViewsPlayWrongFalsely : Prop := viewsPlayRow.holds Tryz.pinned (OpenSpec.ofChange viewsPlayWrong)

/-- 'scrivenerlaw15.ViewsReplay': WHATEVER THE INPUT: true; the input reads as it did. -/
def viewsReplaySpec : ChangeSpec := { name := "viewsReplay", fn := fun _ => fun
  | [d] => { results := [.lit (.bool true)], args := [d] }
  | _ => none }
def viewsReplayRow : OpenClaim := { program := "ytchgjaaadfjiiaagreat", sum := "826c050e212d88333e398ae872106d3230c144e1e29996e6b08e135b486dd19d", func := "scrivener/scrivenerlaw15.ViewsReplay", spec := "viewsReplay", inPlace := ["maps.clone"], unfollowed := true, recurses := true, loops := true, plainKeys := false, apart := false }
def ViewsReplaySaid : Prop := viewsReplayRow.holds Tryz.pinned (OpenSpec.ofChange viewsReplaySpec)

/-- ITS FALSE NEIGHBOUR: 'it returns false'. Refute it at one input. -/
def viewsReplayWrong : ChangeSpec := { name := "viewsReplay", fn := fun _ => fun
  | [d] => { results := [.lit (.bool false)], args := [d] }
  | _ => none }
def ViewsReplayWrongFalsely : Prop := viewsReplayRow.holds Tryz.pinned (OpenSpec.ofChange viewsReplayWrong)

/-- 'scrivenerlaw15.ViewsVersions': WHATEVER THE INPUT: true; the input reads as it did. -/
def viewsVersionsSpec : ChangeSpec := { name := "viewsVersions", fn := fun _ => fun
  | [d] => { results := [.lit (.bool true)], args := [d] }
  | _ => none }
def viewsVersionsRow : OpenClaim := { program := "ytchgjaaadfjiiaagreat", sum := "826c050e212d88333e398ae872106d3230c144e1e29996e6b08e135b486dd19d", func := "scrivener/scrivenerlaw15.ViewsVersions", spec := "viewsVersions", inPlace := ["maps.clone"], unfollowed := true, recurses := true, loops := true, plainKeys := false, apart := false }
def ViewsVersionsSaid : Prop := viewsVersionsRow.holds Tryz.pinned (OpenSpec.ofChange viewsVersionsSpec)

/-- ITS FALSE NEIGHBOUR: 'it returns false'. Refute it at one input. -/
def viewsVersionsWrong : ChangeSpec := { name := "viewsVersions", fn := fun _ => fun
  | [d] => { results := [.lit (.bool false)], args := [d] }
  | _ => none }
def ViewsVersionsWrongFalsely : Prop := viewsVersionsRow.holds Tryz.pinned (OpenSpec.ofChange viewsVersionsWrong)

/-- 'scrivenerlaw15.ViewsOfNothing': WHATEVER THE INPUT: true; the input reads as it did. -/
def viewsOfNothingSpec : ChangeSpec := { name := "viewsOfNothing", fn := fun _ => fun
  | [d] => { results := [.lit (.bool true)], args := [d] }
  | _ => none }
def viewsOfNothingRow : OpenClaim := { program := "ytchgjaaadfjiiaagreat", sum := "826c050e212d88333e398ae872106d3230c144e1e29996e6b08e135b486dd19d", func := "scrivener/scrivenerlaw15.ViewsOfNothing", spec := "viewsOfNothing", inPlace := ["maps.clone"], unfollowed := true, recurses := true, plainKeys := false, apart := false }
def ViewsOfNothingSaid : Prop := viewsOfNothingRow.holds Tryz.pinned (OpenSpec.ofChange viewsOfNothingSpec)

/-- ITS FALSE NEIGHBOUR: 'it returns false'. Refute it at one input. -/
def viewsOfNothingWrong : ChangeSpec := { name := "viewsOfNothing", fn := fun _ => fun
  | [d] => { results := [.lit (.bool false)], args := [d] }
  | _ => none }
def ViewsOfNothingWrongFalsely : Prop := viewsOfNothingRow.holds Tryz.pinned (OpenSpec.ofChange viewsOfNothingWrong)

/-- 'scrivenerlaw15.ViewsLast': WHATEVER THE INPUT: true; the input reads as it did. -/
def viewsLastSpec : ChangeSpec := { name := "viewsLast", fn := fun _ => fun
  | [d] => { results := [.lit (.bool true)], args := [d] }
  | _ => none }
def viewsLastRow : OpenClaim := { program := "ytchgjaaadfjiiaagreat", sum := "826c050e212d88333e398ae872106d3230c144e1e29996e6b08e135b486dd19d", func := "scrivener/scrivenerlaw15.ViewsLast", spec := "viewsLast", inPlace := ["maps.clone"], unfollowed := true, recurses := true, loops := true, plainKeys := false, apart := false }
def ViewsLastSaid : Prop := viewsLastRow.holds Tryz.pinned (OpenSpec.ofChange viewsLastSpec)

/-- ITS FALSE NEIGHBOUR: 'it returns false'. Refute it at one input. -/
def viewsLastWrong : ChangeSpec := { name := "viewsLast", fn := fun _ => fun
  | [d] => { results := [.lit (.bool false)], args := [d] }
  | _ => none }
def ViewsLastWrongFalsely : Prop := viewsLastRow.holds Tryz.pinned (OpenSpec.ofChange viewsLastWrong)

/- THE SECOND FORM. 'bulk': how many values and letters a reading holds, each counted each time it is reached (what is shared counts as often as it is met; a slice's spare places count too). A statement '..UptoSaid' is the law's where the arguments, and the package variables that the reading takes, are together of bulk at most 1048576: NARROWER than '..Said'. Prove '..Said' where nothing that the law and all that it calls make is longer than what came in: it says more and counts as full. Else prove '..UptoSaid'. A law counts once. -/
mutual
def uptoBulk {H : Type} : DataW H → Nat
  | .lit (.string bytes) => bytes.length + 1
  | .lit _ => 1
  | .nil => 1
  | .ptr d => uptoBulk d + 1
  | .slice elems spare => uptoBulkAll elems + uptoBulkAll spare + 1
  | .agg parts => uptoBulkAll parts + 1
  | .iface _ d => uptoBulk d + 1
  | .map entries => uptoBulkEntries entries + 1
  | .held _ => 1
def uptoBulkAll {H : Type} : List (DataW H) → Nat
  | [] => 0
  | d :: r => uptoBulk d + uptoBulkAll r
def uptoBulkEntries {H : Type} : List (Lit × DataW H) → Nat
  | [] => 0
  | x :: r => uptoBulkEntry x + uptoBulkEntries r
def uptoBulkEntry {H : Type} : Lit × DataW H → Nat
  | (.string bytes, d) => bytes.length + uptoBulk d + 1
  | (_, d) => uptoBulk d + 1
 end
def uptoSmall : (H : Type) → List (DataW H) → Bool := fun _ ds => decide (uptoBulkAll ds ≤ 1048576)
def OpenSpec.upto (s : _root_.Go.ChangeSpec) : _root_.Go.OpenSpec := { _root_.Go.OpenSpec.ofChange s with cond := some uptoSmall }

/-- 'scrivenerlaw15.ViewsPlay', WHERE WHAT IT READS IS OF BULK AT MOST 1048576: true; the input reads as it did. -/
def viewsPlayUptoRow : OpenClaim := { program := "ytchgjaaadfjiiaagreat", sum := "826c050e212d88333e398ae872106d3230c144e1e29996e6b08e135b486dd19d", func := "scrivener/scrivenerlaw15.ViewsPlay", spec := "viewsPlay", inPlace := ["maps.clone"], unfollowed := true, recurses := true, loops := true, plainKeys := false, apart := false, narrowed := true }
def ViewsPlayUptoSaid : Prop := viewsPlayUptoRow.holds Tryz.pinned (OpenSpec.upto viewsPlaySpec)

/-- 'scrivenerlaw15.ViewsReplay', WHERE WHAT IT READS IS OF BULK AT MOST 1048576: true; the input reads as it did. -/
def viewsReplayUptoRow : OpenClaim := { program := "ytchgjaaadfjiiaagreat", sum := "826c050e212d88333e398ae872106d3230c144e1e29996e6b08e135b486dd19d", func := "scrivener/scrivenerlaw15.ViewsReplay", spec := "viewsReplay", inPlace := ["maps.clone"], unfollowed := true, recurses := true, loops := true, plainKeys := false, apart := false, narrowed := true }
def ViewsReplayUptoSaid : Prop := viewsReplayUptoRow.holds Tryz.pinned (OpenSpec.upto viewsReplaySpec)

/-- 'scrivenerlaw15.ViewsVersions', WHERE WHAT IT READS IS OF BULK AT MOST 1048576: true; the input reads as it did. -/
def viewsVersionsUptoRow : OpenClaim := { program := "ytchgjaaadfjiiaagreat", sum := "826c050e212d88333e398ae872106d3230c144e1e29996e6b08e135b486dd19d", func := "scrivener/scrivenerlaw15.ViewsVersions", spec := "viewsVersions", inPlace := ["maps.clone"], unfollowed := true, recurses := true, loops := true, plainKeys := false, apart := false, narrowed := true }
def ViewsVersionsUptoSaid : Prop := viewsVersionsUptoRow.holds Tryz.pinned (OpenSpec.upto viewsVersionsSpec)

/-- 'scrivenerlaw15.ViewsOfNothing', WHERE WHAT IT READS IS OF BULK AT MOST 1048576: true; the input reads as it did. -/
def viewsOfNothingUptoRow : OpenClaim := { program := "ytchgjaaadfjiiaagreat", sum := "826c050e212d88333e398ae872106d3230c144e1e29996e6b08e135b486dd19d", func := "scrivener/scrivenerlaw15.ViewsOfNothing", spec := "viewsOfNothing", inPlace := ["maps.clone"], unfollowed := true, recurses := true, plainKeys := false, apart := false, narrowed := true }
def ViewsOfNothingUptoSaid : Prop := viewsOfNothingUptoRow.holds Tryz.pinned (OpenSpec.upto viewsOfNothingSpec)

/-- 'scrivenerlaw15.ViewsLast', WHERE WHAT IT READS IS OF BULK AT MOST 1048576: true; the input reads as it did. -/
def viewsLastUptoRow : OpenClaim := { program := "ytchgjaaadfjiiaagreat", sum := "826c050e212d88333e398ae872106d3230c144e1e29996e6b08e135b486dd19d", func := "scrivener/scrivenerlaw15.ViewsLast", spec := "viewsLast", inPlace := ["maps.clone"], unfollowed := true, recurses := true, loops := true, plainKeys := false, apart := false, narrowed := true }
def ViewsLastUptoSaid : Prop := viewsLastUptoRow.holds Tryz.pinned (OpenSpec.upto viewsLastSpec)

end Rows
end Go.Proofs.YtchgjaaadfjiiaaGreat
