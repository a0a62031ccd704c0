/-
  NARROWER THAN 'FOR EVERY INPUT', by the rows' own cells (each row's printed sentence says how): CatalogNames: loops · CatalogPlays: loops · CatalogOfNothing: loops.
  DERIVED. THE GIVEN ROWS OF THIS SEAT. 4 by the template 'for every input the law returns true; each argument reads behind the call as it read before'; 0 by the template 'total and deterministic' (their statements: YtdaljjicekheiaaTotals.lean).
  GIVEN WITH THE SEED: the statements are not yours to turn. If you find one false, say at which input.
  Laid BY PROGRAM, IN A SANDBOX (cutbox-rows.mjs): the forced cells as the released guide's own fill.sh prints them over the translation 676573b95176145b… (all of the seat's roots in one cut). By AI agents, Wed Nov 11 2026. No macro, syntax, notation, axiom, sorry.
-/
import Derived.Test.YtdaljjicekheiaaChecked
import GoSem.Claim
import GoSem.ClaimJoined
import GoSem.ClaimMapViews
import Derived.JoinedTies
import Derived.KernelRfl
namespace Go.Proofs.Ytdaljjicekheiaa
/- THE CELL 'sum', in the pinned program and in every row, IS THE sha256 OF THE DUMP (.gsa) THAT YtdaljjicekheiaaProg.lean LOADS. Nothing in Lean hashes anything: it is a label: what it is worth is what the hold of that sum in a sandbox is worth. -/
noncomputable def Try.pinned : Pinned := { name := "ytdaljjicekheiaa", sum := "676573b95176145b41cb7390cf13e1043a9e38a16118e1c09830522742b5eead", checked := Try.checked }
namespace Rows
def none {H : Type} : Left H := { results := [], args := [] }

/-- 'scrivenerlaw14.CatalogBounds': WHATEVER THE INPUT: true; the input reads as it did. -/
def catalogBoundsSpec : ChangeSpec := { name := "catalogBounds", fn := fun _ => fun
  | [d1, d2] => { results := [.lit (.bool true)], args := [d1, d2] }
  | _ => none }
def catalogBoundsRow : OpenClaim := { program := "ytdaljjicekheiaa", sum := "676573b95176145b41cb7390cf13e1043a9e38a16118e1c09830522742b5eead", func := "scrivener/scrivenerlaw14.CatalogBounds", spec := "catalogBounds", plainKeys := false, apart := false }
def CatalogBoundsSaid : Prop := catalogBoundsRow.holds Try.pinned (OpenSpec.ofChange catalogBoundsSpec)

/-- ITS FALSE NEIGHBOUR: 'it returns false'. Refute it at one input. -/
def catalogBoundsWrong : ChangeSpec := { name := "catalogBounds", fn := fun _ => fun
  | [d1, d2] => { results := [.lit (.bool false)], args := [d1, d2] }
  | _ => none }
def CatalogBoundsWrongFalsely : Prop := catalogBoundsRow.holds Try.pinned (OpenSpec.ofChange catalogBoundsWrong)

/-- 'scrivenerlaw14.CatalogNames': WHATEVER THE INPUT: true; the input reads as it did. -/
def catalogNamesSpec : ChangeSpec := { name := "catalogNames", fn := fun _ => fun
  | [d] => { results := [.lit (.bool true)], args := [d] }
  | _ => none }
def catalogNamesRow : OpenClaim := { program := "ytdaljjicekheiaa", sum := "676573b95176145b41cb7390cf13e1043a9e38a16118e1c09830522742b5eead", func := "scrivener/scrivenerlaw14.CatalogNames", spec := "catalogNames", loops := true, plainKeys := false, apart := false }
def CatalogNamesSaid : Prop := catalogNamesRow.holds Try.pinned (OpenSpec.ofChange catalogNamesSpec)

/-- ITS FALSE NEIGHBOUR: 'it returns false'. Refute it at one input. -/
def catalogNamesWrong : ChangeSpec := { name := "catalogNames", fn := fun _ => fun
  | [d] => { results := [.lit (.bool false)], args := [d] }
  | _ => none }
def CatalogNamesWrongFalsely : Prop := catalogNamesRow.holds Try.pinned (OpenSpec.ofChange catalogNamesWrong)

/-- 'scrivenerlaw14.CatalogPlays': WHATEVER THE INPUT: true; the input reads as it did. -/
def catalogPlaysSpec : ChangeSpec := { name := "catalogPlays", fn := fun _ => fun
  | [d1, d2, d3] => { results := [.lit (.bool true)], args := [d1, d2, d3] }
  | _ => none }
def catalogPlaysRow : OpenClaim := { program := "ytdaljjicekheiaa", sum := "676573b95176145b41cb7390cf13e1043a9e38a16118e1c09830522742b5eead", func := "scrivener/scrivenerlaw14.CatalogPlays", spec := "catalogPlays", inPlace := ["maps.clone"], loops := true, plainKeys := false, apart := false }
def CatalogPlaysSaid : Prop := catalogPlaysRow.holds Try.pinned (OpenSpec.ofChange catalogPlaysSpec)

/-- ITS FALSE NEIGHBOUR: 'it returns false'. Refute it at one input. -/
def catalogPlaysWrong : ChangeSpec := { name := "catalogPlays", fn := fun _ => fun
  | [d1, d2, d3] => { results := [.lit (.bool false)], args := [d1, d2, d3] }
  | _ => none }
def CatalogPlaysWrongFalsely : Prop := catalogPlaysRow.holds Try.pinned (OpenSpec.ofChange catalogPlaysWrong)

/-- 'scrivenerlaw14.CatalogOfNothing': WHATEVER THE INPUT: true; the input reads as it did. -/
def catalogOfNothingSpec : ChangeSpec := { name := "catalogOfNothing", fn := fun _ => fun
  | [d1, d2] => { results := [.lit (.bool true)], args := [d1, d2] }
  | _ => none }
def catalogOfNothingRow : OpenClaim := { program := "ytdaljjicekheiaa", sum := "676573b95176145b41cb7390cf13e1043a9e38a16118e1c09830522742b5eead", func := "scrivener/scrivenerlaw14.CatalogOfNothing", spec := "catalogOfNothing", inPlace := ["maps.clone"], loops := true, plainKeys := false, apart := false }
def CatalogOfNothingSaid : Prop := catalogOfNothingRow.holds Try.pinned (OpenSpec.ofChange catalogOfNothingSpec)

/-- ITS FALSE NEIGHBOUR: 'it returns false'. Refute it at one input. -/
def catalogOfNothingWrong : ChangeSpec := { name := "catalogOfNothing", fn := fun _ => fun
  | [d1, d2] => { results := [.lit (.bool false)], args := [d1, d2] }
  | _ => none }
def CatalogOfNothingWrongFalsely : Prop := catalogOfNothingRow.holds Try.pinned (OpenSpec.ofChange catalogOfNothingWrong)

/- THE SECOND FORM. 'bulk': how many values and letters a reading holds, each counted each time it is reached (what is shared counts as often as it is met; a slice's spare places count too). A statement '..UptoSaid' is the law's where the arguments, and the package variables that the reading takes, are together of bulk at most 1048576: NARROWER than '..Said'. Prove '..Said' where nothing that the law and all that it calls make is longer than what came in: it says more and counts as full. Else prove '..UptoSaid'. A law counts once. -/
mutual
def uptoBulk {H : Type} : DataW H → Nat
  | .lit (.string bytes) => bytes.length + 1
  | .lit _ => 1
  | .nil => 1
  | .ptr d => uptoBulk d + 1
  | .slice elems spare => uptoBulkAll elems + uptoBulkAll spare + 1
  | .agg parts => uptoBulkAll parts + 1
  | .iface _ d => uptoBulk d + 1
  | .map entries => uptoBulkEntries entries + 1
  | .held _ => 1
def uptoBulkAll {H : Type} : List (DataW H) → Nat
  | [] => 0
  | d :: r => uptoBulk d + uptoBulkAll r
def uptoBulkEntries {H : Type} : List (Lit × DataW H) → Nat
  | [] => 0
  | x :: r => uptoBulkEntry x + uptoBulkEntries r
def uptoBulkEntry {H : Type} : Lit × DataW H → Nat
  | (.string bytes, d) => bytes.length + uptoBulk d + 1
  | (_, d) => uptoBulk d + 1
 end
def uptoSmall : (H : Type) → List (DataW H) → Bool := fun _ ds => decide (uptoBulkAll ds ≤ 1048576)
def OpenSpec.upto (s : _root_.Go.ChangeSpec) : _root_.Go.OpenSpec := { _root_.Go.OpenSpec.ofChange s with cond := some uptoSmall }

/-- 'scrivenerlaw14.CatalogBounds', WHERE WHAT IT READS IS OF BULK AT MOST 1048576: true; the input reads as it did. -/
def catalogBoundsUptoRow : OpenClaim := { program := "ytdaljjicekheiaa", sum := "676573b95176145b41cb7390cf13e1043a9e38a16118e1c09830522742b5eead", func := "scrivener/scrivenerlaw14.CatalogBounds", spec := "catalogBounds", plainKeys := false, apart := false, narrowed := true }
def CatalogBoundsUptoSaid : Prop := catalogBoundsUptoRow.holds Try.pinned (OpenSpec.upto catalogBoundsSpec)

/-- 'scrivenerlaw14.CatalogNames', WHERE WHAT IT READS IS OF BULK AT MOST 1048576: true; the input reads as it did. -/
def catalogNamesUptoRow : OpenClaim := { program := "ytdaljjicekheiaa", sum := "676573b95176145b41cb7390cf13e1043a9e38a16118e1c09830522742b5eead", func := "scrivener/scrivenerlaw14.CatalogNames", spec := "catalogNames", loops := true, plainKeys := false, apart := false, narrowed := true }
def CatalogNamesUptoSaid : Prop := catalogNamesUptoRow.holds Try.pinned (OpenSpec.upto catalogNamesSpec)

/-- 'scrivenerlaw14.CatalogPlays', WHERE WHAT IT READS IS OF BULK AT MOST 1048576: true; the input reads as it did. -/
def catalogPlaysUptoRow : OpenClaim := { program := "ytdaljjicekheiaa", sum := "676573b95176145b41cb7390cf13e1043a9e38a16118e1c09830522742b5eead", func := "scrivener/scrivenerlaw14.CatalogPlays", spec := "catalogPlays", inPlace := ["maps.clone"], loops := true, plainKeys := false, apart := false, narrowed := true }
def CatalogPlaysUptoSaid : Prop := catalogPlaysUptoRow.holds Try.pinned (OpenSpec.upto catalogPlaysSpec)

/-- 'scrivenerlaw14.CatalogOfNothing', WHERE WHAT IT READS IS OF BULK AT MOST 1048576: true; the input reads as it did. -/
def catalogOfNothingUptoRow : OpenClaim := { program := "ytdaljjicekheiaa", sum := "676573b95176145b41cb7390cf13e1043a9e38a16118e1c09830522742b5eead", func := "scrivener/scrivenerlaw14.CatalogOfNothing", spec := "catalogOfNothing", inPlace := ["maps.clone"], loops := true, plainKeys := false, apart := false, narrowed := true }
def CatalogOfNothingUptoSaid : Prop := catalogOfNothingUptoRow.holds Try.pinned (OpenSpec.upto catalogOfNothingSpec)

end Rows
end Go.Proofs.Ytdaljjicekheiaa
