/-
  NARROWER THAN 'FOR EVERY INPUT', by the rows' own cells (each row's printed sentence says how): ClientEnds: loops · ClientOfNothing: loops.
  DERIVED. THE GIVEN ROWS OF THIS SEAT. 3 by the template 'for every input the law returns true; each argument reads behind the call as it read before'; 0 by the template 'total and deterministic' (their statements: YtpfkcfaifleliaaGreatTotals.lean).
  GIVEN WITH THE SEED: the statements are not yours to turn. If you find one false, say at which input.
  Laid BY PROGRAM, IN A SANDBOX (cutbox-rows.mjs): the forced cells as the released guide's own fill.sh prints them over the translation 3fc17c51b4a44333… (all of the seat's roots in one cut). By AI agents, Wed Nov 11 2026. No macro, syntax, notation, axiom, sorry.
-/
import Derived.Test.YtpfkcfaifleliaaGreatChecked
import GoSem.Claim
import GoSem.ClaimJoined
import GoSem.ClaimMapViews
import Derived.JoinedTies
import Derived.KernelRfl
namespace Go.Proofs.YtpfkcfaifleliaaGreat
/- THE CELL 'sum', in the pinned program and in every row, IS THE sha256 OF THE DUMP (.gsa) THAT YtpfkcfaifleliaaGreatProg.lean LOADS. Nothing in Lean hashes anything: it is a label: what it is worth is what the hold of that sum in a sandbox is worth. -/
noncomputable def Tryz.pinned : Pinned := { name := "ytpfkcfaifleliaagreat", sum := "3fc17c51b4a4433394b31175b912d95e93a75aa0b7b4bca49a2863e2a8adc362", checked := Tryz.checked }
namespace Rows
def none {H : Type} : Left H := { results := [], args := [] }

/-- 'scrivenerlaw27.ClientEnds': WHATEVER THE INPUT: true; the input reads as it did. -/
def clientEndsSpec : ChangeSpec := { name := "clientEnds", fn := fun _ => fun
  | [d1, d2] => { results := [.lit (.bool true)], args := [d1, d2] }
  | _ => none }
def clientEndsRow : OpenClaim := { program := "ytpfkcfaifleliaagreat", sum := "3fc17c51b4a4433394b31175b912d95e93a75aa0b7b4bca49a2863e2a8adc362", func := "scrivener/scrivenerlaw27.ClientEnds", spec := "clientEnds", unfollowed := true, recurses := true, loops := true, plainKeys := false, apart := false }
def ClientEndsSaid : Prop := clientEndsRow.holds Tryz.pinned (OpenSpec.ofChange clientEndsSpec)

/-- ITS FALSE NEIGHBOUR: 'it returns false'. Refute it at one input. -/
def clientEndsWrong : ChangeSpec := { name := "clientEnds", fn := fun _ => fun
  | [d1, d2] => { results := [.lit (.bool false)], args := [d1, d2] }
  | _ => none }
def ClientEndsWrongFalsely : Prop := clientEndsRow.holds Tryz.pinned (OpenSpec.ofChange clientEndsWrong)

/-- 'scrivenerlaw27.ClientTries': WHATEVER THE INPUT: true; the input reads as it did. -/
def clientTriesSpec : ChangeSpec := { name := "clientTries", fn := fun _ => fun
  | [d1, d2] => { results := [.lit (.bool true)], args := [d1, d2] }
  | _ => none }
def clientTriesRow : OpenClaim := { program := "ytpfkcfaifleliaagreat", sum := "3fc17c51b4a4433394b31175b912d95e93a75aa0b7b4bca49a2863e2a8adc362", func := "scrivener/scrivenerlaw27.ClientTries", spec := "clientTries", unfollowed := true, recurses := true, plainKeys := false, apart := false }
def ClientTriesSaid : Prop := clientTriesRow.holds Tryz.pinned (OpenSpec.ofChange clientTriesSpec)

/-- ITS FALSE NEIGHBOUR: 'it returns false'. Refute it at one input. -/
def clientTriesWrong : ChangeSpec := { name := "clientTries", fn := fun _ => fun
  | [d1, d2] => { results := [.lit (.bool false)], args := [d1, d2] }
  | _ => none }
def ClientTriesWrongFalsely : Prop := clientTriesRow.holds Tryz.pinned (OpenSpec.ofChange clientTriesWrong)

/-- 'scrivenerlaw27.ClientOfNothing': WHATEVER THE INPUT: true; the input reads as it did. -/
def clientOfNothingSpec : ChangeSpec := { name := "clientOfNothing", fn := fun _ => fun
  | [d1, d2] => { results := [.lit (.bool true)], args := [d1, d2] }
  | _ => none }
def clientOfNothingRow : OpenClaim := { program := "ytpfkcfaifleliaagreat", sum := "3fc17c51b4a4433394b31175b912d95e93a75aa0b7b4bca49a2863e2a8adc362", func := "scrivener/scrivenerlaw27.ClientOfNothing", spec := "clientOfNothing", unfollowed := true, recurses := true, loops := true, plainKeys := false, apart := false }
def ClientOfNothingSaid : Prop := clientOfNothingRow.holds Tryz.pinned (OpenSpec.ofChange clientOfNothingSpec)

/-- ITS FALSE NEIGHBOUR: 'it returns false'. Refute it at one input. -/
def clientOfNothingWrong : ChangeSpec := { name := "clientOfNothing", fn := fun _ => fun
  | [d1, d2] => { results := [.lit (.bool false)], args := [d1, d2] }
  | _ => none }
def ClientOfNothingWrongFalsely : Prop := clientOfNothingRow.holds Tryz.pinned (OpenSpec.ofChange clientOfNothingWrong)

/- THE SECOND FORM. 'bulk': how many values and letters a reading holds, each counted each time it is reached (what is shared counts as often as it is met; a slice's spare places count too). A statement '..UptoSaid' is the law's where the arguments, and the package variables that the reading takes, are together of bulk at most 1048576: NARROWER than '..Said'. Prove '..Said' where nothing that the law and all that it calls make is longer than what came in: it says more and counts as full. Else prove '..UptoSaid'. A law counts once. -/
mutual
def uptoBulk {H : Type} : DataW H → Nat
  | .lit (.string bytes) => bytes.length + 1
  | .lit _ => 1
  | .nil => 1
  | .ptr d => uptoBulk d + 1
  | .slice elems spare => uptoBulkAll elems + uptoBulkAll spare + 1
  | .agg parts => uptoBulkAll parts + 1
  | .iface _ d => uptoBulk d + 1
  | .map entries => uptoBulkEntries entries + 1
  | .held _ => 1
def uptoBulkAll {H : Type} : List (DataW H) → Nat
  | [] => 0
  | d :: r => uptoBulk d + uptoBulkAll r
def uptoBulkEntries {H : Type} : List (Lit × DataW H) → Nat
  | [] => 0
  | x :: r => uptoBulkEntry x + uptoBulkEntries r
def uptoBulkEntry {H : Type} : Lit × DataW H → Nat
  | (.string bytes, d) => bytes.length + uptoBulk d + 1
  | (_, d) => uptoBulk d + 1
 end
def uptoSmall : (H : Type) → List (DataW H) → Bool := fun _ ds => decide (uptoBulkAll ds ≤ 1048576)
def OpenSpec.upto (s : _root_.Go.ChangeSpec) : _root_.Go.OpenSpec := { _root_.Go.OpenSpec.ofChange s with cond := some uptoSmall }

/-- 'scrivenerlaw27.ClientEnds', WHERE WHAT IT READS IS OF BULK AT MOST 1048576: true; the input reads as it did. -/
def clientEndsUptoRow : OpenClaim := { program := "ytpfkcfaifleliaagreat", sum := "3fc17c51b4a4433394b31175b912d95e93a75aa0b7b4bca49a2863e2a8adc362", func := "scrivener/scrivenerlaw27.ClientEnds", spec := "clientEnds", unfollowed := true, recurses := true, loops := true, plainKeys := false, apart := false, narrowed := true }
def ClientEndsUptoSaid : Prop := clientEndsUptoRow.holds Tryz.pinned (OpenSpec.upto clientEndsSpec)

/-- 'scrivenerlaw27.ClientTries', WHERE WHAT IT READS IS OF BULK AT MOST 1048576: true; the input reads as it did. -/
def clientTriesUptoRow : OpenClaim := { program := "ytpfkcfaifleliaagreat", sum := "3fc17c51b4a4433394b31175b912d95e93a75aa0b7b4bca49a2863e2a8adc362", func := "scrivener/scrivenerlaw27.ClientTries", spec := "clientTries", unfollowed := true, recurses := true, plainKeys := false, apart := false, narrowed := true }
def ClientTriesUptoSaid : Prop := clientTriesUptoRow.holds Tryz.pinned (OpenSpec.upto clientTriesSpec)

/-- 'scrivenerlaw27.ClientOfNothing', WHERE WHAT IT READS IS OF BULK AT MOST 1048576: true; the input reads as it did. -/
def clientOfNothingUptoRow : OpenClaim := { program := "ytpfkcfaifleliaagreat", sum := "3fc17c51b4a4433394b31175b912d95e93a75aa0b7b4bca49a2863e2a8adc362", func := "scrivener/scrivenerlaw27.ClientOfNothing", spec := "clientOfNothing", unfollowed := true, recurses := true, loops := true, plainKeys := false, apart := false, narrowed := true }
def ClientOfNothingUptoSaid : Prop := clientOfNothingUptoRow.holds Tryz.pinned (OpenSpec.upto clientOfNothingSpec)

end Rows
end Go.Proofs.YtpfkcfaifleliaaGreat
