/-
  NARROWER THAN 'FOR EVERY INPUT', by the rows' own cells (each row's printed sentence says how): MerkleGoes: laid · MerkleHalves: laid · MerkleProves: laid · MerkleOfNothing: laid · MerkleTells: laid · MerkleTrue: laid · MerkleChanged: laid.
  DERIVED. THE GIVEN ROWS OF THIS SEAT. 7 by the template 'for every input the law returns true; each argument reads behind the call as it read before'; 0 by the template 'total and deterministic' (their statements: YtfdgclnjpbkggaaDoorTotals.lean).
  GIVEN WITH THE SEED: the statements are not yours to turn. If you find one false, say at which input.
  Laid BY PROGRAM, IN A SANDBOX (cutbox-rows.mjs): the forced cells as the released guide's own fill.sh prints them over the translation 669738b60af1169a… (all of the seat's roots in one cut). By AI agents, Wed Nov 11 2026. No macro, syntax, notation, axiom, sorry.
-/
import Derived.Test.YtfdgclnjpbkggaaDoorChecked
import GoSem.Claim
import GoSem.ClaimJoined
import GoSem.ClaimMapViews
import Derived.JoinedTies
import Derived.KernelRfl
namespace Go.Proofs.YtfdgclnjpbkggaaDoor
/- THE CELL 'sum', in the pinned program and in every row, IS THE sha256 OF THE DUMP (.gsa) THAT YtfdgclnjpbkggaaDoorProg.lean LOADS. Nothing in Lean hashes anything: it is a label: what it is worth is what the hold of that sum in a sandbox is worth. -/
noncomputable def Tryd.pinned : Pinned := { name := "ytfdgclnjpbkggaadoor", sum := "669738b60af1169ad1f267e36bf27d89c923c78517d556f04c737848a7f4e998", checked := Tryd.checked }
namespace Rows
def none {H : Type} : Left H := { results := [], args := [] }

/- WHAT THE LISTED PACKAGE-LEVEL VARIABLES READ AS WHEN THE CALL BEGINS. Each datum BY PROGRAM (the guide's laid-datum.mjs) off the statement by which the dump's own 'gosem.cut.vars' lays the variable. In a bare row this is a premise. The card (YtfdgclnjpbkggaaDoorCards.lean) ties it to the program's text. -/
def laid_math_bits_deBruijn64tab {H : Type} : DataW H := .agg [.lit (.int .u8 0), .lit (.int .u8 1), .lit (.int .u8 56), .lit (.int .u8 2), .lit (.int .u8 57), .lit (.int .u8 49), .lit (.int .u8 28), .lit (.int .u8 3), .lit (.int .u8 61), .lit (.int .u8 58), .lit (.int .u8 42), .lit (.int .u8 50), .lit (.int .u8 38), .lit (.int .u8 29), .lit (.int .u8 17), .lit (.int .u8 4), .lit (.int .u8 62), .lit (.int .u8 47), .lit (.int .u8 59), .lit (.int .u8 36), .lit (.int .u8 45), .lit (.int .u8 43), .lit (.int .u8 51), .lit (.int .u8 22), .lit (.int .u8 53), .lit (.int .u8 39), .lit (.int .u8 33), .lit (.int .u8 30), .lit (.int .u8 24), .lit (.int .u8 18), .lit (.int .u8 12), .lit (.int .u8 5), .lit (.int .u8 63), .lit (.int .u8 55), .lit (.int .u8 48), .lit (.int .u8 27), .lit (.int .u8 60), .lit (.int .u8 41), .lit (.int .u8 37), .lit (.int .u8 16), .lit (.int .u8 46), .lit (.int .u8 35), .lit (.int .u8 44), .lit (.int .u8 21), .lit (.int .u8 52), .lit (.int .u8 32), .lit (.int .u8 23), .lit (.int .u8 11), .lit (.int .u8 54), .lit (.int .u8 26), .lit (.int .u8 40), .lit (.int .u8 15), .lit (.int .u8 34), .lit (.int .u8 20), .lit (.int .u8 31), .lit (.int .u8 10), .lit (.int .u8 25), .lit (.int .u8 14), .lit (.int .u8 19), .lit (.int .u8 9), .lit (.int .u8 13), .lit (.int .u8 8), .lit (.int .u8 7), .lit (.int .u8 6)]

/-- 'scrivenerlaw10.MerkleGoes': WHATEVER THE INPUT: true; the input reads as it did. -/
def merkleGoesSpec : ChangeSpec := { name := "merkleGoes", fn := fun _ => fun
  | [d1, d2] => { results := [.lit (.bool true)], args := [d1, d2] }
  | _ => none }
def merkleGoesRow : OpenClaim := { program := "ytfdgclnjpbkggaadoor", sum := "669738b60af1169ad1f267e36bf27d89c923c78517d556f04c737848a7f4e998", func := "scrivener/scrivenerlaw10.MerkleGoes", spec := "merkleGoes", recurses := true, named := ["math/bits.deBruijn64tab"], plainKeys := false, apart := false, laid := [("math/bits.deBruijn64tab", laid_math_bits_deBruijn64tab)] }
def MerkleGoesSaid : Prop := merkleGoesRow.holds Tryd.pinned (OpenSpec.ofChange merkleGoesSpec)

/-- ITS FALSE NEIGHBOUR: 'it returns false'. Refute it at one input. -/
def merkleGoesWrong : ChangeSpec := { name := "merkleGoes", fn := fun _ => fun
  | [d1, d2] => { results := [.lit (.bool false)], args := [d1, d2] }
  | _ => none }
def MerkleGoesWrongFalsely : Prop := merkleGoesRow.holds Tryd.pinned (OpenSpec.ofChange merkleGoesWrong)

/-- 'scrivenerlaw10.MerkleHalves': WHATEVER THE INPUT: true; the input reads as it did. -/
def merkleHalvesSpec : ChangeSpec := { name := "merkleHalves", fn := fun _ => fun
  | [d1, d2] => { results := [.lit (.bool true)], args := [d1, d2] }
  | _ => none }
def merkleHalvesRow : OpenClaim := { program := "ytfdgclnjpbkggaadoor", sum := "669738b60af1169ad1f267e36bf27d89c923c78517d556f04c737848a7f4e998", func := "scrivener/scrivenerlaw10.MerkleHalves", spec := "merkleHalves", recurses := true, named := ["math/bits.deBruijn64tab"], plainKeys := false, apart := false, laid := [("math/bits.deBruijn64tab", laid_math_bits_deBruijn64tab)] }
def MerkleHalvesSaid : Prop := merkleHalvesRow.holds Tryd.pinned (OpenSpec.ofChange merkleHalvesSpec)

/-- ITS FALSE NEIGHBOUR: 'it returns false'. Refute it at one input. -/
def merkleHalvesWrong : ChangeSpec := { name := "merkleHalves", fn := fun _ => fun
  | [d1, d2] => { results := [.lit (.bool false)], args := [d1, d2] }
  | _ => none }
def MerkleHalvesWrongFalsely : Prop := merkleHalvesRow.holds Tryd.pinned (OpenSpec.ofChange merkleHalvesWrong)

/-- 'scrivenerlaw10.MerkleProves': WHATEVER THE INPUT: true; the input reads as it did. -/
def merkleProvesSpec : ChangeSpec := { name := "merkleProves", fn := fun _ => fun
  | [d1, d2, d3, d4] => { results := [.lit (.bool true)], args := [d1, d2, d3, d4] }
  | _ => none }
def merkleProvesRow : OpenClaim := { program := "ytfdgclnjpbkggaadoor", sum := "669738b60af1169ad1f267e36bf27d89c923c78517d556f04c737848a7f4e998", func := "scrivener/scrivenerlaw10.MerkleProves", spec := "merkleProves", recurses := true, named := ["math/bits.deBruijn64tab"], plainKeys := false, apart := false, laid := [("math/bits.deBruijn64tab", laid_math_bits_deBruijn64tab)] }
def MerkleProvesSaid : Prop := merkleProvesRow.holds Tryd.pinned (OpenSpec.ofChange merkleProvesSpec)

/-- ITS FALSE NEIGHBOUR: 'it returns false'. Refute it at one input. -/
def merkleProvesWrong : ChangeSpec := { name := "merkleProves", fn := fun _ => fun
  | [d1, d2, d3, d4] => { results := [.lit (.bool false)], args := [d1, d2, d3, d4] }
  | _ => none }
def MerkleProvesWrongFalsely : Prop := merkleProvesRow.holds Tryd.pinned (OpenSpec.ofChange merkleProvesWrong)

/-- 'scrivenerlaw10.MerkleOfNothing': WHATEVER THE INPUT: true; the input reads as it did. -/
def merkleOfNothingSpec : ChangeSpec := { name := "merkleOfNothing", fn := fun _ => fun
  | [d1, d2] => { results := [.lit (.bool true)], args := [d1, d2] }
  | _ => none }
def merkleOfNothingRow : OpenClaim := { program := "ytfdgclnjpbkggaadoor", sum := "669738b60af1169ad1f267e36bf27d89c923c78517d556f04c737848a7f4e998", func := "scrivener/scrivenerlaw10.MerkleOfNothing", spec := "merkleOfNothing", recurses := true, named := ["math/bits.deBruijn64tab"], plainKeys := false, apart := false, laid := [("math/bits.deBruijn64tab", laid_math_bits_deBruijn64tab)] }
def MerkleOfNothingSaid : Prop := merkleOfNothingRow.holds Tryd.pinned (OpenSpec.ofChange merkleOfNothingSpec)

/-- ITS FALSE NEIGHBOUR: 'it returns false'. Refute it at one input. -/
def merkleOfNothingWrong : ChangeSpec := { name := "merkleOfNothing", fn := fun _ => fun
  | [d1, d2] => { results := [.lit (.bool false)], args := [d1, d2] }
  | _ => none }
def MerkleOfNothingWrongFalsely : Prop := merkleOfNothingRow.holds Tryd.pinned (OpenSpec.ofChange merkleOfNothingWrong)

/-- 'scrivenerlaw10.MerkleTells': WHATEVER THE INPUT: true; the input reads as it did. -/
def merkleTellsSpec : ChangeSpec := { name := "merkleTells", fn := fun _ => fun
  | [d1, d2, d3, d4, d5, d6, d7] => { results := [.lit (.bool true)], args := [d1, d2, d3, d4, d5, d6, d7] }
  | _ => none }
def merkleTellsRow : OpenClaim := { program := "ytfdgclnjpbkggaadoor", sum := "669738b60af1169ad1f267e36bf27d89c923c78517d556f04c737848a7f4e998", func := "scrivener/scrivenerlaw10.MerkleTells", spec := "merkleTells", recurses := true, named := ["math/bits.deBruijn64tab"], plainKeys := false, apart := false, laid := [("math/bits.deBruijn64tab", laid_math_bits_deBruijn64tab)] }
def MerkleTellsSaid : Prop := merkleTellsRow.holds Tryd.pinned (OpenSpec.ofChange merkleTellsSpec)

/-- ITS FALSE NEIGHBOUR: 'it returns false'. Refute it at one input. -/
def merkleTellsWrong : ChangeSpec := { name := "merkleTells", fn := fun _ => fun
  | [d1, d2, d3, d4, d5, d6, d7] => { results := [.lit (.bool false)], args := [d1, d2, d3, d4, d5, d6, d7] }
  | _ => none }
def MerkleTellsWrongFalsely : Prop := merkleTellsRow.holds Tryd.pinned (OpenSpec.ofChange merkleTellsWrong)

/-- 'scrivenerlaw10.MerkleTrue': WHATEVER THE INPUT: true; the input reads as it did. -/
def merkleTrueSpec : ChangeSpec := { name := "merkleTrue", fn := fun _ => fun
  | [d1, d2, d3, d4] => { results := [.lit (.bool true)], args := [d1, d2, d3, d4] }
  | _ => none }
def merkleTrueRow : OpenClaim := { program := "ytfdgclnjpbkggaadoor", sum := "669738b60af1169ad1f267e36bf27d89c923c78517d556f04c737848a7f4e998", func := "scrivener/scrivenerlaw10.MerkleTrue", spec := "merkleTrue", recurses := true, named := ["math/bits.deBruijn64tab"], plainKeys := false, apart := false, laid := [("math/bits.deBruijn64tab", laid_math_bits_deBruijn64tab)] }
def MerkleTrueSaid : Prop := merkleTrueRow.holds Tryd.pinned (OpenSpec.ofChange merkleTrueSpec)

/-- ITS FALSE NEIGHBOUR: 'it returns false'. Refute it at one input. -/
def merkleTrueWrong : ChangeSpec := { name := "merkleTrue", fn := fun _ => fun
  | [d1, d2, d3, d4] => { results := [.lit (.bool false)], args := [d1, d2, d3, d4] }
  | _ => none }
def MerkleTrueWrongFalsely : Prop := merkleTrueRow.holds Tryd.pinned (OpenSpec.ofChange merkleTrueWrong)

/-- 'scrivenerlaw10.MerkleChanged': WHATEVER THE INPUT: true; the input reads as it did. -/
def merkleChangedSpec : ChangeSpec := { name := "merkleChanged", fn := fun _ => fun
  | [d1, d2, d3, d4, d5, d6] => { results := [.lit (.bool true)], args := [d1, d2, d3, d4, d5, d6] }
  | _ => none }
def merkleChangedRow : OpenClaim := { program := "ytfdgclnjpbkggaadoor", sum := "669738b60af1169ad1f267e36bf27d89c923c78517d556f04c737848a7f4e998", func := "scrivener/scrivenerlaw10.MerkleChanged", spec := "merkleChanged", recurses := true, named := ["math/bits.deBruijn64tab"], plainKeys := false, apart := false, laid := [("math/bits.deBruijn64tab", laid_math_bits_deBruijn64tab)] }
def MerkleChangedSaid : Prop := merkleChangedRow.holds Tryd.pinned (OpenSpec.ofChange merkleChangedSpec)

/-- ITS FALSE NEIGHBOUR: 'it returns false'. Refute it at one input. -/
def merkleChangedWrong : ChangeSpec := { name := "merkleChanged", fn := fun _ => fun
  | [d1, d2, d3, d4, d5, d6] => { results := [.lit (.bool false)], args := [d1, d2, d3, d4, d5, d6] }
  | _ => none }
def MerkleChangedWrongFalsely : Prop := merkleChangedRow.holds Tryd.pinned (OpenSpec.ofChange merkleChangedWrong)

/- THE SECOND FORM. 'bulk': how many values and letters a reading holds, each counted each time it is reached (what is shared counts as often as it is met; a slice's spare places count too). A statement '..UptoSaid' is the law's where the arguments, and the package variables that the reading takes, are together of bulk at most 1048576: NARROWER than '..Said'. Prove '..Said' where nothing that the law and all that it calls make is longer than what came in: it says more and counts as full. Else prove '..UptoSaid'. A law counts once. -/
mutual
def uptoBulk {H : Type} : DataW H → Nat
  | .lit (.string bytes) => bytes.length + 1
  | .lit _ => 1
  | .nil => 1
  | .ptr d => uptoBulk d + 1
  | .slice elems spare => uptoBulkAll elems + uptoBulkAll spare + 1
  | .agg parts => uptoBulkAll parts + 1
  | .iface _ d => uptoBulk d + 1
  | .map entries => uptoBulkEntries entries + 1
  | .held _ => 1
def uptoBulkAll {H : Type} : List (DataW H) → Nat
  | [] => 0
  | d :: r => uptoBulk d + uptoBulkAll r
def uptoBulkEntries {H : Type} : List (Lit × DataW H) → Nat
  | [] => 0
  | x :: r => uptoBulkEntry x + uptoBulkEntries r
def uptoBulkEntry {H : Type} : Lit × DataW H → Nat
  | (.string bytes, d) => bytes.length + uptoBulk d + 1
  | (_, d) => uptoBulk d + 1
 end
def uptoSmall : (H : Type) → List (DataW H) → Bool := fun _ ds => decide (uptoBulkAll ds ≤ 1048576)
def OpenSpec.upto (s : _root_.Go.ChangeSpec) : _root_.Go.OpenSpec := { _root_.Go.OpenSpec.ofChange s with cond := some uptoSmall }

/-- 'scrivenerlaw10.MerkleGoes', WHERE WHAT IT READS IS OF BULK AT MOST 1048576: true; the input reads as it did. -/
def merkleGoesUptoRow : OpenClaim := { program := "ytfdgclnjpbkggaadoor", sum := "669738b60af1169ad1f267e36bf27d89c923c78517d556f04c737848a7f4e998", func := "scrivener/scrivenerlaw10.MerkleGoes", spec := "merkleGoes", recurses := true, named := ["math/bits.deBruijn64tab"], plainKeys := false, apart := false, laid := [("math/bits.deBruijn64tab", laid_math_bits_deBruijn64tab)], narrowed := true }
def MerkleGoesUptoSaid : Prop := merkleGoesUptoRow.holds Tryd.pinned (OpenSpec.upto merkleGoesSpec)

/-- 'scrivenerlaw10.MerkleHalves', WHERE WHAT IT READS IS OF BULK AT MOST 1048576: true; the input reads as it did. -/
def merkleHalvesUptoRow : OpenClaim := { program := "ytfdgclnjpbkggaadoor", sum := "669738b60af1169ad1f267e36bf27d89c923c78517d556f04c737848a7f4e998", func := "scrivener/scrivenerlaw10.MerkleHalves", spec := "merkleHalves", recurses := true, named := ["math/bits.deBruijn64tab"], plainKeys := false, apart := false, laid := [("math/bits.deBruijn64tab", laid_math_bits_deBruijn64tab)], narrowed := true }
def MerkleHalvesUptoSaid : Prop := merkleHalvesUptoRow.holds Tryd.pinned (OpenSpec.upto merkleHalvesSpec)

/-- 'scrivenerlaw10.MerkleProves', WHERE WHAT IT READS IS OF BULK AT MOST 1048576: true; the input reads as it did. -/
def merkleProvesUptoRow : OpenClaim := { program := "ytfdgclnjpbkggaadoor", sum := "669738b60af1169ad1f267e36bf27d89c923c78517d556f04c737848a7f4e998", func := "scrivener/scrivenerlaw10.MerkleProves", spec := "merkleProves", recurses := true, named := ["math/bits.deBruijn64tab"], plainKeys := false, apart := false, laid := [("math/bits.deBruijn64tab", laid_math_bits_deBruijn64tab)], narrowed := true }
def MerkleProvesUptoSaid : Prop := merkleProvesUptoRow.holds Tryd.pinned (OpenSpec.upto merkleProvesSpec)

/-- 'scrivenerlaw10.MerkleOfNothing', WHERE WHAT IT READS IS OF BULK AT MOST 1048576: true; the input reads as it did. -/
def merkleOfNothingUptoRow : OpenClaim := { program := "ytfdgclnjpbkggaadoor", sum := "669738b60af1169ad1f267e36bf27d89c923c78517d556f04c737848a7f4e998", func := "scrivener/scrivenerlaw10.MerkleOfNothing", spec := "merkleOfNothing", recurses := true, named := ["math/bits.deBruijn64tab"], plainKeys := false, apart := false, laid := [("math/bits.deBruijn64tab", laid_math_bits_deBruijn64tab)], narrowed := true }
def MerkleOfNothingUptoSaid : Prop := merkleOfNothingUptoRow.holds Tryd.pinned (OpenSpec.upto merkleOfNothingSpec)

/-- 'scrivenerlaw10.MerkleTells', WHERE WHAT IT READS IS OF BULK AT MOST 1048576: true; the input reads as it did. -/
def merkleTellsUptoRow : OpenClaim := { program := "ytfdgclnjpbkggaadoor", sum := "669738b60af1169ad1f267e36bf27d89c923c78517d556f04c737848a7f4e998", func := "scrivener/scrivenerlaw10.MerkleTells", spec := "merkleTells", recurses := true, named := ["math/bits.deBruijn64tab"], plainKeys := false, apart := false, laid := [("math/bits.deBruijn64tab", laid_math_bits_deBruijn64tab)], narrowed := true }
def MerkleTellsUptoSaid : Prop := merkleTellsUptoRow.holds Tryd.pinned (OpenSpec.upto merkleTellsSpec)

/-- 'scrivenerlaw10.MerkleTrue', WHERE WHAT IT READS IS OF BULK AT MOST 1048576: true; the input reads as it did. -/
def merkleTrueUptoRow : OpenClaim := { program := "ytfdgclnjpbkggaadoor", sum := "669738b60af1169ad1f267e36bf27d89c923c78517d556f04c737848a7f4e998", func := "scrivener/scrivenerlaw10.MerkleTrue", spec := "merkleTrue", recurses := true, named := ["math/bits.deBruijn64tab"], plainKeys := false, apart := false, laid := [("math/bits.deBruijn64tab", laid_math_bits_deBruijn64tab)], narrowed := true }
def MerkleTrueUptoSaid : Prop := merkleTrueUptoRow.holds Tryd.pinned (OpenSpec.upto merkleTrueSpec)

/-- 'scrivenerlaw10.MerkleChanged', WHERE WHAT IT READS IS OF BULK AT MOST 1048576: true; the input reads as it did. -/
def merkleChangedUptoRow : OpenClaim := { program := "ytfdgclnjpbkggaadoor", sum := "669738b60af1169ad1f267e36bf27d89c923c78517d556f04c737848a7f4e998", func := "scrivener/scrivenerlaw10.MerkleChanged", spec := "merkleChanged", recurses := true, named := ["math/bits.deBruijn64tab"], plainKeys := false, apart := false, laid := [("math/bits.deBruijn64tab", laid_math_bits_deBruijn64tab)], narrowed := true }
def MerkleChangedUptoSaid : Prop := merkleChangedUptoRow.holds Tryd.pinned (OpenSpec.upto merkleChangedSpec)

end Rows
end Go.Proofs.YtfdgclnjpbkggaaDoor
