/-
  DERIVED. GIVEN WITH THE SEED: THE CARDS: each row of YtlamdhekjlnccaaDoorRows.lean that lists a variable, with what it lists TIED to the program's text (the seventh form; the later family's looks); each row that meets fmt, with fmt's text TOLD by the authors' own Lean function (tested against real Go, not proved from fmt's source: count such statements apart). THE CARD IS WHAT COUNTS. Prove the row's statement (the work); the ties are given (YtlamdhekjlnccaaDoorTie.lean); close each card by the builder's one call (the guide's Derived/Test/ToyasCard.lean, 'card_holds'). Laid BY PROGRAM, IN A SANDBOX (cutbox-door.mjs). By AI agents, Wed Nov 11 2026. No macro, syntax, notation, axiom, sorry.
-/
import Derived.Test.YtlamdhekjlnccaaDoorRows
import GoSem.ClaimSeven
namespace Go.Proofs.YtlamdhekjlnccaaDoor
namespace Rows

/-- THE TIED CARD OF 'scrivenerlaw11.BlockJoins'. -/
def blockJoinsCard : Claim7 := { stood := { row := blockJoinsRow, standIns := [], harness := (true, "84a6f94ee7ef8a3ee10fb84961d244daa4941039294a535ba3205dc60f92636a"), looks := false }, kinds := [], alts := [], laidByText := true, laidKinds := [.data], laidTests := true, laidLooks := .later }
def BlockJoinsCardSaid : Prop := Claim7.holds Tryd.pinned (.plain (OpenSpec.ofChange blockJoinsSpec)) blockJoinsCard

/-- THE TIED CARD OF 'scrivenerlaw11.BlockBack'. -/
def blockBackCard : Claim7 := { stood := { row := blockBackRow, standIns := [], harness := (true, "84a6f94ee7ef8a3ee10fb84961d244daa4941039294a535ba3205dc60f92636a"), looks := false }, kinds := [], alts := [], laidByText := true, laidKinds := [.data], laidTests := true, laidLooks := .later }
def BlockBackCardSaid : Prop := Claim7.holds Tryd.pinned (.plain (OpenSpec.ofChange blockBackSpec)) blockBackCard

/-- THE SECOND FORM's CARD OF 'scrivenerlaw11.BlockJoins'. -/
def blockJoinsUptoCard : Claim7 := { stood := { row := blockJoinsUptoRow, standIns := [], harness := (true, "84a6f94ee7ef8a3ee10fb84961d244daa4941039294a535ba3205dc60f92636a"), looks := false }, kinds := [], alts := [], laidByText := true, laidKinds := [.data], laidTests := true, laidLooks := .later }
def BlockJoinsUptoCardSaid : Prop := Claim7.holds Tryd.pinned (.plain (OpenSpec.upto blockJoinsSpec)) blockJoinsUptoCard

/-- THE SECOND FORM's CARD OF 'scrivenerlaw11.BlockBack'. -/
def blockBackUptoCard : Claim7 := { stood := { row := blockBackUptoRow, standIns := [], harness := (true, "84a6f94ee7ef8a3ee10fb84961d244daa4941039294a535ba3205dc60f92636a"), looks := false }, kinds := [], alts := [], laidByText := true, laidKinds := [.data], laidTests := true, laidLooks := .later }
def BlockBackUptoCardSaid : Prop := Claim7.holds Tryd.pinned (.plain (OpenSpec.upto blockBackSpec)) blockBackUptoCard
end Rows
end Go.Proofs.YtlamdhekjlnccaaDoor
