/-
  DERIVED. GIVEN WITH THE SEED: THE CARDS: each row of YtlamdhekjlnccaaGreatDoorRows.lean that lists a variable, with what it lists TIED to the program's text (the seventh form; the later family's looks); each row that meets fmt, with fmt's text TOLD by the authors' own Lean function (tested against real Go, not proved from fmt's source: count such statements apart). THE CARD IS WHAT COUNTS. Prove the row's statement (the work); the ties are given (YtlamdhekjlnccaaGreatDoorTie.lean); close each card by the builder's one call (the guide's Derived/Test/ToyasCard.lean, 'card_holds'). Laid BY PROGRAM, IN A SANDBOX (cutbox-door.mjs). By AI agents, Wed Nov 11 2026. No macro, syntax, notation, axiom, sorry.
-/
import Derived.Test.YtlamdhekjlnccaaGreatDoorRows
import GoSem.ClaimSeven
namespace Go.Proofs.YtlamdhekjlnccaaGreatDoor
namespace Rows

/-- THE TIED CARD OF 'scrivenerlaw11.BlockChecks'. -/
def blockChecksCard : Claim7 := { stood := { row := blockChecksRow, standIns := [], harness := (true, "5b8e71136d18ad0beb00200b58e3df34c33f2e0ff157dfff6c07f73d723e1b9a"), looks := false }, kinds := [], alts := [], laidByText := true, laidKinds := [.data], laidTests := true, laidLooks := .later }
def BlockChecksCardSaid : Prop := Claim7.holds Tryz.pinned (.plain (OpenSpec.ofChange blockChecksSpec)) blockChecksCard

/-- THE TIED CARD OF 'scrivenerlaw11.BlockRedacts'. -/
def blockRedactsCard : Claim7 := { stood := { row := blockRedactsRow, standIns := [], harness := (true, "5b8e71136d18ad0beb00200b58e3df34c33f2e0ff157dfff6c07f73d723e1b9a"), looks := false }, kinds := [], alts := [], laidByText := true, laidKinds := [.data], laidTests := true, laidLooks := .later }
def BlockRedactsCardSaid : Prop := Claim7.holds Tryz.pinned (.plain (OpenSpec.ofChange blockRedactsSpec)) blockRedactsCard

/-- THE SECOND FORM's CARD OF 'scrivenerlaw11.BlockChecks'. -/
def blockChecksUptoCard : Claim7 := { stood := { row := blockChecksUptoRow, standIns := [], harness := (true, "5b8e71136d18ad0beb00200b58e3df34c33f2e0ff157dfff6c07f73d723e1b9a"), looks := false }, kinds := [], alts := [], laidByText := true, laidKinds := [.data], laidTests := true, laidLooks := .later }
def BlockChecksUptoCardSaid : Prop := Claim7.holds Tryz.pinned (.plain (OpenSpec.upto blockChecksSpec)) blockChecksUptoCard

/-- THE SECOND FORM's CARD OF 'scrivenerlaw11.BlockRedacts'. -/
def blockRedactsUptoCard : Claim7 := { stood := { row := blockRedactsUptoRow, standIns := [], harness := (true, "5b8e71136d18ad0beb00200b58e3df34c33f2e0ff157dfff6c07f73d723e1b9a"), looks := false }, kinds := [], alts := [], laidByText := true, laidKinds := [.data], laidTests := true, laidLooks := .later }
def BlockRedactsUptoCardSaid : Prop := Claim7.holds Tryz.pinned (.plain (OpenSpec.upto blockRedactsSpec)) blockRedactsUptoCard
end Rows
end Go.Proofs.YtlamdhekjlnccaaGreatDoor
