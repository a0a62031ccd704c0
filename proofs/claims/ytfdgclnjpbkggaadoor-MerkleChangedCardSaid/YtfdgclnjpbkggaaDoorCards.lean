/-
  DERIVED. GIVEN WITH THE SEED: THE CARDS: each row of YtfdgclnjpbkggaaDoorRows.lean that lists a variable, with what it lists TIED to the program's text (the seventh form; the later family's looks); each row that meets fmt, with fmt's text TOLD by the authors' own Lean function (tested against real Go, not proved from fmt's source: count such statements apart). THE CARD IS WHAT COUNTS. Prove the row's statement (the work); the ties are given (YtfdgclnjpbkggaaDoorTie.lean); close each card by the builder's one call (the guide's Derived/Test/ToyasCard.lean, 'card_holds'). Laid BY PROGRAM, IN A SANDBOX (cutbox-door.mjs). By AI agents, Wed Nov 11 2026. No macro, syntax, notation, axiom, sorry.
-/
import Derived.Test.YtfdgclnjpbkggaaDoorRows
import GoSem.ClaimSeven
namespace Go.Proofs.YtfdgclnjpbkggaaDoor
namespace Rows

/-- THE TIED CARD OF 'scrivenerlaw10.MerkleGoes'. -/
def merkleGoesCard : Claim7 := { stood := { row := merkleGoesRow, standIns := [], harness := (true, "d27f8bedd472458bb197eecc3c7886cf81ad732b2d8a2ac8f0ed9da47057ebeb"), looks := false }, kinds := [], alts := [], laidByText := true, laidKinds := [.data], laidTests := true, laidLooks := .later }
def MerkleGoesCardSaid : Prop := Claim7.holds Tryd.pinned (.plain (OpenSpec.ofChange merkleGoesSpec)) merkleGoesCard

/-- THE TIED CARD OF 'scrivenerlaw10.MerkleHalves'. -/
def merkleHalvesCard : Claim7 := { stood := { row := merkleHalvesRow, standIns := [], harness := (true, "d27f8bedd472458bb197eecc3c7886cf81ad732b2d8a2ac8f0ed9da47057ebeb"), looks := false }, kinds := [], alts := [], laidByText := true, laidKinds := [.data], laidTests := true, laidLooks := .later }
def MerkleHalvesCardSaid : Prop := Claim7.holds Tryd.pinned (.plain (OpenSpec.ofChange merkleHalvesSpec)) merkleHalvesCard

/-- THE TIED CARD OF 'scrivenerlaw10.MerkleProves'. -/
def merkleProvesCard : Claim7 := { stood := { row := merkleProvesRow, standIns := [], harness := (true, "d27f8bedd472458bb197eecc3c7886cf81ad732b2d8a2ac8f0ed9da47057ebeb"), looks := false }, kinds := [], alts := [], laidByText := true, laidKinds := [.data], laidTests := true, laidLooks := .later }
def MerkleProvesCardSaid : Prop := Claim7.holds Tryd.pinned (.plain (OpenSpec.ofChange merkleProvesSpec)) merkleProvesCard

/-- THE TIED CARD OF 'scrivenerlaw10.MerkleOfNothing'. -/
def merkleOfNothingCard : Claim7 := { stood := { row := merkleOfNothingRow, standIns := [], harness := (true, "d27f8bedd472458bb197eecc3c7886cf81ad732b2d8a2ac8f0ed9da47057ebeb"), looks := false }, kinds := [], alts := [], laidByText := true, laidKinds := [.data], laidTests := true, laidLooks := .later }
def MerkleOfNothingCardSaid : Prop := Claim7.holds Tryd.pinned (.plain (OpenSpec.ofChange merkleOfNothingSpec)) merkleOfNothingCard

/-- THE TIED CARD OF 'scrivenerlaw10.MerkleTells'. -/
def merkleTellsCard : Claim7 := { stood := { row := merkleTellsRow, standIns := [], harness := (true, "d27f8bedd472458bb197eecc3c7886cf81ad732b2d8a2ac8f0ed9da47057ebeb"), looks := false }, kinds := [], alts := [], laidByText := true, laidKinds := [.data], laidTests := true, laidLooks := .later }
def MerkleTellsCardSaid : Prop := Claim7.holds Tryd.pinned (.plain (OpenSpec.ofChange merkleTellsSpec)) merkleTellsCard

/-- THE TIED CARD OF 'scrivenerlaw10.MerkleTrue'. -/
def merkleTrueCard : Claim7 := { stood := { row := merkleTrueRow, standIns := [], harness := (true, "d27f8bedd472458bb197eecc3c7886cf81ad732b2d8a2ac8f0ed9da47057ebeb"), looks := false }, kinds := [], alts := [], laidByText := true, laidKinds := [.data], laidTests := true, laidLooks := .later }
def MerkleTrueCardSaid : Prop := Claim7.holds Tryd.pinned (.plain (OpenSpec.ofChange merkleTrueSpec)) merkleTrueCard

/-- THE TIED CARD OF 'scrivenerlaw10.MerkleChanged'. -/
def merkleChangedCard : Claim7 := { stood := { row := merkleChangedRow, standIns := [], harness := (true, "d27f8bedd472458bb197eecc3c7886cf81ad732b2d8a2ac8f0ed9da47057ebeb"), looks := false }, kinds := [], alts := [], laidByText := true, laidKinds := [.data], laidTests := true, laidLooks := .later }
def MerkleChangedCardSaid : Prop := Claim7.holds Tryd.pinned (.plain (OpenSpec.ofChange merkleChangedSpec)) merkleChangedCard

/-- THE SECOND FORM's CARD OF 'scrivenerlaw10.MerkleGoes'. -/
def merkleGoesUptoCard : Claim7 := { stood := { row := merkleGoesUptoRow, standIns := [], harness := (true, "d27f8bedd472458bb197eecc3c7886cf81ad732b2d8a2ac8f0ed9da47057ebeb"), looks := false }, kinds := [], alts := [], laidByText := true, laidKinds := [.data], laidTests := true, laidLooks := .later }
def MerkleGoesUptoCardSaid : Prop := Claim7.holds Tryd.pinned (.plain (OpenSpec.upto merkleGoesSpec)) merkleGoesUptoCard

/-- THE SECOND FORM's CARD OF 'scrivenerlaw10.MerkleHalves'. -/
def merkleHalvesUptoCard : Claim7 := { stood := { row := merkleHalvesUptoRow, standIns := [], harness := (true, "d27f8bedd472458bb197eecc3c7886cf81ad732b2d8a2ac8f0ed9da47057ebeb"), looks := false }, kinds := [], alts := [], laidByText := true, laidKinds := [.data], laidTests := true, laidLooks := .later }
def MerkleHalvesUptoCardSaid : Prop := Claim7.holds Tryd.pinned (.plain (OpenSpec.upto merkleHalvesSpec)) merkleHalvesUptoCard

/-- THE SECOND FORM's CARD OF 'scrivenerlaw10.MerkleProves'. -/
def merkleProvesUptoCard : Claim7 := { stood := { row := merkleProvesUptoRow, standIns := [], harness := (true, "d27f8bedd472458bb197eecc3c7886cf81ad732b2d8a2ac8f0ed9da47057ebeb"), looks := false }, kinds := [], alts := [], laidByText := true, laidKinds := [.data], laidTests := true, laidLooks := .later }
def MerkleProvesUptoCardSaid : Prop := Claim7.holds Tryd.pinned (.plain (OpenSpec.upto merkleProvesSpec)) merkleProvesUptoCard

/-- THE SECOND FORM's CARD OF 'scrivenerlaw10.MerkleOfNothing'. -/
def merkleOfNothingUptoCard : Claim7 := { stood := { row := merkleOfNothingUptoRow, standIns := [], harness := (true, "d27f8bedd472458bb197eecc3c7886cf81ad732b2d8a2ac8f0ed9da47057ebeb"), looks := false }, kinds := [], alts := [], laidByText := true, laidKinds := [.data], laidTests := true, laidLooks := .later }
def MerkleOfNothingUptoCardSaid : Prop := Claim7.holds Tryd.pinned (.plain (OpenSpec.upto merkleOfNothingSpec)) merkleOfNothingUptoCard

/-- THE SECOND FORM's CARD OF 'scrivenerlaw10.MerkleTells'. -/
def merkleTellsUptoCard : Claim7 := { stood := { row := merkleTellsUptoRow, standIns := [], harness := (true, "d27f8bedd472458bb197eecc3c7886cf81ad732b2d8a2ac8f0ed9da47057ebeb"), looks := false }, kinds := [], alts := [], laidByText := true, laidKinds := [.data], laidTests := true, laidLooks := .later }
def MerkleTellsUptoCardSaid : Prop := Claim7.holds Tryd.pinned (.plain (OpenSpec.upto merkleTellsSpec)) merkleTellsUptoCard

/-- THE SECOND FORM's CARD OF 'scrivenerlaw10.MerkleTrue'. -/
def merkleTrueUptoCard : Claim7 := { stood := { row := merkleTrueUptoRow, standIns := [], harness := (true, "d27f8bedd472458bb197eecc3c7886cf81ad732b2d8a2ac8f0ed9da47057ebeb"), looks := false }, kinds := [], alts := [], laidByText := true, laidKinds := [.data], laidTests := true, laidLooks := .later }
def MerkleTrueUptoCardSaid : Prop := Claim7.holds Tryd.pinned (.plain (OpenSpec.upto merkleTrueSpec)) merkleTrueUptoCard

/-- THE SECOND FORM's CARD OF 'scrivenerlaw10.MerkleChanged'. -/
def merkleChangedUptoCard : Claim7 := { stood := { row := merkleChangedUptoRow, standIns := [], harness := (true, "d27f8bedd472458bb197eecc3c7886cf81ad732b2d8a2ac8f0ed9da47057ebeb"), looks := false }, kinds := [], alts := [], laidByText := true, laidKinds := [.data], laidTests := true, laidLooks := .later }
def MerkleChangedUptoCardSaid : Prop := Claim7.holds Tryd.pinned (.plain (OpenSpec.upto merkleChangedSpec)) merkleChangedUptoCard
end Rows
end Go.Proofs.YtfdgclnjpbkggaaDoor
