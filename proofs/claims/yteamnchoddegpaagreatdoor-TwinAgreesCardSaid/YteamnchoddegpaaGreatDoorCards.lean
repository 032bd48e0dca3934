/-
  DERIVED. GIVEN WITH THE SEED: THE CARDS: each row of YteamnchoddegpaaGreatDoorRows.lean that lists a variable, with what it lists TIED to the program's text (the seventh form; the later family's looks); each row that meets fmt, with fmt's text TOLD by the authors' own Lean function (tested against real Go, not proved from fmt's source: count such statements apart). THE CARD IS WHAT COUNTS. Prove the row's statement (the work); the ties are given (YteamnchoddegpaaGreatDoorTie.lean); close each card by the builder's one call (the guide's Derived/Test/ToyasCard.lean, 'card_holds'). Laid BY PROGRAM, IN A SANDBOX (cutbox-door.mjs). By AI agents, Wed Nov 11 2026. No macro, syntax, notation, axiom, sorry.
-/
import Derived.Test.YteamnchoddegpaaGreatDoorRows
import GoSem.ClaimSeven
namespace Go.Proofs.YteamnchoddegpaaGreatDoor
namespace Rows

/-- THE TIED CARD OF 'weepholelaw35.TwinTerms'. -/
def twinTermsCard : Claim7 := { stood := { row := twinTermsRow, standIns := [], harness := (true, "3a273bec0d5f1a3225223ada7b7517f97e4b07e825736f4dc0f46d8dc8118652"), looks := true }, kinds := [], alts := [], laidByText := true, laidKinds := [.data], laidTests := true, laidLooks := .later }
def TwinTermsCardSaid : Prop := Claim7.holds Tryz.pinned (.plain (OpenSpec.ofChange twinTermsSpec)) twinTermsCard

/-- THE TIED CARD OF 'weepholelaw35.TwinExamples'. -/
def twinExamplesCard : Claim7 := { stood := { row := twinExamplesRow, standIns := [], harness := (true, "3a273bec0d5f1a3225223ada7b7517f97e4b07e825736f4dc0f46d8dc8118652"), looks := true }, kinds := [], alts := [], laidByText := true, laidKinds := [.data], laidTests := true, laidLooks := .later }
def TwinExamplesCardSaid : Prop := Claim7.holds Tryz.pinned (.plain (OpenSpec.ofChange twinExamplesSpec)) twinExamplesCard

/-- THE TIED CARD OF 'weepholelaw35.TwinAgrees'. -/
def twinAgreesCard : Claim7 := { stood := { row := twinAgreesRow, standIns := [], harness := (true, "3a273bec0d5f1a3225223ada7b7517f97e4b07e825736f4dc0f46d8dc8118652"), looks := true }, kinds := [], alts := [], laidByText := true, laidKinds := [.data], laidTests := true, laidLooks := .later }
def TwinAgreesCardSaid : Prop := Claim7.holds Tryz.pinned (.plain (OpenSpec.ofChange twinAgreesSpec)) twinAgreesCard

/-- THE SECOND FORM's CARD OF 'weepholelaw35.TwinTerms'. -/
def twinTermsUptoCard : Claim7 := { stood := { row := twinTermsUptoRow, standIns := [], harness := (true, "3a273bec0d5f1a3225223ada7b7517f97e4b07e825736f4dc0f46d8dc8118652"), looks := true }, kinds := [], alts := [], laidByText := true, laidKinds := [.data], laidTests := true, laidLooks := .later }
def TwinTermsUptoCardSaid : Prop := Claim7.holds Tryz.pinned (.plain (OpenSpec.upto twinTermsSpec)) twinTermsUptoCard

/-- THE SECOND FORM's CARD OF 'weepholelaw35.TwinExamples'. -/
def twinExamplesUptoCard : Claim7 := { stood := { row := twinExamplesUptoRow, standIns := [], harness := (true, "3a273bec0d5f1a3225223ada7b7517f97e4b07e825736f4dc0f46d8dc8118652"), looks := true }, kinds := [], alts := [], laidByText := true, laidKinds := [.data], laidTests := true, laidLooks := .later }
def TwinExamplesUptoCardSaid : Prop := Claim7.holds Tryz.pinned (.plain (OpenSpec.upto twinExamplesSpec)) twinExamplesUptoCard

/-- THE SECOND FORM's CARD OF 'weepholelaw35.TwinAgrees'. -/
def twinAgreesUptoCard : Claim7 := { stood := { row := twinAgreesUptoRow, standIns := [], harness := (true, "3a273bec0d5f1a3225223ada7b7517f97e4b07e825736f4dc0f46d8dc8118652"), looks := true }, kinds := [], alts := [], laidByText := true, laidKinds := [.data], laidTests := true, laidLooks := .later }
def TwinAgreesUptoCardSaid : Prop := Claim7.holds Tryz.pinned (.plain (OpenSpec.upto twinAgreesSpec)) twinAgreesUptoCard
end Rows
end Go.Proofs.YteamnchoddegpaaGreatDoor
