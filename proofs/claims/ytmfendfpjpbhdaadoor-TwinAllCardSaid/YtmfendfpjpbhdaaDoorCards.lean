/-
  DERIVED. GIVEN WITH THE SEED: THE CARDS: each row of YtmfendfpjpbhdaaDoorRows.lean that lists a variable, with what it lists TIED to the program's text (the seventh form; the later family's looks); each row that meets fmt, with fmt's text TOLD by the authors' own Lean function (tested against real Go, not proved from fmt's source: count such statements apart). THE CARD IS WHAT COUNTS. Prove the row's statement (the work); the ties are given (YtmfendfpjpbhdaaDoorTie.lean); close each card by the builder's one call (the guide's Derived/Test/ToyasCard.lean, 'card_holds'). Laid BY PROGRAM, IN A SANDBOX (cutbox-door.mjs). By AI agents, Wed Nov 11 2026. No macro, syntax, notation, axiom, sorry.
-/
import Derived.Test.YtmfendfpjpbhdaaDoorRows
import GoSem.ClaimSeven
namespace Go.Proofs.YtmfendfpjpbhdaaDoor
namespace Rows

/-- THE TIED CARD OF 'weepholelaw35.TwinApart'. -/
def twinApartCard : Claim7 := { stood := { row := twinApartRow, standIns := [], harness := (true, "d656f9fdc5037e1af306c170d7892b7fee59f1bc4c66c7d446514d35e62b7427"), looks := false }, kinds := [], alts := [], laidByText := true, laidKinds := [.data], laidTests := true, laidLooks := .later }
def TwinApartCardSaid : Prop := Claim7.holds Tryd.pinned (.plain (OpenSpec.ofChange twinApartSpec)) twinApartCard

/-- THE TIED CARD OF 'weepholelaw35.TwinVars'. -/
def twinVarsCard : Claim7 := { stood := { row := twinVarsRow, standIns := [], harness := (true, "d656f9fdc5037e1af306c170d7892b7fee59f1bc4c66c7d446514d35e62b7427"), looks := false }, kinds := [], alts := [], laidByText := true, laidKinds := [.data], laidTests := true, laidLooks := .later }
def TwinVarsCardSaid : Prop := Claim7.holds Tryd.pinned (.plain (OpenSpec.ofChange twinVarsSpec)) twinVarsCard

/-- THE TIED CARD OF 'weepholelaw35.TwinAll'. -/
def twinAllCard : Claim7 := { stood := { row := twinAllRow, standIns := [], harness := (true, "d656f9fdc5037e1af306c170d7892b7fee59f1bc4c66c7d446514d35e62b7427"), looks := false }, kinds := [], alts := [], laidByText := true, laidKinds := [.data], laidTests := true, laidLooks := .later }
def TwinAllCardSaid : Prop := Claim7.holds Tryd.pinned (.plain (OpenSpec.ofChange twinAllSpec)) twinAllCard

/-- THE SECOND FORM's CARD OF 'weepholelaw35.TwinApart'. -/
def twinApartUptoCard : Claim7 := { stood := { row := twinApartUptoRow, standIns := [], harness := (true, "d656f9fdc5037e1af306c170d7892b7fee59f1bc4c66c7d446514d35e62b7427"), looks := false }, kinds := [], alts := [], laidByText := true, laidKinds := [.data], laidTests := true, laidLooks := .later }
def TwinApartUptoCardSaid : Prop := Claim7.holds Tryd.pinned (.plain (OpenSpec.upto twinApartSpec)) twinApartUptoCard

/-- THE SECOND FORM's CARD OF 'weepholelaw35.TwinVars'. -/
def twinVarsUptoCard : Claim7 := { stood := { row := twinVarsUptoRow, standIns := [], harness := (true, "d656f9fdc5037e1af306c170d7892b7fee59f1bc4c66c7d446514d35e62b7427"), looks := false }, kinds := [], alts := [], laidByText := true, laidKinds := [.data], laidTests := true, laidLooks := .later }
def TwinVarsUptoCardSaid : Prop := Claim7.holds Tryd.pinned (.plain (OpenSpec.upto twinVarsSpec)) twinVarsUptoCard

/-- THE SECOND FORM's CARD OF 'weepholelaw35.TwinAll'. -/
def twinAllUptoCard : Claim7 := { stood := { row := twinAllUptoRow, standIns := [], harness := (true, "d656f9fdc5037e1af306c170d7892b7fee59f1bc4c66c7d446514d35e62b7427"), looks := false }, kinds := [], alts := [], laidByText := true, laidKinds := [.data], laidTests := true, laidLooks := .later }
def TwinAllUptoCardSaid : Prop := Claim7.holds Tryd.pinned (.plain (OpenSpec.upto twinAllSpec)) twinAllUptoCard
end Rows
end Go.Proofs.YtmfendfpjpbhdaaDoor
