/-
  DERIVED. GIVEN WITH THE SEED: THE CARDS: each row of YtiklidgcmheofaaDoorRows.lean that lists a variable, with what it lists TIED to the program's text (the seventh form; the later family's looks); each row that meets fmt, with fmt's text TOLD by the authors' own Lean function (tested against real Go, not proved from fmt's source: count such statements apart). THE CARD IS WHAT COUNTS. Prove the row's statement (the work); the ties are given (YtiklidgcmheofaaDoorTie.lean); close each card by the builder's one call (the guide's Derived/Test/ToyasCard.lean, 'card_holds'). Laid BY PROGRAM, IN A SANDBOX (cutbox-door.mjs). By AI agents, Wed Nov 11 2026. No macro, syntax, notation, axiom, sorry.
-/
import Derived.Test.YtiklidgcmheofaaDoorRows
import GoSem.ClaimSeven
namespace Go.Proofs.YtiklidgcmheofaaDoor
namespace Rows

/-- THE TIED CARD OF 'weepholelaw30.StorePut'. -/
def storePutCard : Claim7 := { stood := { row := storePutRow, standIns := [], harness := (true, "7763c8ea1a81484ecd55d5fccce93effc4c37d336d9a2e42fa16b20a6681bfe3"), looks := false }, kinds := [], alts := [], laidByText := true, laidKinds := [.data], laidTests := true, laidLooks := .later }
def StorePutCardSaid : Prop := Claim7.holds Tryd.pinned (.plain (OpenSpec.ofChange storePutSpec)) storePutCard

/-- THE TIED CARD OF 'weepholelaw30.StoreZeros'. -/
def storeZerosCard : Claim7 := { stood := { row := storeZerosRow, standIns := [], harness := (true, "7763c8ea1a81484ecd55d5fccce93effc4c37d336d9a2e42fa16b20a6681bfe3"), looks := false }, kinds := [], alts := [], laidByText := true, laidKinds := [.data], laidTests := true, laidLooks := .later }
def StoreZerosCardSaid : Prop := Claim7.holds Tryd.pinned (.plain (OpenSpec.ofChange storeZerosSpec)) storeZerosCard

/-- THE TIED CARD OF 'weepholelaw30.StoreErrors'. -/
def storeErrorsCard : Claim7 := { stood := { row := storeErrorsRow, standIns := [], harness := (true, "7763c8ea1a81484ecd55d5fccce93effc4c37d336d9a2e42fa16b20a6681bfe3"), looks := false }, kinds := [], alts := [], laidByText := true, laidKinds := [.data], laidTests := true, laidLooks := .later }
def StoreErrorsCardSaid : Prop := Claim7.holds Tryd.pinned (.plain (OpenSpec.ofChange storeErrorsSpec)) storeErrorsCard

/-- THE TIED CARD OF 'weepholelaw30.StoreExamples'. -/
def storeExamplesCard : Claim7 := { stood := { row := storeExamplesRow, standIns := [], harness := (true, "7763c8ea1a81484ecd55d5fccce93effc4c37d336d9a2e42fa16b20a6681bfe3"), looks := false }, kinds := [], alts := [], laidByText := true, laidKinds := [.data], laidTests := true, laidLooks := .later }
def StoreExamplesCardSaid : Prop := Claim7.holds Tryd.pinned (.plain (OpenSpec.ofChange storeExamplesSpec)) storeExamplesCard

/-- THE SECOND FORM's CARD OF 'weepholelaw30.StorePut'. -/
def storePutUptoCard : Claim7 := { stood := { row := storePutUptoRow, standIns := [], harness := (true, "7763c8ea1a81484ecd55d5fccce93effc4c37d336d9a2e42fa16b20a6681bfe3"), looks := false }, kinds := [], alts := [], laidByText := true, laidKinds := [.data], laidTests := true, laidLooks := .later }
def StorePutUptoCardSaid : Prop := Claim7.holds Tryd.pinned (.plain (OpenSpec.upto storePutSpec)) storePutUptoCard

/-- THE SECOND FORM's CARD OF 'weepholelaw30.StoreZeros'. -/
def storeZerosUptoCard : Claim7 := { stood := { row := storeZerosUptoRow, standIns := [], harness := (true, "7763c8ea1a81484ecd55d5fccce93effc4c37d336d9a2e42fa16b20a6681bfe3"), looks := false }, kinds := [], alts := [], laidByText := true, laidKinds := [.data], laidTests := true, laidLooks := .later }
def StoreZerosUptoCardSaid : Prop := Claim7.holds Tryd.pinned (.plain (OpenSpec.upto storeZerosSpec)) storeZerosUptoCard

/-- THE SECOND FORM's CARD OF 'weepholelaw30.StoreErrors'. -/
def storeErrorsUptoCard : Claim7 := { stood := { row := storeErrorsUptoRow, standIns := [], harness := (true, "7763c8ea1a81484ecd55d5fccce93effc4c37d336d9a2e42fa16b20a6681bfe3"), looks := false }, kinds := [], alts := [], laidByText := true, laidKinds := [.data], laidTests := true, laidLooks := .later }
def StoreErrorsUptoCardSaid : Prop := Claim7.holds Tryd.pinned (.plain (OpenSpec.upto storeErrorsSpec)) storeErrorsUptoCard

/-- THE SECOND FORM's CARD OF 'weepholelaw30.StoreExamples'. -/
def storeExamplesUptoCard : Claim7 := { stood := { row := storeExamplesUptoRow, standIns := [], harness := (true, "7763c8ea1a81484ecd55d5fccce93effc4c37d336d9a2e42fa16b20a6681bfe3"), looks := false }, kinds := [], alts := [], laidByText := true, laidKinds := [.data], laidTests := true, laidLooks := .later }
def StoreExamplesUptoCardSaid : Prop := Claim7.holds Tryd.pinned (.plain (OpenSpec.upto storeExamplesSpec)) storeExamplesUptoCard
end Rows
end Go.Proofs.YtiklidgcmheofaaDoor
