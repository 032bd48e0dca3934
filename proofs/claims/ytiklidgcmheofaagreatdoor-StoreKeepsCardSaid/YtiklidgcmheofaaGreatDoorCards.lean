/-
  DERIVED. GIVEN WITH THE SEED: THE CARDS: each row of YtiklidgcmheofaaGreatDoorRows.lean that lists a variable, with what it lists TIED to the program's text (the seventh form; the later family's looks); each row that meets fmt, with fmt's text TOLD by the authors' own Lean function (tested against real Go, not proved from fmt's source: count such statements apart). THE CARD IS WHAT COUNTS. Prove the row's statement (the work); the ties are given (YtiklidgcmheofaaGreatDoorTie.lean); close each card by the builder's one call (the guide's Derived/Test/ToyasCard.lean, 'card_holds'). Laid BY PROGRAM, IN A SANDBOX (cutbox-door.mjs). By AI agents, Wed Nov 11 2026. No macro, syntax, notation, axiom, sorry.
-/
import Derived.Test.YtiklidgcmheofaaGreatDoorRows
import GoSem.ClaimSeven
namespace Go.Proofs.YtiklidgcmheofaaGreatDoor
namespace Rows

/-- THE TIED CARD OF 'weepholelaw30.StoreActs'. -/
def storeActsCard : Claim7 := { stood := { row := storeActsRow, standIns := [], harness := (true, "d5aa9f51b3a8808bb15c274e3f36c33d5b5b9657551878d34912919e2b293f0c"), looks := false }, kinds := [], alts := [], laidByText := true, laidKinds := [.data], laidTests := true, laidLooks := .later }
def StoreActsCardSaid : Prop := Claim7.holds Tryz.pinned (.plain (OpenSpec.ofChange storeActsSpec)) storeActsCard

/-- THE TIED CARD OF 'weepholelaw30.StoreShares'. -/
def storeSharesCard : Claim7 := { stood := { row := storeSharesRow, standIns := [], harness := (true, "d5aa9f51b3a8808bb15c274e3f36c33d5b5b9657551878d34912919e2b293f0c"), looks := false }, kinds := [], alts := [], laidByText := true, laidKinds := [.data], laidTests := true, laidLooks := .later }
def StoreSharesCardSaid : Prop := Claim7.holds Tryz.pinned (.plain (OpenSpec.ofChange storeSharesSpec)) storeSharesCard

/-- THE TIED CARD OF 'weepholelaw30.StoreKeeps'. -/
def storeKeepsCard : Claim7 := { stood := { row := storeKeepsRow, standIns := [], harness := (true, "d5aa9f51b3a8808bb15c274e3f36c33d5b5b9657551878d34912919e2b293f0c"), looks := false }, kinds := [], alts := [], laidByText := true, laidKinds := [.data], laidTests := true, laidLooks := .later }
def StoreKeepsCardSaid : Prop := Claim7.holds Tryz.pinned (.plain (OpenSpec.ofChange storeKeepsSpec)) storeKeepsCard

/-- THE SECOND FORM's CARD OF 'weepholelaw30.StoreActs'. -/
def storeActsUptoCard : Claim7 := { stood := { row := storeActsUptoRow, standIns := [], harness := (true, "d5aa9f51b3a8808bb15c274e3f36c33d5b5b9657551878d34912919e2b293f0c"), looks := false }, kinds := [], alts := [], laidByText := true, laidKinds := [.data], laidTests := true, laidLooks := .later }
def StoreActsUptoCardSaid : Prop := Claim7.holds Tryz.pinned (.plain (OpenSpec.upto storeActsSpec)) storeActsUptoCard

/-- THE SECOND FORM's CARD OF 'weepholelaw30.StoreShares'. -/
def storeSharesUptoCard : Claim7 := { stood := { row := storeSharesUptoRow, standIns := [], harness := (true, "d5aa9f51b3a8808bb15c274e3f36c33d5b5b9657551878d34912919e2b293f0c"), looks := false }, kinds := [], alts := [], laidByText := true, laidKinds := [.data], laidTests := true, laidLooks := .later }
def StoreSharesUptoCardSaid : Prop := Claim7.holds Tryz.pinned (.plain (OpenSpec.upto storeSharesSpec)) storeSharesUptoCard

/-- THE SECOND FORM's CARD OF 'weepholelaw30.StoreKeeps'. -/
def storeKeepsUptoCard : Claim7 := { stood := { row := storeKeepsUptoRow, standIns := [], harness := (true, "d5aa9f51b3a8808bb15c274e3f36c33d5b5b9657551878d34912919e2b293f0c"), looks := false }, kinds := [], alts := [], laidByText := true, laidKinds := [.data], laidTests := true, laidLooks := .later }
def StoreKeepsUptoCardSaid : Prop := Claim7.holds Tryz.pinned (.plain (OpenSpec.upto storeKeepsSpec)) storeKeepsUptoCard
end Rows
end Go.Proofs.YtiklidgcmheofaaGreatDoor
