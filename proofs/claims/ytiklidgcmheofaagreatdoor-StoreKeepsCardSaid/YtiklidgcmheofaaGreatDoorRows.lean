/-
  NARROWER THAN 'FOR EVERY INPUT', by the rows' own cells (each row's printed sentence says how): StoreActs: laid · StoreShares: laid · StoreKeeps: laid.
  DERIVED. THE GIVEN ROWS OF THIS SEAT. 3 by the template 'for every input the law returns true; each argument reads behind the call as it read before'; 0 by the template 'total and deterministic' (their statements: YtiklidgcmheofaaGreatDoorTotals.lean).
  GIVEN WITH THE SEED: the statements are not yours to turn. If you find one false, say at which input.
  Laid BY PROGRAM, IN A SANDBOX (cutbox-rows.mjs): the forced cells as the released guide's own fill.sh prints them over the translation 999e0634c9127842… (all of the seat's roots in one cut). By AI agents, Wed Nov 11 2026. No macro, syntax, notation, axiom, sorry.
-/
import Derived.Test.YtiklidgcmheofaaGreatDoorChecked
import GoSem.Claim
import GoSem.ClaimJoined
import GoSem.ClaimMapViews
import Derived.JoinedTies
import Derived.KernelRfl
namespace Go.Proofs.YtiklidgcmheofaaGreatDoor
/- THE CELL 'sum', in the pinned program and in every row, IS THE sha256 OF THE DUMP (.gsa) THAT YtiklidgcmheofaaGreatDoorProg.lean LOADS. Nothing in Lean hashes anything: it is a label: what it is worth is what the hold of that sum in a sandbox is worth. -/
noncomputable def Tryz.pinned : Pinned := { name := "ytiklidgcmheofaagreatdoor", sum := "999e0634c9127842e07894226c2545586003748bbc50a4a41f5e522db8b48633", checked := Tryz.checked }
namespace Rows
def none {H : Type} : Left H := { results := [], args := [] }

/- WHAT THE LISTED PACKAGE-LEVEL VARIABLES READ AS WHEN THE CALL BEGINS. Each datum BY PROGRAM (the guide's laid-datum.mjs) off the statement by which the dump's own 'gosem.cut.vars' lays the variable. In a bare row this is a premise. The card (YtiklidgcmheofaaGreatDoorCards.lean) ties it to the program's text. -/
def laid_weephole_flat_shapes {H : Type} : DataW H := .agg [.agg [.lit (.bool true), .lit (.bool true), .lit (.bool false), .lit (.int .i64 0)], .agg [.lit (.bool true), .lit (.bool true), .lit (.bool true), .lit (.int .i64 0)], .agg [.lit (.bool true), .lit (.bool true), .lit (.bool false), .lit (.int .i64 1)], .agg [.lit (.bool false), .lit (.bool true), .lit (.bool true), .lit (.int .i64 1)], .agg [.lit (.bool true), .lit (.bool false), .lit (.bool false), .lit (.int .i64 2)], .agg [.lit (.bool false), .lit (.bool true), .lit (.bool false), .lit (.int .i64 2)], .agg [.lit (.bool true), .lit (.bool true), .lit (.bool false), .lit (.int .i64 3)], .agg [.lit (.bool false), .lit (.bool false), .lit (.bool false), .lit (.int .i64 4)], .agg [.lit (.bool false), .lit (.bool true), .lit (.bool false), .lit (.int .i64 4)], .agg [.lit (.bool false), .lit (.bool false), .lit (.bool false), .lit (.int .i64 0)]]

/-- 'weepholelaw30.StoreActs': WHATEVER THE INPUT: true; the input reads as it did. -/
def storeActsSpec : ChangeSpec := { name := "storeActs", fn := fun _ => fun
  | [d1, d2, d3] => { results := [.lit (.bool true)], args := [d1, d2, d3] }
  | _ => none }
def storeActsRow : OpenClaim := { program := "ytiklidgcmheofaagreatdoor", sum := "999e0634c9127842e07894226c2545586003748bbc50a4a41f5e522db8b48633", func := "weephole/weepholelaw30.StoreActs", spec := "storeActs", unfollowed := true, recurses := true, named := ["weephole/flat.shapes"], plainKeys := false, apart := false, laid := [("weephole/flat.shapes", laid_weephole_flat_shapes)] }
def StoreActsSaid : Prop := storeActsRow.holds Tryz.pinned (OpenSpec.ofChange storeActsSpec)

/-- ITS FALSE NEIGHBOUR: 'it returns false'. Refute it at one input. -/
def storeActsWrong : ChangeSpec := { name := "storeActs", fn := fun _ => fun
  | [d1, d2, d3] => { results := [.lit (.bool false)], args := [d1, d2, d3] }
  | _ => none }
def StoreActsWrongFalsely : Prop := storeActsRow.holds Tryz.pinned (OpenSpec.ofChange storeActsWrong)

/-- 'weepholelaw30.StoreShares': WHATEVER THE INPUT: true; the input reads as it did. -/
def storeSharesSpec : ChangeSpec := { name := "storeShares", fn := fun _ => fun
  | [d1, d2, d3, d4] => { results := [.lit (.bool true)], args := [d1, d2, d3, d4] }
  | _ => none }
def storeSharesRow : OpenClaim := { program := "ytiklidgcmheofaagreatdoor", sum := "999e0634c9127842e07894226c2545586003748bbc50a4a41f5e522db8b48633", func := "weephole/weepholelaw30.StoreShares", spec := "storeShares", unfollowed := true, recurses := true, named := ["weephole/flat.shapes"], plainKeys := false, apart := false, laid := [("weephole/flat.shapes", laid_weephole_flat_shapes)] }
def StoreSharesSaid : Prop := storeSharesRow.holds Tryz.pinned (OpenSpec.ofChange storeSharesSpec)

/-- ITS FALSE NEIGHBOUR: 'it returns false'. Refute it at one input. -/
def storeSharesWrong : ChangeSpec := { name := "storeShares", fn := fun _ => fun
  | [d1, d2, d3, d4] => { results := [.lit (.bool false)], args := [d1, d2, d3, d4] }
  | _ => none }
def StoreSharesWrongFalsely : Prop := storeSharesRow.holds Tryz.pinned (OpenSpec.ofChange storeSharesWrong)

/-- 'weepholelaw30.StoreKeeps': WHATEVER THE INPUT: true; the input reads as it did. -/
def storeKeepsSpec : ChangeSpec := { name := "storeKeeps", fn := fun _ => fun
  | [d1, d2, d3, d4] => { results := [.lit (.bool true)], args := [d1, d2, d3, d4] }
  | _ => none }
def storeKeepsRow : OpenClaim := { program := "ytiklidgcmheofaagreatdoor", sum := "999e0634c9127842e07894226c2545586003748bbc50a4a41f5e522db8b48633", func := "weephole/weepholelaw30.StoreKeeps", spec := "storeKeeps", unfollowed := true, recurses := true, named := ["weephole/flat.shapes"], plainKeys := false, apart := false, laid := [("weephole/flat.shapes", laid_weephole_flat_shapes)] }
def StoreKeepsSaid : Prop := storeKeepsRow.holds Tryz.pinned (OpenSpec.ofChange storeKeepsSpec)

/-- ITS FALSE NEIGHBOUR: 'it returns false'. Refute it at one input. -/
def storeKeepsWrong : ChangeSpec := { name := "storeKeeps", fn := fun _ => fun
  | [d1, d2, d3, d4] => { results := [.lit (.bool false)], args := [d1, d2, d3, d4] }
  | _ => none }
def StoreKeepsWrongFalsely : Prop := storeKeepsRow.holds Tryz.pinned (OpenSpec.ofChange storeKeepsWrong)

/- THE SECOND FORM. 'bulk': how many values and letters a reading holds, each counted each time it is reached (what is shared counts as often as it is met; a slice's spare places count too). A statement '..UptoSaid' is the law's where the arguments, and the package variables that the reading takes, are together of bulk at most 1048576: NARROWER than '..Said'. Prove '..Said' where nothing that the law and all that it calls make is longer than what came in: it says more and counts as full. Else prove '..UptoSaid'. A law counts once. -/
mutual
def uptoBulk {H : Type} : DataW H → Nat
  | .lit (.string bytes) => bytes.length + 1
  | .lit _ => 1
  | .nil => 1
  | .ptr d => uptoBulk d + 1
  | .slice elems spare => uptoBulkAll elems + uptoBulkAll spare + 1
  | .agg parts => uptoBulkAll parts + 1
  | .iface _ d => uptoBulk d + 1
  | .map entries => uptoBulkEntries entries + 1
  | .held _ => 1
def uptoBulkAll {H : Type} : List (DataW H) → Nat
  | [] => 0
  | d :: r => uptoBulk d + uptoBulkAll r
def uptoBulkEntries {H : Type} : List (Lit × DataW H) → Nat
  | [] => 0
  | x :: r => uptoBulkEntry x + uptoBulkEntries r
def uptoBulkEntry {H : Type} : Lit × DataW H → Nat
  | (.string bytes, d) => bytes.length + uptoBulk d + 1
  | (_, d) => uptoBulk d + 1
 end
def uptoSmall : (H : Type) → List (DataW H) → Bool := fun _ ds => decide (uptoBulkAll ds ≤ 1048576)
def OpenSpec.upto (s : _root_.Go.ChangeSpec) : _root_.Go.OpenSpec := { _root_.Go.OpenSpec.ofChange s with cond := some uptoSmall }

/-- 'weepholelaw30.StoreActs', WHERE WHAT IT READS IS OF BULK AT MOST 1048576: true; the input reads as it did. -/
def storeActsUptoRow : OpenClaim := { program := "ytiklidgcmheofaagreatdoor", sum := "999e0634c9127842e07894226c2545586003748bbc50a4a41f5e522db8b48633", func := "weephole/weepholelaw30.StoreActs", spec := "storeActs", unfollowed := true, recurses := true, named := ["weephole/flat.shapes"], plainKeys := false, apart := false, laid := [("weephole/flat.shapes", laid_weephole_flat_shapes)], narrowed := true }
def StoreActsUptoSaid : Prop := storeActsUptoRow.holds Tryz.pinned (OpenSpec.upto storeActsSpec)

/-- 'weepholelaw30.StoreShares', WHERE WHAT IT READS IS OF BULK AT MOST 1048576: true; the input reads as it did. -/
def storeSharesUptoRow : OpenClaim := { program := "ytiklidgcmheofaagreatdoor", sum := "999e0634c9127842e07894226c2545586003748bbc50a4a41f5e522db8b48633", func := "weephole/weepholelaw30.StoreShares", spec := "storeShares", unfollowed := true, recurses := true, named := ["weephole/flat.shapes"], plainKeys := false, apart := false, laid := [("weephole/flat.shapes", laid_weephole_flat_shapes)], narrowed := true }
def StoreSharesUptoSaid : Prop := storeSharesUptoRow.holds Tryz.pinned (OpenSpec.upto storeSharesSpec)

/-- 'weepholelaw30.StoreKeeps', WHERE WHAT IT READS IS OF BULK AT MOST 1048576: true; the input reads as it did. -/
def storeKeepsUptoRow : OpenClaim := { program := "ytiklidgcmheofaagreatdoor", sum := "999e0634c9127842e07894226c2545586003748bbc50a4a41f5e522db8b48633", func := "weephole/weepholelaw30.StoreKeeps", spec := "storeKeeps", unfollowed := true, recurses := true, named := ["weephole/flat.shapes"], plainKeys := false, apart := false, laid := [("weephole/flat.shapes", laid_weephole_flat_shapes)], narrowed := true }
def StoreKeepsUptoSaid : Prop := storeKeepsUptoRow.holds Tryz.pinned (OpenSpec.upto storeKeepsSpec)

end Rows
end Go.Proofs.YtiklidgcmheofaaGreatDoor
