/-
  NARROWER THAN 'FOR EVERY INPUT', by the rows' own cells (each row's printed sentence says how): StorePut: laid · StoreZeros: laid · StoreErrors: laid · StoreExamples: laid.
  DERIVED. THE GIVEN ROWS OF THIS SEAT. 4 by the template 'for every input the law returns true; each argument reads behind the call as it read before'; 0 by the template 'total and deterministic' (their statements: YtiklidgcmheofaaDoorTotals.lean).
  GIVEN WITH THE SEED: the statements are not yours to turn. If you find one false, say at which input.
  Laid BY PROGRAM, IN A SANDBOX (cutbox-rows.mjs): the forced cells as the released guide's own fill.sh prints them over the translation 3e86d6d259c0edb2… (all of the seat's roots in one cut). By AI agents, Wed Nov 11 2026. No macro, syntax, notation, axiom, sorry.
-/
import Derived.Test.YtiklidgcmheofaaDoorChecked
import GoSem.Claim
import GoSem.ClaimJoined
import GoSem.ClaimMapViews
import Derived.JoinedTies
import Derived.KernelRfl
namespace Go.Proofs.YtiklidgcmheofaaDoor
/- THE CELL 'sum', in the pinned program and in every row, IS THE sha256 OF THE DUMP (.gsa) THAT YtiklidgcmheofaaDoorProg.lean LOADS. Nothing in Lean hashes anything: it is a label: what it is worth is what the hold of that sum in a sandbox is worth. -/
noncomputable def Tryd.pinned : Pinned := { name := "ytiklidgcmheofaadoor", sum := "3e86d6d259c0edb2f43c07e405b0d72311855fa15d9cc8cecb05137091cf35b3", checked := Tryd.checked }
namespace Rows
def none {H : Type} : Left H := { results := [], args := [] }

/- WHAT THE LISTED PACKAGE-LEVEL VARIABLES READ AS WHEN THE CALL BEGINS. Each datum BY PROGRAM (the guide's laid-datum.mjs) off the statement by which the dump's own 'gosem.cut.vars' lays the variable. In a bare row this is a premise. The card (YtiklidgcmheofaaDoorCards.lean) ties it to the program's text. -/
def laid_weephole_flat_shapes {H : Type} : DataW H := .agg [.agg [.lit (.bool true), .lit (.bool true), .lit (.bool false), .lit (.int .i64 0)], .agg [.lit (.bool true), .lit (.bool true), .lit (.bool true), .lit (.int .i64 0)], .agg [.lit (.bool true), .lit (.bool true), .lit (.bool false), .lit (.int .i64 1)], .agg [.lit (.bool false), .lit (.bool true), .lit (.bool true), .lit (.int .i64 1)], .agg [.lit (.bool true), .lit (.bool false), .lit (.bool false), .lit (.int .i64 2)], .agg [.lit (.bool false), .lit (.bool true), .lit (.bool false), .lit (.int .i64 2)], .agg [.lit (.bool true), .lit (.bool true), .lit (.bool false), .lit (.int .i64 3)], .agg [.lit (.bool false), .lit (.bool false), .lit (.bool false), .lit (.int .i64 4)], .agg [.lit (.bool false), .lit (.bool true), .lit (.bool false), .lit (.int .i64 4)], .agg [.lit (.bool false), .lit (.bool false), .lit (.bool false), .lit (.int .i64 0)]]

/-- 'weepholelaw30.StorePut': WHATEVER THE INPUT: true; the input reads as it did. -/
def storePutSpec : ChangeSpec := { name := "storePut", fn := fun _ => fun
  | [d1, d2, d3, d4, d5, d6] => { results := [.lit (.bool true)], args := [d1, d2, d3, d4, d5, d6] }
  | _ => none }
def storePutRow : OpenClaim := { program := "ytiklidgcmheofaadoor", sum := "3e86d6d259c0edb2f43c07e405b0d72311855fa15d9cc8cecb05137091cf35b3", func := "weephole/weepholelaw30.StorePut", spec := "storePut", unfollowed := true, recurses := true, named := ["weephole/flat.shapes"], plainKeys := false, apart := false, laid := [("weephole/flat.shapes", laid_weephole_flat_shapes)] }
def StorePutSaid : Prop := storePutRow.holds Tryd.pinned (OpenSpec.ofChange storePutSpec)

/-- ITS FALSE NEIGHBOUR: 'it returns false'. Refute it at one input. -/
def storePutWrong : ChangeSpec := { name := "storePut", fn := fun _ => fun
  | [d1, d2, d3, d4, d5, d6] => { results := [.lit (.bool false)], args := [d1, d2, d3, d4, d5, d6] }
  | _ => none }
def StorePutWrongFalsely : Prop := storePutRow.holds Tryd.pinned (OpenSpec.ofChange storePutWrong)

/-- 'weepholelaw30.StoreZeros': WHATEVER THE INPUT: true; the input reads as it did. -/
def storeZerosSpec : ChangeSpec := { name := "storeZeros", fn := fun _ => fun
  | [d1, d2] => { results := [.lit (.bool true)], args := [d1, d2] }
  | _ => none }
def storeZerosRow : OpenClaim := { program := "ytiklidgcmheofaadoor", sum := "3e86d6d259c0edb2f43c07e405b0d72311855fa15d9cc8cecb05137091cf35b3", func := "weephole/weepholelaw30.StoreZeros", spec := "storeZeros", unfollowed := true, recurses := true, named := ["weephole/flat.shapes"], plainKeys := false, apart := false, laid := [("weephole/flat.shapes", laid_weephole_flat_shapes)] }
def StoreZerosSaid : Prop := storeZerosRow.holds Tryd.pinned (OpenSpec.ofChange storeZerosSpec)

/-- ITS FALSE NEIGHBOUR: 'it returns false'. Refute it at one input. -/
def storeZerosWrong : ChangeSpec := { name := "storeZeros", fn := fun _ => fun
  | [d1, d2] => { results := [.lit (.bool false)], args := [d1, d2] }
  | _ => none }
def StoreZerosWrongFalsely : Prop := storeZerosRow.holds Tryd.pinned (OpenSpec.ofChange storeZerosWrong)

/-- 'weepholelaw30.StoreErrors': WHATEVER THE INPUT: true; the input reads as it did. -/
def storeErrorsSpec : ChangeSpec := { name := "storeErrors", fn := fun _ => fun
  | [d1, d2, d3, d4, d5] => { results := [.lit (.bool true)], args := [d1, d2, d3, d4, d5] }
  | _ => none }
def storeErrorsRow : OpenClaim := { program := "ytiklidgcmheofaadoor", sum := "3e86d6d259c0edb2f43c07e405b0d72311855fa15d9cc8cecb05137091cf35b3", func := "weephole/weepholelaw30.StoreErrors", spec := "storeErrors", unfollowed := true, recurses := true, named := ["weephole/flat.shapes"], plainKeys := false, apart := false, laid := [("weephole/flat.shapes", laid_weephole_flat_shapes)] }
def StoreErrorsSaid : Prop := storeErrorsRow.holds Tryd.pinned (OpenSpec.ofChange storeErrorsSpec)

/-- ITS FALSE NEIGHBOUR: 'it returns false'. Refute it at one input. -/
def storeErrorsWrong : ChangeSpec := { name := "storeErrors", fn := fun _ => fun
  | [d1, d2, d3, d4, d5] => { results := [.lit (.bool false)], args := [d1, d2, d3, d4, d5] }
  | _ => none }
def StoreErrorsWrongFalsely : Prop := storeErrorsRow.holds Tryd.pinned (OpenSpec.ofChange storeErrorsWrong)

/-- 'weepholelaw30.StoreExamples': WHATEVER THE INPUT: true; the input reads as it did. -/
def storeExamplesSpec : ChangeSpec := { name := "storeExamples", fn := fun _ => fun
  | [] => { results := [.lit (.bool true)], args := [] }
  | _ => none }
def storeExamplesRow : OpenClaim := { program := "ytiklidgcmheofaadoor", sum := "3e86d6d259c0edb2f43c07e405b0d72311855fa15d9cc8cecb05137091cf35b3", func := "weephole/weepholelaw30.StoreExamples", spec := "storeExamples", unfollowed := true, recurses := true, named := ["weephole/flat.shapes"], plainKeys := false, apart := false, laid := [("weephole/flat.shapes", laid_weephole_flat_shapes)] }
def StoreExamplesSaid : Prop := storeExamplesRow.holds Tryd.pinned (OpenSpec.ofChange storeExamplesSpec)

/-- ITS FALSE NEIGHBOUR: 'it returns false'. Refute it at one input. -/
def storeExamplesWrong : ChangeSpec := { name := "storeExamples", fn := fun _ => fun
  | [] => { results := [.lit (.bool false)], args := [] }
  | _ => none }
def StoreExamplesWrongFalsely : Prop := storeExamplesRow.holds Tryd.pinned (OpenSpec.ofChange storeExamplesWrong)

/- THE SECOND FORM. 'bulk': how many values and letters a reading holds, each counted each time it is reached (what is shared counts as often as it is met; a slice's spare places count too). A statement '..UptoSaid' is the law's where the arguments, and the package variables that the reading takes, are together of bulk at most 1048576: NARROWER than '..Said'. Prove '..Said' where nothing that the law and all that it calls make is longer than what came in: it says more and counts as full. Else prove '..UptoSaid'. A law counts once. -/
mutual
def uptoBulk {H : Type} : DataW H → Nat
  | .lit (.string bytes) => bytes.length + 1
  | .lit _ => 1
  | .nil => 1
  | .ptr d => uptoBulk d + 1
  | .slice elems spare => uptoBulkAll elems + uptoBulkAll spare + 1
  | .agg parts => uptoBulkAll parts + 1
  | .iface _ d => uptoBulk d + 1
  | .map entries => uptoBulkEntries entries + 1
  | .held _ => 1
def uptoBulkAll {H : Type} : List (DataW H) → Nat
  | [] => 0
  | d :: r => uptoBulk d + uptoBulkAll r
def uptoBulkEntries {H : Type} : List (Lit × DataW H) → Nat
  | [] => 0
  | x :: r => uptoBulkEntry x + uptoBulkEntries r
def uptoBulkEntry {H : Type} : Lit × DataW H → Nat
  | (.string bytes, d) => bytes.length + uptoBulk d + 1
  | (_, d) => uptoBulk d + 1
 end
def uptoSmall : (H : Type) → List (DataW H) → Bool := fun _ ds => decide (uptoBulkAll ds ≤ 1048576)
def OpenSpec.upto (s : _root_.Go.ChangeSpec) : _root_.Go.OpenSpec := { _root_.Go.OpenSpec.ofChange s with cond := some uptoSmall }

/-- 'weepholelaw30.StorePut', WHERE WHAT IT READS IS OF BULK AT MOST 1048576: true; the input reads as it did. -/
def storePutUptoRow : OpenClaim := { program := "ytiklidgcmheofaadoor", sum := "3e86d6d259c0edb2f43c07e405b0d72311855fa15d9cc8cecb05137091cf35b3", func := "weephole/weepholelaw30.StorePut", spec := "storePut", unfollowed := true, recurses := true, named := ["weephole/flat.shapes"], plainKeys := false, apart := false, laid := [("weephole/flat.shapes", laid_weephole_flat_shapes)], narrowed := true }
def StorePutUptoSaid : Prop := storePutUptoRow.holds Tryd.pinned (OpenSpec.upto storePutSpec)

/-- 'weepholelaw30.StoreZeros', WHERE WHAT IT READS IS OF BULK AT MOST 1048576: true; the input reads as it did. -/
def storeZerosUptoRow : OpenClaim := { program := "ytiklidgcmheofaadoor", sum := "3e86d6d259c0edb2f43c07e405b0d72311855fa15d9cc8cecb05137091cf35b3", func := "weephole/weepholelaw30.StoreZeros", spec := "storeZeros", unfollowed := true, recurses := true, named := ["weephole/flat.shapes"], plainKeys := false, apart := false, laid := [("weephole/flat.shapes", laid_weephole_flat_shapes)], narrowed := true }
def StoreZerosUptoSaid : Prop := storeZerosUptoRow.holds Tryd.pinned (OpenSpec.upto storeZerosSpec)

/-- 'weepholelaw30.StoreErrors', WHERE WHAT IT READS IS OF BULK AT MOST 1048576: true; the input reads as it did. -/
def storeErrorsUptoRow : OpenClaim := { program := "ytiklidgcmheofaadoor", sum := "3e86d6d259c0edb2f43c07e405b0d72311855fa15d9cc8cecb05137091cf35b3", func := "weephole/weepholelaw30.StoreErrors", spec := "storeErrors", unfollowed := true, recurses := true, named := ["weephole/flat.shapes"], plainKeys := false, apart := false, laid := [("weephole/flat.shapes", laid_weephole_flat_shapes)], narrowed := true }
def StoreErrorsUptoSaid : Prop := storeErrorsUptoRow.holds Tryd.pinned (OpenSpec.upto storeErrorsSpec)

/-- 'weepholelaw30.StoreExamples', WHERE WHAT IT READS IS OF BULK AT MOST 1048576: true; the input reads as it did. -/
def storeExamplesUptoRow : OpenClaim := { program := "ytiklidgcmheofaadoor", sum := "3e86d6d259c0edb2f43c07e405b0d72311855fa15d9cc8cecb05137091cf35b3", func := "weephole/weepholelaw30.StoreExamples", spec := "storeExamples", unfollowed := true, recurses := true, named := ["weephole/flat.shapes"], plainKeys := false, apart := false, laid := [("weephole/flat.shapes", laid_weephole_flat_shapes)], narrowed := true }
def StoreExamplesUptoSaid : Prop := storeExamplesUptoRow.holds Tryd.pinned (OpenSpec.upto storeExamplesSpec)

end Rows
end Go.Proofs.YtiklidgcmheofaaDoor
