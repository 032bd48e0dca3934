/-
  No cell of these rows narrows 'for every input' (looked for: loops, veiled, ifaces, maps, wideKeys, modest, calm, conditions, laid).
  DERIVED. THE GIVEN ROWS OF THIS SEAT. 7 by the template 'for every input the law returns true; each argument reads behind the call as it read before'; 0 by the template 'total and deterministic' (their statements: YtofbadmjopefpaaTotals.lean).
  GIVEN WITH THE SEED: the statements are not yours to turn. If you find one false, say at which input.
  Laid BY PROGRAM, IN A SANDBOX (cutbox-rows.mjs): the forced cells as the released guide's own fill.sh prints them over the translation 40800c5a07f85f2f… (all of the seat's roots in one cut). By AI agents, Wed Nov 11 2026. No macro, syntax, notation, axiom, sorry.
-/
import Derived.Test.YtofbadmjopefpaaChecked
import GoSem.Claim
import GoSem.ClaimJoined
import GoSem.ClaimMapViews
import Derived.JoinedTies
import Derived.KernelRfl
namespace Go.Proofs.Ytofbadmjopefpaa
/- THE CELL 'sum', in the pinned program and in every row, IS THE sha256 OF THE DUMP (.gsa) THAT YtofbadmjopefpaaProg.lean LOADS. Nothing in Lean hashes anything: it is a label: what it is worth is what the hold of that sum in a sandbox is worth. -/
noncomputable def Try.pinned : Pinned := { name := "ytofbadmjopefpaa", sum := "40800c5a07f85f2f268aff64362b423e57c9aa51637685cb267209769c213da8", checked := Try.checked }
namespace Rows
def none {H : Type} : Left H := { results := [], args := [] }

/-- 'weepholelaw14.SupportNames': WHATEVER THE INPUT: true; the input reads as it did. -/
def supportNamesSpec : ChangeSpec := { name := "supportNames", fn := fun _ => fun
  | [] => { results := [.lit (.bool true)], args := [] }
  | _ => none }
def supportNamesRow : OpenClaim := { program := "ytofbadmjopefpaa", sum := "40800c5a07f85f2f268aff64362b423e57c9aa51637685cb267209769c213da8", func := "weephole/weepholelaw14.SupportNames", spec := "supportNames", recurses := true, plainKeys := false, apart := false }
def SupportNamesSaid : Prop := supportNamesRow.holds Try.pinned (OpenSpec.ofChange supportNamesSpec)

/-- ITS FALSE NEIGHBOUR: 'it returns false'. Refute it at one input. -/
def supportNamesWrong : ChangeSpec := { name := "supportNames", fn := fun _ => fun
  | [] => { results := [.lit (.bool false)], args := [] }
  | _ => none }
def SupportNamesWrongFalsely : Prop := supportNamesRow.holds Try.pinned (OpenSpec.ofChange supportNamesWrong)

/-- 'weepholelaw14.SupportMatches': WHATEVER THE INPUT: true; the input reads as it did. -/
def supportMatchesSpec : ChangeSpec := { name := "supportMatches", fn := fun _ => fun
  | [d1, d2, d3] => { results := [.lit (.bool true)], args := [d1, d2, d3] }
  | _ => none }
def supportMatchesRow : OpenClaim := { program := "ytofbadmjopefpaa", sum := "40800c5a07f85f2f268aff64362b423e57c9aa51637685cb267209769c213da8", func := "weephole/weepholelaw14.SupportMatches", spec := "supportMatches", recurses := true, plainKeys := false, apart := false }
def SupportMatchesSaid : Prop := supportMatchesRow.holds Try.pinned (OpenSpec.ofChange supportMatchesSpec)

/-- ITS FALSE NEIGHBOUR: 'it returns false'. Refute it at one input. -/
def supportMatchesWrong : ChangeSpec := { name := "supportMatches", fn := fun _ => fun
  | [d1, d2, d3] => { results := [.lit (.bool false)], args := [d1, d2, d3] }
  | _ => none }
def SupportMatchesWrongFalsely : Prop := supportMatchesRow.holds Try.pinned (OpenSpec.ofChange supportMatchesWrong)

/-- 'weepholelaw14.SupportWalk': WHATEVER THE INPUT: true; the input reads as it did. -/
def supportWalkSpec : ChangeSpec := { name := "supportWalk", fn := fun _ => fun
  | [d1, d2, d3] => { results := [.lit (.bool true)], args := [d1, d2, d3] }
  | _ => none }
def supportWalkRow : OpenClaim := { program := "ytofbadmjopefpaa", sum := "40800c5a07f85f2f268aff64362b423e57c9aa51637685cb267209769c213da8", func := "weephole/weepholelaw14.SupportWalk", spec := "supportWalk", recurses := true, plainKeys := false, apart := false }
def SupportWalkSaid : Prop := supportWalkRow.holds Try.pinned (OpenSpec.ofChange supportWalkSpec)

/-- ITS FALSE NEIGHBOUR: 'it returns false'. Refute it at one input. -/
def supportWalkWrong : ChangeSpec := { name := "supportWalk", fn := fun _ => fun
  | [d1, d2, d3] => { results := [.lit (.bool false)], args := [d1, d2, d3] }
  | _ => none }
def SupportWalkWrongFalsely : Prop := supportWalkRow.holds Try.pinned (OpenSpec.ofChange supportWalkWrong)

/-- 'weepholelaw14.SupportJoin': WHATEVER THE INPUT: true; the input reads as it did. -/
def supportJoinSpec : ChangeSpec := { name := "supportJoin", fn := fun _ => fun
  | [d1, d2, d3, d4] => { results := [.lit (.bool true)], args := [d1, d2, d3, d4] }
  | _ => none }
def supportJoinRow : OpenClaim := { program := "ytofbadmjopefpaa", sum := "40800c5a07f85f2f268aff64362b423e57c9aa51637685cb267209769c213da8", func := "weephole/weepholelaw14.SupportJoin", spec := "supportJoin", unfollowed := true, recurses := true, plainKeys := false, apart := false }
def SupportJoinSaid : Prop := supportJoinRow.holds Try.pinned (OpenSpec.ofChange supportJoinSpec)

/-- ITS FALSE NEIGHBOUR: 'it returns false'. Refute it at one input. -/
def supportJoinWrong : ChangeSpec := { name := "supportJoin", fn := fun _ => fun
  | [d1, d2, d3, d4] => { results := [.lit (.bool false)], args := [d1, d2, d3, d4] }
  | _ => none }
def SupportJoinWrongFalsely : Prop := supportJoinRow.holds Try.pinned (OpenSpec.ofChange supportJoinWrong)

/-- 'weepholelaw14.SupportNodes': WHATEVER THE INPUT: true; the input reads as it did. -/
def supportNodesSpec : ChangeSpec := { name := "supportNodes", fn := fun _ => fun
  | [d1, d2] => { results := [.lit (.bool true)], args := [d1, d2] }
  | _ => none }
def supportNodesRow : OpenClaim := { program := "ytofbadmjopefpaa", sum := "40800c5a07f85f2f268aff64362b423e57c9aa51637685cb267209769c213da8", func := "weephole/weepholelaw14.SupportNodes", spec := "supportNodes", recurses := true, plainKeys := false, apart := false }
def SupportNodesSaid : Prop := supportNodesRow.holds Try.pinned (OpenSpec.ofChange supportNodesSpec)

/-- ITS FALSE NEIGHBOUR: 'it returns false'. Refute it at one input. -/
def supportNodesWrong : ChangeSpec := { name := "supportNodes", fn := fun _ => fun
  | [d1, d2] => { results := [.lit (.bool false)], args := [d1, d2] }
  | _ => none }
def SupportNodesWrongFalsely : Prop := supportNodesRow.holds Try.pinned (OpenSpec.ofChange supportNodesWrong)

/-- 'weepholelaw14.SupportOrder': WHATEVER THE INPUT: true; the input reads as it did. -/
def supportOrderSpec : ChangeSpec := { name := "supportOrder", fn := fun _ => fun
  | [d1, d2, d3, d4] => { results := [.lit (.bool true)], args := [d1, d2, d3, d4] }
  | _ => none }
def supportOrderRow : OpenClaim := { program := "ytofbadmjopefpaa", sum := "40800c5a07f85f2f268aff64362b423e57c9aa51637685cb267209769c213da8", func := "weephole/weepholelaw14.SupportOrder", spec := "supportOrder", recurses := true, plainKeys := false, apart := false }
def SupportOrderSaid : Prop := supportOrderRow.holds Try.pinned (OpenSpec.ofChange supportOrderSpec)

/-- ITS FALSE NEIGHBOUR: 'it returns false'. Refute it at one input. -/
def supportOrderWrong : ChangeSpec := { name := "supportOrder", fn := fun _ => fun
  | [d1, d2, d3, d4] => { results := [.lit (.bool false)], args := [d1, d2, d3, d4] }
  | _ => none }
def SupportOrderWrongFalsely : Prop := supportOrderRow.holds Try.pinned (OpenSpec.ofChange supportOrderWrong)

/-- 'weepholelaw14.SupportValues': WHATEVER THE INPUT: true; the input reads as it did. -/
def supportValuesSpec : ChangeSpec := { name := "supportValues", fn := fun _ => fun
  | [d1, d2, d3, d4, d5] => { results := [.lit (.bool true)], args := [d1, d2, d3, d4, d5] }
  | _ => none }
def supportValuesRow : OpenClaim := { program := "ytofbadmjopefpaa", sum := "40800c5a07f85f2f268aff64362b423e57c9aa51637685cb267209769c213da8", func := "weephole/weepholelaw14.SupportValues", spec := "supportValues", unfollowed := true, recurses := true, plainKeys := false, apart := false }
def SupportValuesSaid : Prop := supportValuesRow.holds Try.pinned (OpenSpec.ofChange supportValuesSpec)

/-- ITS FALSE NEIGHBOUR: 'it returns false'. Refute it at one input. -/
def supportValuesWrong : ChangeSpec := { name := "supportValues", fn := fun _ => fun
  | [d1, d2, d3, d4, d5] => { results := [.lit (.bool false)], args := [d1, d2, d3, d4, d5] }
  | _ => none }
def SupportValuesWrongFalsely : Prop := supportValuesRow.holds Try.pinned (OpenSpec.ofChange supportValuesWrong)

/- THE SECOND FORM. 'bulk': how many values and letters a reading holds, each counted each time it is reached (what is shared counts as often as it is met; a slice's spare places count too). A statement '..UptoSaid' is the law's where the arguments, and the package variables that the reading takes, are together of bulk at most 1048576: NARROWER than '..Said'. Prove '..Said' where nothing that the law and all that it calls make is longer than what came in: it says more and counts as full. Else prove '..UptoSaid'. A law counts once. -/
mutual
def uptoBulk {H : Type} : DataW H → Nat
  | .lit (.string bytes) => bytes.length + 1
  | .lit _ => 1
  | .nil => 1
  | .ptr d => uptoBulk d + 1
  | .slice elems spare => uptoBulkAll elems + uptoBulkAll spare + 1
  | .agg parts => uptoBulkAll parts + 1
  | .iface _ d => uptoBulk d + 1
  | .map entries => uptoBulkEntries entries + 1
  | .held _ => 1
def uptoBulkAll {H : Type} : List (DataW H) → Nat
  | [] => 0
  | d :: r => uptoBulk d + uptoBulkAll r
def uptoBulkEntries {H : Type} : List (Lit × DataW H) → Nat
  | [] => 0
  | x :: r => uptoBulkEntry x + uptoBulkEntries r
def uptoBulkEntry {H : Type} : Lit × DataW H → Nat
  | (.string bytes, d) => bytes.length + uptoBulk d + 1
  | (_, d) => uptoBulk d + 1
 end
def uptoSmall : (H : Type) → List (DataW H) → Bool := fun _ ds => decide (uptoBulkAll ds ≤ 1048576)
def OpenSpec.upto (s : _root_.Go.ChangeSpec) : _root_.Go.OpenSpec := { _root_.Go.OpenSpec.ofChange s with cond := some uptoSmall }

/-- 'weepholelaw14.SupportNames', WHERE WHAT IT READS IS OF BULK AT MOST 1048576: true; the input reads as it did. -/
def supportNamesUptoRow : OpenClaim := { program := "ytofbadmjopefpaa", sum := "40800c5a07f85f2f268aff64362b423e57c9aa51637685cb267209769c213da8", func := "weephole/weepholelaw14.SupportNames", spec := "supportNames", recurses := true, plainKeys := false, apart := false, narrowed := true }
def SupportNamesUptoSaid : Prop := supportNamesUptoRow.holds Try.pinned (OpenSpec.upto supportNamesSpec)

/-- 'weepholelaw14.SupportMatches', WHERE WHAT IT READS IS OF BULK AT MOST 1048576: true; the input reads as it did. -/
def supportMatchesUptoRow : OpenClaim := { program := "ytofbadmjopefpaa", sum := "40800c5a07f85f2f268aff64362b423e57c9aa51637685cb267209769c213da8", func := "weephole/weepholelaw14.SupportMatches", spec := "supportMatches", recurses := true, plainKeys := false, apart := false, narrowed := true }
def SupportMatchesUptoSaid : Prop := supportMatchesUptoRow.holds Try.pinned (OpenSpec.upto supportMatchesSpec)

/-- 'weepholelaw14.SupportWalk', WHERE WHAT IT READS IS OF BULK AT MOST 1048576: true; the input reads as it did. -/
def supportWalkUptoRow : OpenClaim := { program := "ytofbadmjopefpaa", sum := "40800c5a07f85f2f268aff64362b423e57c9aa51637685cb267209769c213da8", func := "weephole/weepholelaw14.SupportWalk", spec := "supportWalk", recurses := true, plainKeys := false, apart := false, narrowed := true }
def SupportWalkUptoSaid : Prop := supportWalkUptoRow.holds Try.pinned (OpenSpec.upto supportWalkSpec)

/-- 'weepholelaw14.SupportJoin', WHERE WHAT IT READS IS OF BULK AT MOST 1048576: true; the input reads as it did. -/
def supportJoinUptoRow : OpenClaim := { program := "ytofbadmjopefpaa", sum := "40800c5a07f85f2f268aff64362b423e57c9aa51637685cb267209769c213da8", func := "weephole/weepholelaw14.SupportJoin", spec := "supportJoin", unfollowed := true, recurses := true, plainKeys := false, apart := false, narrowed := true }
def SupportJoinUptoSaid : Prop := supportJoinUptoRow.holds Try.pinned (OpenSpec.upto supportJoinSpec)

/-- 'weepholelaw14.SupportNodes', WHERE WHAT IT READS IS OF BULK AT MOST 1048576: true; the input reads as it did. -/
def supportNodesUptoRow : OpenClaim := { program := "ytofbadmjopefpaa", sum := "40800c5a07f85f2f268aff64362b423e57c9aa51637685cb267209769c213da8", func := "weephole/weepholelaw14.SupportNodes", spec := "supportNodes", recurses := true, plainKeys := false, apart := false, narrowed := true }
def SupportNodesUptoSaid : Prop := supportNodesUptoRow.holds Try.pinned (OpenSpec.upto supportNodesSpec)

/-- 'weepholelaw14.SupportOrder', WHERE WHAT IT READS IS OF BULK AT MOST 1048576: true; the input reads as it did. -/
def supportOrderUptoRow : OpenClaim := { program := "ytofbadmjopefpaa", sum := "40800c5a07f85f2f268aff64362b423e57c9aa51637685cb267209769c213da8", func := "weephole/weepholelaw14.SupportOrder", spec := "supportOrder", recurses := true, plainKeys := false, apart := false, narrowed := true }
def SupportOrderUptoSaid : Prop := supportOrderUptoRow.holds Try.pinned (OpenSpec.upto supportOrderSpec)

/-- 'weepholelaw14.SupportValues', WHERE WHAT IT READS IS OF BULK AT MOST 1048576: true; the input reads as it did. -/
def supportValuesUptoRow : OpenClaim := { program := "ytofbadmjopefpaa", sum := "40800c5a07f85f2f268aff64362b423e57c9aa51637685cb267209769c213da8", func := "weephole/weepholelaw14.SupportValues", spec := "supportValues", unfollowed := true, recurses := true, plainKeys := false, apart := false, narrowed := true }
def SupportValuesUptoSaid : Prop := supportValuesUptoRow.holds Try.pinned (OpenSpec.upto supportValuesSpec)

end Rows
end Go.Proofs.Ytofbadmjopefpaa
