/-
  No cell of these rows narrows 'for every input' (looked for: loops, veiled, ifaces, maps, wideKeys, modest, calm, conditions, laid).
  DERIVED. THE GIVEN ROWS OF THIS SEAT. 7 by the template 'for every input the law returns true; each argument reads behind the call as it read before'; 0 by the template 'total and deterministic' (their statements: YteofgmjejocleaaTotals.lean).
  GIVEN WITH THE SEED: the statements are not yours to turn. If you find one false, say at which input.
  Laid BY PROGRAM, IN A SANDBOX (cutbox-rows.mjs): the forced cells as the released guide's own fill.sh prints them over the translation 4cdf4a2909122ae7… (all of the seat's roots in one cut). By AI agents, Wed Nov 11 2026. No macro, syntax, notation, axiom, sorry.
-/
import Derived.Test.YteofgmjejocleaaChecked
import GoSem.Claim
import GoSem.ClaimJoined
import GoSem.ClaimMapViews
import Derived.JoinedTies
import Derived.KernelRfl
namespace Go.Proofs.Yteofgmjejocleaa
/- THE CELL 'sum', in the pinned program and in every row, IS THE sha256 OF THE DUMP (.gsa) THAT YteofgmjejocleaaProg.lean LOADS. Nothing in Lean hashes anything: it is a label: what it is worth is what the hold of that sum in a sandbox is worth. -/
noncomputable def Try.pinned : Pinned := { name := "yteofgmjejocleaa", sum := "4cdf4a2909122ae73a31b4379b4155deb7d57e500dcdb6163e243a42073a5f00", checked := Try.checked }
namespace Rows
def none {H : Type} : Left H := { results := [], args := [] }

/-- 'weepholelaw11.EvalNames': WHATEVER THE INPUT: true; the input reads as it did. -/
def evalNamesSpec : ChangeSpec := { name := "evalNames", fn := fun _ => fun
  | [] => { results := [.lit (.bool true)], args := [] }
  | _ => none }
def evalNamesRow : OpenClaim := { program := "yteofgmjejocleaa", sum := "4cdf4a2909122ae73a31b4379b4155deb7d57e500dcdb6163e243a42073a5f00", func := "weephole/weepholelaw11.EvalNames", spec := "evalNames", unfollowed := true, recurses := true, plainKeys := false, apart := false }
def EvalNamesSaid : Prop := evalNamesRow.holds Try.pinned (OpenSpec.ofChange evalNamesSpec)

/-- ITS FALSE NEIGHBOUR: 'it returns false'. Refute it at one input. -/
def evalNamesWrong : ChangeSpec := { name := "evalNames", fn := fun _ => fun
  | [] => { results := [.lit (.bool false)], args := [] }
  | _ => none }
def EvalNamesWrongFalsely : Prop := evalNamesRow.holds Try.pinned (OpenSpec.ofChange evalNamesWrong)

/-- 'weepholelaw11.EvalDeep': WHATEVER THE INPUT: true; the input reads as it did. -/
def evalDeepSpec : ChangeSpec := { name := "evalDeep", fn := fun _ => fun
  | [d1, d2, d3] => { results := [.lit (.bool true)], args := [d1, d2, d3] }
  | _ => none }
def evalDeepRow : OpenClaim := { program := "yteofgmjejocleaa", sum := "4cdf4a2909122ae73a31b4379b4155deb7d57e500dcdb6163e243a42073a5f00", func := "weephole/weepholelaw11.EvalDeep", spec := "evalDeep", unfollowed := true, recurses := true, plainKeys := false, apart := false }
def EvalDeepSaid : Prop := evalDeepRow.holds Try.pinned (OpenSpec.ofChange evalDeepSpec)

/-- ITS FALSE NEIGHBOUR: 'it returns false'. Refute it at one input. -/
def evalDeepWrong : ChangeSpec := { name := "evalDeep", fn := fun _ => fun
  | [d1, d2, d3] => { results := [.lit (.bool false)], args := [d1, d2, d3] }
  | _ => none }
def EvalDeepWrongFalsely : Prop := evalDeepRow.holds Try.pinned (OpenSpec.ofChange evalDeepWrong)

/-- 'weepholelaw11.EvalMatches': WHATEVER THE INPUT: true; the input reads as it did. -/
def evalMatchesSpec : ChangeSpec := { name := "evalMatches", fn := fun _ => fun
  | [d1, d2, d3, d4] => { results := [.lit (.bool true)], args := [d1, d2, d3, d4] }
  | _ => none }
def evalMatchesRow : OpenClaim := { program := "yteofgmjejocleaa", sum := "4cdf4a2909122ae73a31b4379b4155deb7d57e500dcdb6163e243a42073a5f00", func := "weephole/weepholelaw11.EvalMatches", spec := "evalMatches", unfollowed := true, recurses := true, plainKeys := false, apart := false }
def EvalMatchesSaid : Prop := evalMatchesRow.holds Try.pinned (OpenSpec.ofChange evalMatchesSpec)

/-- ITS FALSE NEIGHBOUR: 'it returns false'. Refute it at one input. -/
def evalMatchesWrong : ChangeSpec := { name := "evalMatches", fn := fun _ => fun
  | [d1, d2, d3, d4] => { results := [.lit (.bool false)], args := [d1, d2, d3, d4] }
  | _ => none }
def EvalMatchesWrongFalsely : Prop := evalMatchesRow.holds Try.pinned (OpenSpec.ofChange evalMatchesWrong)

/-- 'weepholelaw11.EvalNodes': WHATEVER THE INPUT: true; the input reads as it did. -/
def evalNodesSpec : ChangeSpec := { name := "evalNodes", fn := fun _ => fun
  | [d1, d2, d3] => { results := [.lit (.bool true)], args := [d1, d2, d3] }
  | _ => none }
def evalNodesRow : OpenClaim := { program := "yteofgmjejocleaa", sum := "4cdf4a2909122ae73a31b4379b4155deb7d57e500dcdb6163e243a42073a5f00", func := "weephole/weepholelaw11.EvalNodes", spec := "evalNodes", unfollowed := true, recurses := true, plainKeys := false, apart := false }
def EvalNodesSaid : Prop := evalNodesRow.holds Try.pinned (OpenSpec.ofChange evalNodesSpec)

/-- ITS FALSE NEIGHBOUR: 'it returns false'. Refute it at one input. -/
def evalNodesWrong : ChangeSpec := { name := "evalNodes", fn := fun _ => fun
  | [d1, d2, d3] => { results := [.lit (.bool false)], args := [d1, d2, d3] }
  | _ => none }
def EvalNodesWrongFalsely : Prop := evalNodesRow.holds Try.pinned (OpenSpec.ofChange evalNodesWrong)

/-- 'weepholelaw11.EvalTogether': WHATEVER THE INPUT: true; the input reads as it did. -/
def evalTogetherSpec : ChangeSpec := { name := "evalTogether", fn := fun _ => fun
  | [d1, d2, d3, d4, d5] => { results := [.lit (.bool true)], args := [d1, d2, d3, d4, d5] }
  | _ => none }
def evalTogetherRow : OpenClaim := { program := "yteofgmjejocleaa", sum := "4cdf4a2909122ae73a31b4379b4155deb7d57e500dcdb6163e243a42073a5f00", func := "weephole/weepholelaw11.EvalTogether", spec := "evalTogether", unfollowed := true, recurses := true, plainKeys := false, apart := false }
def EvalTogetherSaid : Prop := evalTogetherRow.holds Try.pinned (OpenSpec.ofChange evalTogetherSpec)

/-- ITS FALSE NEIGHBOUR: 'it returns false'. Refute it at one input. -/
def evalTogetherWrong : ChangeSpec := { name := "evalTogether", fn := fun _ => fun
  | [d1, d2, d3, d4, d5] => { results := [.lit (.bool false)], args := [d1, d2, d3, d4, d5] }
  | _ => none }
def EvalTogetherWrongFalsely : Prop := evalTogetherRow.holds Try.pinned (OpenSpec.ofChange evalTogetherWrong)

/-- 'weepholelaw11.EvalLocal': WHATEVER THE INPUT: true; the input reads as it did. -/
def evalLocalSpec : ChangeSpec := { name := "evalLocal", fn := fun _ => fun
  | [d1, d2, d3, d4, d5, d6] => { results := [.lit (.bool true)], args := [d1, d2, d3, d4, d5, d6] }
  | _ => none }
def evalLocalRow : OpenClaim := { program := "yteofgmjejocleaa", sum := "4cdf4a2909122ae73a31b4379b4155deb7d57e500dcdb6163e243a42073a5f00", func := "weephole/weepholelaw11.EvalLocal", spec := "evalLocal", unfollowed := true, recurses := true, plainKeys := false, apart := false }
def EvalLocalSaid : Prop := evalLocalRow.holds Try.pinned (OpenSpec.ofChange evalLocalSpec)

/-- ITS FALSE NEIGHBOUR: 'it returns false'. Refute it at one input. -/
def evalLocalWrong : ChangeSpec := { name := "evalLocal", fn := fun _ => fun
  | [d1, d2, d3, d4, d5, d6] => { results := [.lit (.bool false)], args := [d1, d2, d3, d4, d5, d6] }
  | _ => none }
def EvalLocalWrongFalsely : Prop := evalLocalRow.holds Try.pinned (OpenSpec.ofChange evalLocalWrong)

/-- 'weepholelaw11.EvalMissing': WHATEVER THE INPUT: true; the input reads as it did. -/
def evalMissingSpec : ChangeSpec := { name := "evalMissing", fn := fun _ => fun
  | [d1, d2, d3, d4] => { results := [.lit (.bool true)], args := [d1, d2, d3, d4] }
  | _ => none }
def evalMissingRow : OpenClaim := { program := "yteofgmjejocleaa", sum := "4cdf4a2909122ae73a31b4379b4155deb7d57e500dcdb6163e243a42073a5f00", func := "weephole/weepholelaw11.EvalMissing", spec := "evalMissing", unfollowed := true, recurses := true, plainKeys := false, apart := false }
def EvalMissingSaid : Prop := evalMissingRow.holds Try.pinned (OpenSpec.ofChange evalMissingSpec)

/-- ITS FALSE NEIGHBOUR: 'it returns false'. Refute it at one input. -/
def evalMissingWrong : ChangeSpec := { name := "evalMissing", fn := fun _ => fun
  | [d1, d2, d3, d4] => { results := [.lit (.bool false)], args := [d1, d2, d3, d4] }
  | _ => none }
def EvalMissingWrongFalsely : Prop := evalMissingRow.holds Try.pinned (OpenSpec.ofChange evalMissingWrong)

/- THE SECOND FORM. 'bulk': how many values and letters a reading holds, each counted each time it is reached (what is shared counts as often as it is met; a slice's spare places count too). A statement '..UptoSaid' is the law's where the arguments, and the package variables that the reading takes, are together of bulk at most 1048576: NARROWER than '..Said'. Prove '..Said' where nothing that the law and all that it calls make is longer than what came in: it says more and counts as full. Else prove '..UptoSaid'. A law counts once. -/
mutual
def uptoBulk {H : Type} : DataW H → Nat
  | .lit (.string bytes) => bytes.length + 1
  | .lit _ => 1
  | .nil => 1
  | .ptr d => uptoBulk d + 1
  | .slice elems spare => uptoBulkAll elems + uptoBulkAll spare + 1
  | .agg parts => uptoBulkAll parts + 1
  | .iface _ d => uptoBulk d + 1
  | .map entries => uptoBulkEntries entries + 1
  | .held _ => 1
def uptoBulkAll {H : Type} : List (DataW H) → Nat
  | [] => 0
  | d :: r => uptoBulk d + uptoBulkAll r
def uptoBulkEntries {H : Type} : List (Lit × DataW H) → Nat
  | [] => 0
  | x :: r => uptoBulkEntry x + uptoBulkEntries r
def uptoBulkEntry {H : Type} : Lit × DataW H → Nat
  | (.string bytes, d) => bytes.length + uptoBulk d + 1
  | (_, d) => uptoBulk d + 1
 end
def uptoSmall : (H : Type) → List (DataW H) → Bool := fun _ ds => decide (uptoBulkAll ds ≤ 1048576)
def OpenSpec.upto (s : _root_.Go.ChangeSpec) : _root_.Go.OpenSpec := { _root_.Go.OpenSpec.ofChange s with cond := some uptoSmall }

/-- 'weepholelaw11.EvalNames', WHERE WHAT IT READS IS OF BULK AT MOST 1048576: true; the input reads as it did. -/
def evalNamesUptoRow : OpenClaim := { program := "yteofgmjejocleaa", sum := "4cdf4a2909122ae73a31b4379b4155deb7d57e500dcdb6163e243a42073a5f00", func := "weephole/weepholelaw11.EvalNames", spec := "evalNames", unfollowed := true, recurses := true, plainKeys := false, apart := false, narrowed := true }
def EvalNamesUptoSaid : Prop := evalNamesUptoRow.holds Try.pinned (OpenSpec.upto evalNamesSpec)

/-- 'weepholelaw11.EvalDeep', WHERE WHAT IT READS IS OF BULK AT MOST 1048576: true; the input reads as it did. -/
def evalDeepUptoRow : OpenClaim := { program := "yteofgmjejocleaa", sum := "4cdf4a2909122ae73a31b4379b4155deb7d57e500dcdb6163e243a42073a5f00", func := "weephole/weepholelaw11.EvalDeep", spec := "evalDeep", unfollowed := true, recurses := true, plainKeys := false, apart := false, narrowed := true }
def EvalDeepUptoSaid : Prop := evalDeepUptoRow.holds Try.pinned (OpenSpec.upto evalDeepSpec)

/-- 'weepholelaw11.EvalMatches', WHERE WHAT IT READS IS OF BULK AT MOST 1048576: true; the input reads as it did. -/
def evalMatchesUptoRow : OpenClaim := { program := "yteofgmjejocleaa", sum := "4cdf4a2909122ae73a31b4379b4155deb7d57e500dcdb6163e243a42073a5f00", func := "weephole/weepholelaw11.EvalMatches", spec := "evalMatches", unfollowed := true, recurses := true, plainKeys := false, apart := false, narrowed := true }
def EvalMatchesUptoSaid : Prop := evalMatchesUptoRow.holds Try.pinned (OpenSpec.upto evalMatchesSpec)

/-- 'weepholelaw11.EvalNodes', WHERE WHAT IT READS IS OF BULK AT MOST 1048576: true; the input reads as it did. -/
def evalNodesUptoRow : OpenClaim := { program := "yteofgmjejocleaa", sum := "4cdf4a2909122ae73a31b4379b4155deb7d57e500dcdb6163e243a42073a5f00", func := "weephole/weepholelaw11.EvalNodes", spec := "evalNodes", unfollowed := true, recurses := true, plainKeys := false, apart := false, narrowed := true }
def EvalNodesUptoSaid : Prop := evalNodesUptoRow.holds Try.pinned (OpenSpec.upto evalNodesSpec)

/-- 'weepholelaw11.EvalTogether', WHERE WHAT IT READS IS OF BULK AT MOST 1048576: true; the input reads as it did. -/
def evalTogetherUptoRow : OpenClaim := { program := "yteofgmjejocleaa", sum := "4cdf4a2909122ae73a31b4379b4155deb7d57e500dcdb6163e243a42073a5f00", func := "weephole/weepholelaw11.EvalTogether", spec := "evalTogether", unfollowed := true, recurses := true, plainKeys := false, apart := false, narrowed := true }
def EvalTogetherUptoSaid : Prop := evalTogetherUptoRow.holds Try.pinned (OpenSpec.upto evalTogetherSpec)

/-- 'weepholelaw11.EvalLocal', WHERE WHAT IT READS IS OF BULK AT MOST 1048576: true; the input reads as it did. -/
def evalLocalUptoRow : OpenClaim := { program := "yteofgmjejocleaa", sum := "4cdf4a2909122ae73a31b4379b4155deb7d57e500dcdb6163e243a42073a5f00", func := "weephole/weepholelaw11.EvalLocal", spec := "evalLocal", unfollowed := true, recurses := true, plainKeys := false, apart := false, narrowed := true }
def EvalLocalUptoSaid : Prop := evalLocalUptoRow.holds Try.pinned (OpenSpec.upto evalLocalSpec)

/-- 'weepholelaw11.EvalMissing', WHERE WHAT IT READS IS OF BULK AT MOST 1048576: true; the input reads as it did. -/
def evalMissingUptoRow : OpenClaim := { program := "yteofgmjejocleaa", sum := "4cdf4a2909122ae73a31b4379b4155deb7d57e500dcdb6163e243a42073a5f00", func := "weephole/weepholelaw11.EvalMissing", spec := "evalMissing", unfollowed := true, recurses := true, plainKeys := false, apart := false, narrowed := true }
def EvalMissingUptoSaid : Prop := evalMissingUptoRow.holds Try.pinned (OpenSpec.upto evalMissingSpec)

end Rows
end Go.Proofs.Yteofgmjejocleaa
