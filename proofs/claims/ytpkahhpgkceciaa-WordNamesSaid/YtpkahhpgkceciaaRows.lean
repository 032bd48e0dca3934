/-
  No cell of these rows narrows 'for every input' (looked for: loops, veiled, ifaces, maps, wideKeys, modest, calm, conditions, laid).
  DERIVED. THE GIVEN ROWS OF THIS SEAT. 16 by the template 'for every input the law returns true; each argument reads behind the call as it read before'; 0 by the template 'total and deterministic' (their statements: YtpkahhpgkceciaaTotals.lean).
  GIVEN WITH THE SEED: the statements are not yours to turn. If you find one false, say at which input.
  Laid BY PROGRAM, IN A SANDBOX (cutbox-rows.mjs): the forced cells as the released guide's own fill.sh prints them over the translation dcc744e97b67fc67… (all of the seat's roots in one cut). By AI agents, Wed Nov 11 2026. No macro, syntax, notation, axiom, sorry.
-/
import Derived.Test.YtpkahhpgkceciaaChecked
import GoSem.Claim
import GoSem.ClaimJoined
import GoSem.ClaimMapViews
import Derived.JoinedTies
import Derived.KernelRfl
namespace Go.Proofs.Ytpkahhpgkceciaa
/- THE CELL 'sum', in the pinned program and in every row, IS THE sha256 OF THE DUMP (.gsa) THAT YtpkahhpgkceciaaProg.lean LOADS. Nothing in Lean hashes anything: it is a label: what it is worth is what the hold of that sum in a sandbox is worth. -/
noncomputable def Try.pinned : Pinned := { name := "ytpkahhpgkceciaa", sum := "dcc744e97b67fc672569b1e55a49f217dee7dd0af1f547c560e859e97ef27734", checked := Try.checked }
namespace Rows
def none {H : Type} : Left H := { results := [], args := [] }

/-- 'weepholelaw10.TermGrows': WHATEVER THE INPUT: true; the input reads as it did. -/
def termGrowsSpec : ChangeSpec := { name := "termGrows", fn := fun _ => fun
  | [d1, d2] => { results := [.lit (.bool true)], args := [d1, d2] }
  | _ => none }
def termGrowsRow : OpenClaim := { program := "ytpkahhpgkceciaa", sum := "dcc744e97b67fc672569b1e55a49f217dee7dd0af1f547c560e859e97ef27734", func := "weephole/weepholelaw10.TermGrows", spec := "termGrows", plainKeys := false, apart := false }
def TermGrowsSaid : Prop := termGrowsRow.holds Try.pinned (OpenSpec.ofChange termGrowsSpec)

/-- ITS FALSE NEIGHBOUR: 'it returns false'. Refute it at one input. -/
def termGrowsWrong : ChangeSpec := { name := "termGrows", fn := fun _ => fun
  | [d1, d2] => { results := [.lit (.bool false)], args := [d1, d2] }
  | _ => none }
def TermGrowsWrongFalsely : Prop := termGrowsRow.holds Try.pinned (OpenSpec.ofChange termGrowsWrong)

/-- 'weepholelaw10.TermOnce': WHATEVER THE INPUT: true; the input reads as it did. -/
def termOnceSpec : ChangeSpec := { name := "termOnce", fn := fun _ => fun
  | [d1, d2] => { results := [.lit (.bool true)], args := [d1, d2] }
  | _ => none }
def termOnceRow : OpenClaim := { program := "ytpkahhpgkceciaa", sum := "dcc744e97b67fc672569b1e55a49f217dee7dd0af1f547c560e859e97ef27734", func := "weephole/weepholelaw10.TermOnce", spec := "termOnce", plainKeys := false, apart := false }
def TermOnceSaid : Prop := termOnceRow.holds Try.pinned (OpenSpec.ofChange termOnceSpec)

/-- ITS FALSE NEIGHBOUR: 'it returns false'. Refute it at one input. -/
def termOnceWrong : ChangeSpec := { name := "termOnce", fn := fun _ => fun
  | [d1, d2] => { results := [.lit (.bool false)], args := [d1, d2] }
  | _ => none }
def TermOnceWrongFalsely : Prop := termOnceRow.holds Try.pinned (OpenSpec.ofChange termOnceWrong)

/-- 'weepholelaw10.TermStays': WHATEVER THE INPUT: true; the input reads as it did. -/
def termStaysSpec : ChangeSpec := { name := "termStays", fn := fun _ => fun
  | [d1, d2, d3] => { results := [.lit (.bool true)], args := [d1, d2, d3] }
  | _ => none }
def termStaysRow : OpenClaim := { program := "ytpkahhpgkceciaa", sum := "dcc744e97b67fc672569b1e55a49f217dee7dd0af1f547c560e859e97ef27734", func := "weephole/weepholelaw10.TermStays", spec := "termStays", plainKeys := false, apart := false }
def TermStaysSaid : Prop := termStaysRow.holds Try.pinned (OpenSpec.ofChange termStaysSpec)

/-- ITS FALSE NEIGHBOUR: 'it returns false'. Refute it at one input. -/
def termStaysWrong : ChangeSpec := { name := "termStays", fn := fun _ => fun
  | [d1, d2, d3] => { results := [.lit (.bool false)], args := [d1, d2, d3] }
  | _ => none }
def TermStaysWrongFalsely : Prop := termStaysRow.holds Try.pinned (OpenSpec.ofChange termStaysWrong)

/-- 'weepholelaw10.TermRoom': WHATEVER THE INPUT: true; the input reads as it did. -/
def termRoomSpec : ChangeSpec := { name := "termRoom", fn := fun _ => fun
  | [d1, d2] => { results := [.lit (.bool true)], args := [d1, d2] }
  | _ => none }
def termRoomRow : OpenClaim := { program := "ytpkahhpgkceciaa", sum := "dcc744e97b67fc672569b1e55a49f217dee7dd0af1f547c560e859e97ef27734", func := "weephole/weepholelaw10.TermRoom", spec := "termRoom", plainKeys := false, apart := false }
def TermRoomSaid : Prop := termRoomRow.holds Try.pinned (OpenSpec.ofChange termRoomSpec)

/-- ITS FALSE NEIGHBOUR: 'it returns false'. Refute it at one input. -/
def termRoomWrong : ChangeSpec := { name := "termRoom", fn := fun _ => fun
  | [d1, d2] => { results := [.lit (.bool false)], args := [d1, d2] }
  | _ => none }
def TermRoomWrongFalsely : Prop := termRoomRow.holds Try.pinned (OpenSpec.ofChange termRoomWrong)

/-- 'weepholelaw09.WordApplies': WHATEVER THE INPUT: true; the input reads as it did. -/
def wordAppliesSpec : ChangeSpec := { name := "wordApplies", fn := fun _ => fun
  | [d1, d2, d3] => { results := [.lit (.bool true)], args := [d1, d2, d3] }
  | _ => none }
def wordAppliesRow : OpenClaim := { program := "ytpkahhpgkceciaa", sum := "dcc744e97b67fc672569b1e55a49f217dee7dd0af1f547c560e859e97ef27734", func := "weephole/weepholelaw09.WordApplies", spec := "wordApplies", unfollowed := true, recurses := true, plainKeys := false, apart := false }
def WordAppliesSaid : Prop := wordAppliesRow.holds Try.pinned (OpenSpec.ofChange wordAppliesSpec)

/-- ITS FALSE NEIGHBOUR: 'it returns false'. Refute it at one input. -/
def wordAppliesWrong : ChangeSpec := { name := "wordApplies", fn := fun _ => fun
  | [d1, d2, d3] => { results := [.lit (.bool false)], args := [d1, d2, d3] }
  | _ => none }
def WordAppliesWrongFalsely : Prop := wordAppliesRow.holds Try.pinned (OpenSpec.ofChange wordAppliesWrong)

/-- 'weepholelaw09.WordAll': WHATEVER THE INPUT: true; the input reads as it did. -/
def wordAllSpec : ChangeSpec := { name := "wordAll", fn := fun _ => fun
  | [d1, d2, d3, d4] => { results := [.lit (.bool true)], args := [d1, d2, d3, d4] }
  | _ => none }
def wordAllRow : OpenClaim := { program := "ytpkahhpgkceciaa", sum := "dcc744e97b67fc672569b1e55a49f217dee7dd0af1f547c560e859e97ef27734", func := "weephole/weepholelaw09.WordAll", spec := "wordAll", unfollowed := true, recurses := true, plainKeys := false, apart := false }
def WordAllSaid : Prop := wordAllRow.holds Try.pinned (OpenSpec.ofChange wordAllSpec)

/-- ITS FALSE NEIGHBOUR: 'it returns false'. Refute it at one input. -/
def wordAllWrong : ChangeSpec := { name := "wordAll", fn := fun _ => fun
  | [d1, d2, d3, d4] => { results := [.lit (.bool false)], args := [d1, d2, d3, d4] }
  | _ => none }
def WordAllWrongFalsely : Prop := wordAllRow.holds Try.pinned (OpenSpec.ofChange wordAllWrong)

/-- 'weepholelaw10.TermNames': WHATEVER THE INPUT: true; the input reads as it did. -/
def termNamesSpec : ChangeSpec := { name := "termNames", fn := fun _ => fun
  | [] => { results := [.lit (.bool true)], args := [] }
  | _ => none }
def termNamesRow : OpenClaim := { program := "ytpkahhpgkceciaa", sum := "dcc744e97b67fc672569b1e55a49f217dee7dd0af1f547c560e859e97ef27734", func := "weephole/weepholelaw10.TermNames", spec := "termNames", plainKeys := false, apart := false }
def TermNamesSaid : Prop := termNamesRow.holds Try.pinned (OpenSpec.ofChange termNamesSpec)

/-- ITS FALSE NEIGHBOUR: 'it returns false'. Refute it at one input. -/
def termNamesWrong : ChangeSpec := { name := "termNames", fn := fun _ => fun
  | [] => { results := [.lit (.bool false)], args := [] }
  | _ => none }
def TermNamesWrongFalsely : Prop := termNamesRow.holds Try.pinned (OpenSpec.ofChange termNamesWrong)

/-- 'weepholelaw10.TermMatches': WHATEVER THE INPUT: true; the input reads as it did. -/
def termMatchesSpec : ChangeSpec := { name := "termMatches", fn := fun _ => fun
  | [d1, d2, d3, d4] => { results := [.lit (.bool true)], args := [d1, d2, d3, d4] }
  | _ => none }
def termMatchesRow : OpenClaim := { program := "ytpkahhpgkceciaa", sum := "dcc744e97b67fc672569b1e55a49f217dee7dd0af1f547c560e859e97ef27734", func := "weephole/weepholelaw10.TermMatches", spec := "termMatches", plainKeys := false, apart := false }
def TermMatchesSaid : Prop := termMatchesRow.holds Try.pinned (OpenSpec.ofChange termMatchesSpec)

/-- ITS FALSE NEIGHBOUR: 'it returns false'. Refute it at one input. -/
def termMatchesWrong : ChangeSpec := { name := "termMatches", fn := fun _ => fun
  | [d1, d2, d3, d4] => { results := [.lit (.bool false)], args := [d1, d2, d3, d4] }
  | _ => none }
def TermMatchesWrongFalsely : Prop := termMatchesRow.holds Try.pinned (OpenSpec.ofChange termMatchesWrong)

/-- 'weepholelaw10.TermCopies': WHATEVER THE INPUT: true; the input reads as it did. -/
def termCopiesSpec : ChangeSpec := { name := "termCopies", fn := fun _ => fun
  | [d1, d2, d3] => { results := [.lit (.bool true)], args := [d1, d2, d3] }
  | _ => none }
def termCopiesRow : OpenClaim := { program := "ytpkahhpgkceciaa", sum := "dcc744e97b67fc672569b1e55a49f217dee7dd0af1f547c560e859e97ef27734", func := "weephole/weepholelaw10.TermCopies", spec := "termCopies", plainKeys := false, apart := false }
def TermCopiesSaid : Prop := termCopiesRow.holds Try.pinned (OpenSpec.ofChange termCopiesSpec)

/-- ITS FALSE NEIGHBOUR: 'it returns false'. Refute it at one input. -/
def termCopiesWrong : ChangeSpec := { name := "termCopies", fn := fun _ => fun
  | [d1, d2, d3] => { results := [.lit (.bool false)], args := [d1, d2, d3] }
  | _ => none }
def TermCopiesWrongFalsely : Prop := termCopiesRow.holds Try.pinned (OpenSpec.ofChange termCopiesWrong)

/-- 'weepholelaw09.WordNegs': WHATEVER THE INPUT: true; the input reads as it did. -/
def wordNegsSpec : ChangeSpec := { name := "wordNegs", fn := fun _ => fun
  | [d1, d2, d3] => { results := [.lit (.bool true)], args := [d1, d2, d3] }
  | _ => none }
def wordNegsRow : OpenClaim := { program := "ytpkahhpgkceciaa", sum := "dcc744e97b67fc672569b1e55a49f217dee7dd0af1f547c560e859e97ef27734", func := "weephole/weepholelaw09.WordNegs", spec := "wordNegs", unfollowed := true, recurses := true, plainKeys := false, apart := false }
def WordNegsSaid : Prop := wordNegsRow.holds Try.pinned (OpenSpec.ofChange wordNegsSpec)

/-- ITS FALSE NEIGHBOUR: 'it returns false'. Refute it at one input. -/
def wordNegsWrong : ChangeSpec := { name := "wordNegs", fn := fun _ => fun
  | [d1, d2, d3] => { results := [.lit (.bool false)], args := [d1, d2, d3] }
  | _ => none }
def WordNegsWrongFalsely : Prop := wordNegsRow.holds Try.pinned (OpenSpec.ofChange wordNegsWrong)

/-- 'weepholelaw09.WordShifts': WHATEVER THE INPUT: true; the input reads as it did. -/
def wordShiftsSpec : ChangeSpec := { name := "wordShifts", fn := fun _ => fun
  | [d1, d2, d3] => { results := [.lit (.bool true)], args := [d1, d2, d3] }
  | _ => none }
def wordShiftsRow : OpenClaim := { program := "ytpkahhpgkceciaa", sum := "dcc744e97b67fc672569b1e55a49f217dee7dd0af1f547c560e859e97ef27734", func := "weephole/weepholelaw09.WordShifts", spec := "wordShifts", unfollowed := true, recurses := true, plainKeys := false, apart := false }
def WordShiftsSaid : Prop := wordShiftsRow.holds Try.pinned (OpenSpec.ofChange wordShiftsSpec)

/-- ITS FALSE NEIGHBOUR: 'it returns false'. Refute it at one input. -/
def wordShiftsWrong : ChangeSpec := { name := "wordShifts", fn := fun _ => fun
  | [d1, d2, d3] => { results := [.lit (.bool false)], args := [d1, d2, d3] }
  | _ => none }
def WordShiftsWrongFalsely : Prop := wordShiftsRow.holds Try.pinned (OpenSpec.ofChange wordShiftsWrong)

/-- 'weepholelaw09.WordParts': WHATEVER THE INPUT: true; the input reads as it did. -/
def wordPartsSpec : ChangeSpec := { name := "wordParts", fn := fun _ => fun
  | [d1, d2, d3, d4, d5, d6, d7] => { results := [.lit (.bool true)], args := [d1, d2, d3, d4, d5, d6, d7] }
  | _ => none }
def wordPartsRow : OpenClaim := { program := "ytpkahhpgkceciaa", sum := "dcc744e97b67fc672569b1e55a49f217dee7dd0af1f547c560e859e97ef27734", func := "weephole/weepholelaw09.WordParts", spec := "wordParts", unfollowed := true, recurses := true, plainKeys := false, apart := false }
def WordPartsSaid : Prop := wordPartsRow.holds Try.pinned (OpenSpec.ofChange wordPartsSpec)

/-- ITS FALSE NEIGHBOUR: 'it returns false'. Refute it at one input. -/
def wordPartsWrong : ChangeSpec := { name := "wordParts", fn := fun _ => fun
  | [d1, d2, d3, d4, d5, d6, d7] => { results := [.lit (.bool false)], args := [d1, d2, d3, d4, d5, d6, d7] }
  | _ => none }
def WordPartsWrongFalsely : Prop := wordPartsRow.holds Try.pinned (OpenSpec.ofChange wordPartsWrong)

/-- 'weepholelaw09.WordTrims': WHATEVER THE INPUT: true; the input reads as it did. -/
def wordTrimsSpec : ChangeSpec := { name := "wordTrims", fn := fun _ => fun
  | [d1, d2] => { results := [.lit (.bool true)], args := [d1, d2] }
  | _ => none }
def wordTrimsRow : OpenClaim := { program := "ytpkahhpgkceciaa", sum := "dcc744e97b67fc672569b1e55a49f217dee7dd0af1f547c560e859e97ef27734", func := "weephole/weepholelaw09.WordTrims", spec := "wordTrims", unfollowed := true, recurses := true, plainKeys := false, apart := false }
def WordTrimsSaid : Prop := wordTrimsRow.holds Try.pinned (OpenSpec.ofChange wordTrimsSpec)

/-- ITS FALSE NEIGHBOUR: 'it returns false'. Refute it at one input. -/
def wordTrimsWrong : ChangeSpec := { name := "wordTrims", fn := fun _ => fun
  | [d1, d2] => { results := [.lit (.bool false)], args := [d1, d2] }
  | _ => none }
def WordTrimsWrongFalsely : Prop := wordTrimsRow.holds Try.pinned (OpenSpec.ofChange wordTrimsWrong)

/-- 'weepholelaw09.WordNames': WHATEVER THE INPUT: true; the input reads as it did. -/
def wordNamesSpec : ChangeSpec := { name := "wordNames", fn := fun _ => fun
  | [] => { results := [.lit (.bool true)], args := [] }
  | _ => none }
def wordNamesRow : OpenClaim := { program := "ytpkahhpgkceciaa", sum := "dcc744e97b67fc672569b1e55a49f217dee7dd0af1f547c560e859e97ef27734", func := "weephole/weepholelaw09.WordNames", spec := "wordNames", unfollowed := true, recurses := true, plainKeys := false, apart := false }
def WordNamesSaid : Prop := wordNamesRow.holds Try.pinned (OpenSpec.ofChange wordNamesSpec)

/-- ITS FALSE NEIGHBOUR: 'it returns false'. Refute it at one input. -/
def wordNamesWrong : ChangeSpec := { name := "wordNames", fn := fun _ => fun
  | [] => { results := [.lit (.bool false)], args := [] }
  | _ => none }
def WordNamesWrongFalsely : Prop := wordNamesRow.holds Try.pinned (OpenSpec.ofChange wordNamesWrong)

/-- 'weepholelaw09.WordRing': WHATEVER THE INPUT: true; the input reads as it did. -/
def wordRingSpec : ChangeSpec := { name := "wordRing", fn := fun _ => fun
  | [d1, d2, d3, d4] => { results := [.lit (.bool true)], args := [d1, d2, d3, d4] }
  | _ => none }
def wordRingRow : OpenClaim := { program := "ytpkahhpgkceciaa", sum := "dcc744e97b67fc672569b1e55a49f217dee7dd0af1f547c560e859e97ef27734", func := "weephole/weepholelaw09.WordRing", spec := "wordRing", unfollowed := true, recurses := true, plainKeys := false, apart := false }
def WordRingSaid : Prop := wordRingRow.holds Try.pinned (OpenSpec.ofChange wordRingSpec)

/-- ITS FALSE NEIGHBOUR: 'it returns false'. Refute it at one input. -/
def wordRingWrong : ChangeSpec := { name := "wordRing", fn := fun _ => fun
  | [d1, d2, d3, d4] => { results := [.lit (.bool false)], args := [d1, d2, d3, d4] }
  | _ => none }
def WordRingWrongFalsely : Prop := wordRingRow.holds Try.pinned (OpenSpec.ofChange wordRingWrong)

/-- 'weepholelaw09.WordCompares': WHATEVER THE INPUT: true; the input reads as it did. -/
def wordComparesSpec : ChangeSpec := { name := "wordCompares", fn := fun _ => fun
  | [d1, d2, d3] => { results := [.lit (.bool true)], args := [d1, d2, d3] }
  | _ => none }
def wordComparesRow : OpenClaim := { program := "ytpkahhpgkceciaa", sum := "dcc744e97b67fc672569b1e55a49f217dee7dd0af1f547c560e859e97ef27734", func := "weephole/weepholelaw09.WordCompares", spec := "wordCompares", unfollowed := true, recurses := true, plainKeys := false, apart := false }
def WordComparesSaid : Prop := wordComparesRow.holds Try.pinned (OpenSpec.ofChange wordComparesSpec)

/-- ITS FALSE NEIGHBOUR: 'it returns false'. Refute it at one input. -/
def wordComparesWrong : ChangeSpec := { name := "wordCompares", fn := fun _ => fun
  | [d1, d2, d3] => { results := [.lit (.bool false)], args := [d1, d2, d3] }
  | _ => none }
def WordComparesWrongFalsely : Prop := wordComparesRow.holds Try.pinned (OpenSpec.ofChange wordComparesWrong)

/- THE SECOND FORM. 'bulk': how many values and letters a reading holds, each counted each time it is reached (what is shared counts as often as it is met; a slice's spare places count too). A statement '..UptoSaid' is the law's where the arguments, and the package variables that the reading takes, are together of bulk at most 1048576: NARROWER than '..Said'. Prove '..Said' where nothing that the law and all that it calls make is longer than what came in: it says more and counts as full. Else prove '..UptoSaid'. A law counts once. -/
mutual
def uptoBulk {H : Type} : DataW H → Nat
  | .lit (.string bytes) => bytes.length + 1
  | .lit _ => 1
  | .nil => 1
  | .ptr d => uptoBulk d + 1
  | .slice elems spare => uptoBulkAll elems + uptoBulkAll spare + 1
  | .agg parts => uptoBulkAll parts + 1
  | .iface _ d => uptoBulk d + 1
  | .map entries => uptoBulkEntries entries + 1
  | .held _ => 1
def uptoBulkAll {H : Type} : List (DataW H) → Nat
  | [] => 0
  | d :: r => uptoBulk d + uptoBulkAll r
def uptoBulkEntries {H : Type} : List (Lit × DataW H) → Nat
  | [] => 0
  | x :: r => uptoBulkEntry x + uptoBulkEntries r
def uptoBulkEntry {H : Type} : Lit × DataW H → Nat
  | (.string bytes, d) => bytes.length + uptoBulk d + 1
  | (_, d) => uptoBulk d + 1
 end
def uptoSmall : (H : Type) → List (DataW H) → Bool := fun _ ds => decide (uptoBulkAll ds ≤ 1048576)
def OpenSpec.upto (s : _root_.Go.ChangeSpec) : _root_.Go.OpenSpec := { _root_.Go.OpenSpec.ofChange s with cond := some uptoSmall }

/-- 'weepholelaw10.TermGrows', WHERE WHAT IT READS IS OF BULK AT MOST 1048576: true; the input reads as it did. -/
def termGrowsUptoRow : OpenClaim := { program := "ytpkahhpgkceciaa", sum := "dcc744e97b67fc672569b1e55a49f217dee7dd0af1f547c560e859e97ef27734", func := "weephole/weepholelaw10.TermGrows", spec := "termGrows", plainKeys := false, apart := false, narrowed := true }
def TermGrowsUptoSaid : Prop := termGrowsUptoRow.holds Try.pinned (OpenSpec.upto termGrowsSpec)

/-- 'weepholelaw10.TermOnce', WHERE WHAT IT READS IS OF BULK AT MOST 1048576: true; the input reads as it did. -/
def termOnceUptoRow : OpenClaim := { program := "ytpkahhpgkceciaa", sum := "dcc744e97b67fc672569b1e55a49f217dee7dd0af1f547c560e859e97ef27734", func := "weephole/weepholelaw10.TermOnce", spec := "termOnce", plainKeys := false, apart := false, narrowed := true }
def TermOnceUptoSaid : Prop := termOnceUptoRow.holds Try.pinned (OpenSpec.upto termOnceSpec)

/-- 'weepholelaw10.TermStays', WHERE WHAT IT READS IS OF BULK AT MOST 1048576: true; the input reads as it did. -/
def termStaysUptoRow : OpenClaim := { program := "ytpkahhpgkceciaa", sum := "dcc744e97b67fc672569b1e55a49f217dee7dd0af1f547c560e859e97ef27734", func := "weephole/weepholelaw10.TermStays", spec := "termStays", plainKeys := false, apart := false, narrowed := true }
def TermStaysUptoSaid : Prop := termStaysUptoRow.holds Try.pinned (OpenSpec.upto termStaysSpec)

/-- 'weepholelaw10.TermRoom', WHERE WHAT IT READS IS OF BULK AT MOST 1048576: true; the input reads as it did. -/
def termRoomUptoRow : OpenClaim := { program := "ytpkahhpgkceciaa", sum := "dcc744e97b67fc672569b1e55a49f217dee7dd0af1f547c560e859e97ef27734", func := "weephole/weepholelaw10.TermRoom", spec := "termRoom", plainKeys := false, apart := false, narrowed := true }
def TermRoomUptoSaid : Prop := termRoomUptoRow.holds Try.pinned (OpenSpec.upto termRoomSpec)

/-- 'weepholelaw09.WordApplies', WHERE WHAT IT READS IS OF BULK AT MOST 1048576: true; the input reads as it did. -/
def wordAppliesUptoRow : OpenClaim := { program := "ytpkahhpgkceciaa", sum := "dcc744e97b67fc672569b1e55a49f217dee7dd0af1f547c560e859e97ef27734", func := "weephole/weepholelaw09.WordApplies", spec := "wordApplies", unfollowed := true, recurses := true, plainKeys := false, apart := false, narrowed := true }
def WordAppliesUptoSaid : Prop := wordAppliesUptoRow.holds Try.pinned (OpenSpec.upto wordAppliesSpec)

/-- 'weepholelaw09.WordAll', WHERE WHAT IT READS IS OF BULK AT MOST 1048576: true; the input reads as it did. -/
def wordAllUptoRow : OpenClaim := { program := "ytpkahhpgkceciaa", sum := "dcc744e97b67fc672569b1e55a49f217dee7dd0af1f547c560e859e97ef27734", func := "weephole/weepholelaw09.WordAll", spec := "wordAll", unfollowed := true, recurses := true, plainKeys := false, apart := false, narrowed := true }
def WordAllUptoSaid : Prop := wordAllUptoRow.holds Try.pinned (OpenSpec.upto wordAllSpec)

/-- 'weepholelaw10.TermNames', WHERE WHAT IT READS IS OF BULK AT MOST 1048576: true; the input reads as it did. -/
def termNamesUptoRow : OpenClaim := { program := "ytpkahhpgkceciaa", sum := "dcc744e97b67fc672569b1e55a49f217dee7dd0af1f547c560e859e97ef27734", func := "weephole/weepholelaw10.TermNames", spec := "termNames", plainKeys := false, apart := false, narrowed := true }
def TermNamesUptoSaid : Prop := termNamesUptoRow.holds Try.pinned (OpenSpec.upto termNamesSpec)

/-- 'weepholelaw10.TermMatches', WHERE WHAT IT READS IS OF BULK AT MOST 1048576: true; the input reads as it did. -/
def termMatchesUptoRow : OpenClaim := { program := "ytpkahhpgkceciaa", sum := "dcc744e97b67fc672569b1e55a49f217dee7dd0af1f547c560e859e97ef27734", func := "weephole/weepholelaw10.TermMatches", spec := "termMatches", plainKeys := false, apart := false, narrowed := true }
def TermMatchesUptoSaid : Prop := termMatchesUptoRow.holds Try.pinned (OpenSpec.upto termMatchesSpec)

/-- 'weepholelaw10.TermCopies', WHERE WHAT IT READS IS OF BULK AT MOST 1048576: true; the input reads as it did. -/
def termCopiesUptoRow : OpenClaim := { program := "ytpkahhpgkceciaa", sum := "dcc744e97b67fc672569b1e55a49f217dee7dd0af1f547c560e859e97ef27734", func := "weephole/weepholelaw10.TermCopies", spec := "termCopies", plainKeys := false, apart := false, narrowed := true }
def TermCopiesUptoSaid : Prop := termCopiesUptoRow.holds Try.pinned (OpenSpec.upto termCopiesSpec)

/-- 'weepholelaw09.WordNegs', WHERE WHAT IT READS IS OF BULK AT MOST 1048576: true; the input reads as it did. -/
def wordNegsUptoRow : OpenClaim := { program := "ytpkahhpgkceciaa", sum := "dcc744e97b67fc672569b1e55a49f217dee7dd0af1f547c560e859e97ef27734", func := "weephole/weepholelaw09.WordNegs", spec := "wordNegs", unfollowed := true, recurses := true, plainKeys := false, apart := false, narrowed := true }
def WordNegsUptoSaid : Prop := wordNegsUptoRow.holds Try.pinned (OpenSpec.upto wordNegsSpec)

/-- 'weepholelaw09.WordShifts', WHERE WHAT IT READS IS OF BULK AT MOST 1048576: true; the input reads as it did. -/
def wordShiftsUptoRow : OpenClaim := { program := "ytpkahhpgkceciaa", sum := "dcc744e97b67fc672569b1e55a49f217dee7dd0af1f547c560e859e97ef27734", func := "weephole/weepholelaw09.WordShifts", spec := "wordShifts", unfollowed := true, recurses := true, plainKeys := false, apart := false, narrowed := true }
def WordShiftsUptoSaid : Prop := wordShiftsUptoRow.holds Try.pinned (OpenSpec.upto wordShiftsSpec)

/-- 'weepholelaw09.WordParts', WHERE WHAT IT READS IS OF BULK AT MOST 1048576: true; the input reads as it did. -/
def wordPartsUptoRow : OpenClaim := { program := "ytpkahhpgkceciaa", sum := "dcc744e97b67fc672569b1e55a49f217dee7dd0af1f547c560e859e97ef27734", func := "weephole/weepholelaw09.WordParts", spec := "wordParts", unfollowed := true, recurses := true, plainKeys := false, apart := false, narrowed := true }
def WordPartsUptoSaid : Prop := wordPartsUptoRow.holds Try.pinned (OpenSpec.upto wordPartsSpec)

/-- 'weepholelaw09.WordTrims', WHERE WHAT IT READS IS OF BULK AT MOST 1048576: true; the input reads as it did. -/
def wordTrimsUptoRow : OpenClaim := { program := "ytpkahhpgkceciaa", sum := "dcc744e97b67fc672569b1e55a49f217dee7dd0af1f547c560e859e97ef27734", func := "weephole/weepholelaw09.WordTrims", spec := "wordTrims", unfollowed := true, recurses := true, plainKeys := false, apart := false, narrowed := true }
def WordTrimsUptoSaid : Prop := wordTrimsUptoRow.holds Try.pinned (OpenSpec.upto wordTrimsSpec)

/-- 'weepholelaw09.WordNames', WHERE WHAT IT READS IS OF BULK AT MOST 1048576: true; the input reads as it did. -/
def wordNamesUptoRow : OpenClaim := { program := "ytpkahhpgkceciaa", sum := "dcc744e97b67fc672569b1e55a49f217dee7dd0af1f547c560e859e97ef27734", func := "weephole/weepholelaw09.WordNames", spec := "wordNames", unfollowed := true, recurses := true, plainKeys := false, apart := false, narrowed := true }
def WordNamesUptoSaid : Prop := wordNamesUptoRow.holds Try.pinned (OpenSpec.upto wordNamesSpec)

/-- 'weepholelaw09.WordRing', WHERE WHAT IT READS IS OF BULK AT MOST 1048576: true; the input reads as it did. -/
def wordRingUptoRow : OpenClaim := { program := "ytpkahhpgkceciaa", sum := "dcc744e97b67fc672569b1e55a49f217dee7dd0af1f547c560e859e97ef27734", func := "weephole/weepholelaw09.WordRing", spec := "wordRing", unfollowed := true, recurses := true, plainKeys := false, apart := false, narrowed := true }
def WordRingUptoSaid : Prop := wordRingUptoRow.holds Try.pinned (OpenSpec.upto wordRingSpec)

/-- 'weepholelaw09.WordCompares', WHERE WHAT IT READS IS OF BULK AT MOST 1048576: true; the input reads as it did. -/
def wordComparesUptoRow : OpenClaim := { program := "ytpkahhpgkceciaa", sum := "dcc744e97b67fc672569b1e55a49f217dee7dd0af1f547c560e859e97ef27734", func := "weephole/weepholelaw09.WordCompares", spec := "wordCompares", unfollowed := true, recurses := true, plainKeys := false, apart := false, narrowed := true }
def WordComparesUptoSaid : Prop := wordComparesUptoRow.holds Try.pinned (OpenSpec.upto wordComparesSpec)

end Rows
end Go.Proofs.Ytpkahhpgkceciaa
