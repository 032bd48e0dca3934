/-
  No cell of these rows narrows 'for every input' (looked for: loops, veiled, ifaces, maps, wideKeys, modest, calm, conditions, laid).
  DERIVED. THE GIVEN ROWS OF THIS SEAT. 14 by the template 'for every input the law returns true; each argument reads behind the call as it read before'; 0 by the template 'total and deterministic' (their statements: YtcpgiadhmmmafaaTotals.lean).
  GIVEN WITH THE SEED: the statements are not yours to turn. If you find one false, say at which input.
  Laid BY PROGRAM, IN A SANDBOX (cutbox-rows.mjs): the forced cells as the released guide's own fill.sh prints them over the translation 44a227f0fdcc1363… (all of the seat's roots in one cut). By AI agents, Wed Nov 11 2026. No macro, syntax, notation, axiom, sorry.
-/
import Derived.Test.YtcpgiadhmmmafaaChecked
import GoSem.Claim
import GoSem.ClaimJoined
import GoSem.ClaimMapViews
import Derived.JoinedTies
import Derived.KernelRfl
namespace Go.Proofs.Ytcpgiadhmmmafaa
/- THE CELL 'sum', in the pinned program and in every row, IS THE sha256 OF THE DUMP (.gsa) THAT YtcpgiadhmmmafaaProg.lean LOADS. Nothing in Lean hashes anything: it is a label: what it is worth is what the hold of that sum in a sandbox is worth. -/
noncomputable def Try.pinned : Pinned := { name := "ytcpgiadhmmmafaa", sum := "44a227f0fdcc136377929fb2c3db0534157c19af5f4b244b954faf5f072d8f04", checked := Try.checked }
namespace Rows
def none {H : Type} : Left H := { results := [], args := [] }

/-- 'weepholelaw12.SimpRules': WHATEVER THE INPUT: true; the input reads as it did. -/
def simpRulesSpec : ChangeSpec := { name := "simpRules", fn := fun _ => fun
  | [d1, d2, d3] => { results := [.lit (.bool true)], args := [d1, d2, d3] }
  | _ => none }
def simpRulesRow : OpenClaim := { program := "ytcpgiadhmmmafaa", sum := "44a227f0fdcc136377929fb2c3db0534157c19af5f4b244b954faf5f072d8f04", func := "weephole/weepholelaw12.SimpRules", spec := "simpRules", unfollowed := true, recurses := true, plainKeys := false, apart := false }
def SimpRulesSaid : Prop := simpRulesRow.holds Try.pinned (OpenSpec.ofChange simpRulesSpec)

/-- ITS FALSE NEIGHBOUR: 'it returns false'. Refute it at one input. -/
def simpRulesWrong : ChangeSpec := { name := "simpRules", fn := fun _ => fun
  | [d1, d2, d3] => { results := [.lit (.bool false)], args := [d1, d2, d3] }
  | _ => none }
def SimpRulesWrongFalsely : Prop := simpRulesRow.holds Try.pinned (OpenSpec.ofChange simpRulesWrong)

/-- 'weepholelaw12.SimpOrder': WHATEVER THE INPUT: true; the input reads as it did. -/
def simpOrderSpec : ChangeSpec := { name := "simpOrder", fn := fun _ => fun
  | [d1, d2, d3] => { results := [.lit (.bool true)], args := [d1, d2, d3] }
  | _ => none }
def simpOrderRow : OpenClaim := { program := "ytcpgiadhmmmafaa", sum := "44a227f0fdcc136377929fb2c3db0534157c19af5f4b244b954faf5f072d8f04", func := "weephole/weepholelaw12.SimpOrder", spec := "simpOrder", unfollowed := true, recurses := true, plainKeys := false, apart := false }
def SimpOrderSaid : Prop := simpOrderRow.holds Try.pinned (OpenSpec.ofChange simpOrderSpec)

/-- ITS FALSE NEIGHBOUR: 'it returns false'. Refute it at one input. -/
def simpOrderWrong : ChangeSpec := { name := "simpOrder", fn := fun _ => fun
  | [d1, d2, d3] => { results := [.lit (.bool false)], args := [d1, d2, d3] }
  | _ => none }
def SimpOrderWrongFalsely : Prop := simpOrderRow.holds Try.pinned (OpenSpec.ofChange simpOrderWrong)

/-- 'weepholelaw12.SimpNames': WHATEVER THE INPUT: true; the input reads as it did. -/
def simpNamesSpec : ChangeSpec := { name := "simpNames", fn := fun _ => fun
  | [] => { results := [.lit (.bool true)], args := [] }
  | _ => none }
def simpNamesRow : OpenClaim := { program := "ytcpgiadhmmmafaa", sum := "44a227f0fdcc136377929fb2c3db0534157c19af5f4b244b954faf5f072d8f04", func := "weephole/weepholelaw12.SimpNames", spec := "simpNames", unfollowed := true, recurses := true, plainKeys := false, apart := false }
def SimpNamesSaid : Prop := simpNamesRow.holds Try.pinned (OpenSpec.ofChange simpNamesSpec)

/-- ITS FALSE NEIGHBOUR: 'it returns false'. Refute it at one input. -/
def simpNamesWrong : ChangeSpec := { name := "simpNames", fn := fun _ => fun
  | [] => { results := [.lit (.bool false)], args := [] }
  | _ => none }
def SimpNamesWrongFalsely : Prop := simpNamesRow.holds Try.pinned (OpenSpec.ofChange simpNamesWrong)

/-- 'weepholelaw12.SimpMatches': WHATEVER THE INPUT: true; the input reads as it did. -/
def simpMatchesSpec : ChangeSpec := { name := "simpMatches", fn := fun _ => fun
  | [d1, d2, d3] => { results := [.lit (.bool true)], args := [d1, d2, d3] }
  | _ => none }
def simpMatchesRow : OpenClaim := { program := "ytcpgiadhmmmafaa", sum := "44a227f0fdcc136377929fb2c3db0534157c19af5f4b244b954faf5f072d8f04", func := "weephole/weepholelaw12.SimpMatches", spec := "simpMatches", unfollowed := true, recurses := true, plainKeys := false, apart := false }
def SimpMatchesSaid : Prop := simpMatchesRow.holds Try.pinned (OpenSpec.ofChange simpMatchesSpec)

/-- ITS FALSE NEIGHBOUR: 'it returns false'. Refute it at one input. -/
def simpMatchesWrong : ChangeSpec := { name := "simpMatches", fn := fun _ => fun
  | [d1, d2, d3] => { results := [.lit (.bool false)], args := [d1, d2, d3] }
  | _ => none }
def SimpMatchesWrongFalsely : Prop := simpMatchesRow.holds Try.pinned (OpenSpec.ofChange simpMatchesWrong)

/-- 'weepholelaw12.SimpOnce': WHATEVER THE INPUT: true; the input reads as it did. -/
def simpOnceSpec : ChangeSpec := { name := "simpOnce", fn := fun _ => fun
  | [d1, d2, d3] => { results := [.lit (.bool true)], args := [d1, d2, d3] }
  | _ => none }
def simpOnceRow : OpenClaim := { program := "ytcpgiadhmmmafaa", sum := "44a227f0fdcc136377929fb2c3db0534157c19af5f4b244b954faf5f072d8f04", func := "weephole/weepholelaw12.SimpOnce", spec := "simpOnce", unfollowed := true, recurses := true, plainKeys := false, apart := false }
def SimpOnceSaid : Prop := simpOnceRow.holds Try.pinned (OpenSpec.ofChange simpOnceSpec)

/-- ITS FALSE NEIGHBOUR: 'it returns false'. Refute it at one input. -/
def simpOnceWrong : ChangeSpec := { name := "simpOnce", fn := fun _ => fun
  | [d1, d2, d3] => { results := [.lit (.bool false)], args := [d1, d2, d3] }
  | _ => none }
def SimpOnceWrongFalsely : Prop := simpOnceRow.holds Try.pinned (OpenSpec.ofChange simpOnceWrong)

/-- 'weepholelaw13.SubstNames': WHATEVER THE INPUT: true; the input reads as it did. -/
def substNamesSpec : ChangeSpec := { name := "substNames", fn := fun _ => fun
  | [] => { results := [.lit (.bool true)], args := [] }
  | _ => none }
def substNamesRow : OpenClaim := { program := "ytcpgiadhmmmafaa", sum := "44a227f0fdcc136377929fb2c3db0534157c19af5f4b244b954faf5f072d8f04", func := "weephole/weepholelaw13.SubstNames", spec := "substNames", unfollowed := true, recurses := true, plainKeys := false, apart := false }
def SubstNamesSaid : Prop := substNamesRow.holds Try.pinned (OpenSpec.ofChange substNamesSpec)

/-- ITS FALSE NEIGHBOUR: 'it returns false'. Refute it at one input. -/
def substNamesWrong : ChangeSpec := { name := "substNames", fn := fun _ => fun
  | [] => { results := [.lit (.bool false)], args := [] }
  | _ => none }
def SubstNamesWrongFalsely : Prop := substNamesRow.holds Try.pinned (OpenSpec.ofChange substNamesWrong)

/-- 'weepholelaw13.SubstMatches': WHATEVER THE INPUT: true; the input reads as it did. -/
def substMatchesSpec : ChangeSpec := { name := "substMatches", fn := fun _ => fun
  | [d1, d2, d3, d4] => { results := [.lit (.bool true)], args := [d1, d2, d3, d4] }
  | _ => none }
def substMatchesRow : OpenClaim := { program := "ytcpgiadhmmmafaa", sum := "44a227f0fdcc136377929fb2c3db0534157c19af5f4b244b954faf5f072d8f04", func := "weephole/weepholelaw13.SubstMatches", spec := "substMatches", unfollowed := true, recurses := true, plainKeys := false, apart := false }
def SubstMatchesSaid : Prop := substMatchesRow.holds Try.pinned (OpenSpec.ofChange substMatchesSpec)

/-- ITS FALSE NEIGHBOUR: 'it returns false'. Refute it at one input. -/
def substMatchesWrong : ChangeSpec := { name := "substMatches", fn := fun _ => fun
  | [d1, d2, d3, d4] => { results := [.lit (.bool false)], args := [d1, d2, d3, d4] }
  | _ => none }
def SubstMatchesWrongFalsely : Prop := substMatchesRow.holds Try.pinned (OpenSpec.ofChange substMatchesWrong)

/-- 'weepholelaw13.SubstOrder': WHATEVER THE INPUT: true; the input reads as it did. -/
def substOrderSpec : ChangeSpec := { name := "substOrder", fn := fun _ => fun
  | [d1, d2, d3, d4, d5] => { results := [.lit (.bool true)], args := [d1, d2, d3, d4, d5] }
  | _ => none }
def substOrderRow : OpenClaim := { program := "ytcpgiadhmmmafaa", sum := "44a227f0fdcc136377929fb2c3db0534157c19af5f4b244b954faf5f072d8f04", func := "weephole/weepholelaw13.SubstOrder", spec := "substOrder", unfollowed := true, recurses := true, plainKeys := false, apart := false }
def SubstOrderSaid : Prop := substOrderRow.holds Try.pinned (OpenSpec.ofChange substOrderSpec)

/-- ITS FALSE NEIGHBOUR: 'it returns false'. Refute it at one input. -/
def substOrderWrong : ChangeSpec := { name := "substOrder", fn := fun _ => fun
  | [d1, d2, d3, d4, d5] => { results := [.lit (.bool false)], args := [d1, d2, d3, d4, d5] }
  | _ => none }
def SubstOrderWrongFalsely : Prop := substOrderRow.holds Try.pinned (OpenSpec.ofChange substOrderWrong)

/-- 'weepholelaw13.SubstGone': WHATEVER THE INPUT: true; the input reads as it did. -/
def substGoneSpec : ChangeSpec := { name := "substGone", fn := fun _ => fun
  | [d1, d2, d3, d4] => { results := [.lit (.bool true)], args := [d1, d2, d3, d4] }
  | _ => none }
def substGoneRow : OpenClaim := { program := "ytcpgiadhmmmafaa", sum := "44a227f0fdcc136377929fb2c3db0534157c19af5f4b244b954faf5f072d8f04", func := "weephole/weepholelaw13.SubstGone", spec := "substGone", unfollowed := true, recurses := true, plainKeys := false, apart := false }
def SubstGoneSaid : Prop := substGoneRow.holds Try.pinned (OpenSpec.ofChange substGoneSpec)

/-- ITS FALSE NEIGHBOUR: 'it returns false'. Refute it at one input. -/
def substGoneWrong : ChangeSpec := { name := "substGone", fn := fun _ => fun
  | [d1, d2, d3, d4] => { results := [.lit (.bool false)], args := [d1, d2, d3, d4] }
  | _ => none }
def SubstGoneWrongFalsely : Prop := substGoneRow.holds Try.pinned (OpenSpec.ofChange substGoneWrong)

/-- 'weepholelaw12.SimpSound': WHATEVER THE INPUT: true; the input reads as it did. -/
def simpSoundSpec : ChangeSpec := { name := "simpSound", fn := fun _ => fun
  | [d1, d2, d3, d4] => { results := [.lit (.bool true)], args := [d1, d2, d3, d4] }
  | _ => none }
def simpSoundRow : OpenClaim := { program := "ytcpgiadhmmmafaa", sum := "44a227f0fdcc136377929fb2c3db0534157c19af5f4b244b954faf5f072d8f04", func := "weephole/weepholelaw12.SimpSound", spec := "simpSound", unfollowed := true, recurses := true, plainKeys := false, apart := false }
def SimpSoundSaid : Prop := simpSoundRow.holds Try.pinned (OpenSpec.ofChange simpSoundSpec)

/-- ITS FALSE NEIGHBOUR: 'it returns false'. Refute it at one input. -/
def simpSoundWrong : ChangeSpec := { name := "simpSound", fn := fun _ => fun
  | [d1, d2, d3, d4] => { results := [.lit (.bool false)], args := [d1, d2, d3, d4] }
  | _ => none }
def SimpSoundWrongFalsely : Prop := simpSoundRow.holds Try.pinned (OpenSpec.ofChange simpSoundWrong)

/-- 'weepholelaw12.SimpVars': WHATEVER THE INPUT: true; the input reads as it did. -/
def simpVarsSpec : ChangeSpec := { name := "simpVars", fn := fun _ => fun
  | [d1, d2] => { results := [.lit (.bool true)], args := [d1, d2] }
  | _ => none }
def simpVarsRow : OpenClaim := { program := "ytcpgiadhmmmafaa", sum := "44a227f0fdcc136377929fb2c3db0534157c19af5f4b244b954faf5f072d8f04", func := "weephole/weepholelaw12.SimpVars", spec := "simpVars", unfollowed := true, recurses := true, plainKeys := false, apart := false }
def SimpVarsSaid : Prop := simpVarsRow.holds Try.pinned (OpenSpec.ofChange simpVarsSpec)

/-- ITS FALSE NEIGHBOUR: 'it returns false'. Refute it at one input. -/
def simpVarsWrong : ChangeSpec := { name := "simpVars", fn := fun _ => fun
  | [d1, d2] => { results := [.lit (.bool false)], args := [d1, d2] }
  | _ => none }
def SimpVarsWrongFalsely : Prop := simpVarsRow.holds Try.pinned (OpenSpec.ofChange simpVarsWrong)

/-- 'weepholelaw13.SubstNothing': WHATEVER THE INPUT: true; the input reads as it did. -/
def substNothingSpec : ChangeSpec := { name := "substNothing", fn := fun _ => fun
  | [d1, d2, d3] => { results := [.lit (.bool true)], args := [d1, d2, d3] }
  | _ => none }
def substNothingRow : OpenClaim := { program := "ytcpgiadhmmmafaa", sum := "44a227f0fdcc136377929fb2c3db0534157c19af5f4b244b954faf5f072d8f04", func := "weephole/weepholelaw13.SubstNothing", spec := "substNothing", unfollowed := true, recurses := true, plainKeys := false, apart := false }
def SubstNothingSaid : Prop := substNothingRow.holds Try.pinned (OpenSpec.ofChange substNothingSpec)

/-- ITS FALSE NEIGHBOUR: 'it returns false'. Refute it at one input. -/
def substNothingWrong : ChangeSpec := { name := "substNothing", fn := fun _ => fun
  | [d1, d2, d3] => { results := [.lit (.bool false)], args := [d1, d2, d3] }
  | _ => none }
def SubstNothingWrongFalsely : Prop := substNothingRow.holds Try.pinned (OpenSpec.ofChange substNothingWrong)

/-- 'weepholelaw13.SubstValues': WHATEVER THE INPUT: true; the input reads as it did. -/
def substValuesSpec : ChangeSpec := { name := "substValues", fn := fun _ => fun
  | [d1, d2, d3, d4, d5] => { results := [.lit (.bool true)], args := [d1, d2, d3, d4, d5] }
  | _ => none }
def substValuesRow : OpenClaim := { program := "ytcpgiadhmmmafaa", sum := "44a227f0fdcc136377929fb2c3db0534157c19af5f4b244b954faf5f072d8f04", func := "weephole/weepholelaw13.SubstValues", spec := "substValues", unfollowed := true, recurses := true, plainKeys := false, apart := false }
def SubstValuesSaid : Prop := substValuesRow.holds Try.pinned (OpenSpec.ofChange substValuesSpec)

/-- ITS FALSE NEIGHBOUR: 'it returns false'. Refute it at one input. -/
def substValuesWrong : ChangeSpec := { name := "substValues", fn := fun _ => fun
  | [d1, d2, d3, d4, d5] => { results := [.lit (.bool false)], args := [d1, d2, d3, d4, d5] }
  | _ => none }
def SubstValuesWrongFalsely : Prop := substValuesRow.holds Try.pinned (OpenSpec.ofChange substValuesWrong)

/-- 'weepholelaw13.SubstNumbers': WHATEVER THE INPUT: true; the input reads as it did. -/
def substNumbersSpec : ChangeSpec := { name := "substNumbers", fn := fun _ => fun
  | [d1, d2, d3, d4] => { results := [.lit (.bool true)], args := [d1, d2, d3, d4] }
  | _ => none }
def substNumbersRow : OpenClaim := { program := "ytcpgiadhmmmafaa", sum := "44a227f0fdcc136377929fb2c3db0534157c19af5f4b244b954faf5f072d8f04", func := "weephole/weepholelaw13.SubstNumbers", spec := "substNumbers", unfollowed := true, recurses := true, plainKeys := false, apart := false }
def SubstNumbersSaid : Prop := substNumbersRow.holds Try.pinned (OpenSpec.ofChange substNumbersSpec)

/-- ITS FALSE NEIGHBOUR: 'it returns false'. Refute it at one input. -/
def substNumbersWrong : ChangeSpec := { name := "substNumbers", fn := fun _ => fun
  | [d1, d2, d3, d4] => { results := [.lit (.bool false)], args := [d1, d2, d3, d4] }
  | _ => none }
def SubstNumbersWrongFalsely : Prop := substNumbersRow.holds Try.pinned (OpenSpec.ofChange substNumbersWrong)

/- THE SECOND FORM. 'bulk': how many values and letters a reading holds, each counted each time it is reached (what is shared counts as often as it is met; a slice's spare places count too). A statement '..UptoSaid' is the law's where the arguments, and the package variables that the reading takes, are together of bulk at most 1048576: NARROWER than '..Said'. Prove '..Said' where nothing that the law and all that it calls make is longer than what came in: it says more and counts as full. Else prove '..UptoSaid'. A law counts once. -/
mutual
def uptoBulk {H : Type} : DataW H → Nat
  | .lit (.string bytes) => bytes.length + 1
  | .lit _ => 1
  | .nil => 1
  | .ptr d => uptoBulk d + 1
  | .slice elems spare => uptoBulkAll elems + uptoBulkAll spare + 1
  | .agg parts => uptoBulkAll parts + 1
  | .iface _ d => uptoBulk d + 1
  | .map entries => uptoBulkEntries entries + 1
  | .held _ => 1
def uptoBulkAll {H : Type} : List (DataW H) → Nat
  | [] => 0
  | d :: r => uptoBulk d + uptoBulkAll r
def uptoBulkEntries {H : Type} : List (Lit × DataW H) → Nat
  | [] => 0
  | x :: r => uptoBulkEntry x + uptoBulkEntries r
def uptoBulkEntry {H : Type} : Lit × DataW H → Nat
  | (.string bytes, d) => bytes.length + uptoBulk d + 1
  | (_, d) => uptoBulk d + 1
 end
def uptoSmall : (H : Type) → List (DataW H) → Bool := fun _ ds => decide (uptoBulkAll ds ≤ 1048576)
def OpenSpec.upto (s : _root_.Go.ChangeSpec) : _root_.Go.OpenSpec := { _root_.Go.OpenSpec.ofChange s with cond := some uptoSmall }

/-- 'weepholelaw12.SimpRules', WHERE WHAT IT READS IS OF BULK AT MOST 1048576: true; the input reads as it did. -/
def simpRulesUptoRow : OpenClaim := { program := "ytcpgiadhmmmafaa", sum := "44a227f0fdcc136377929fb2c3db0534157c19af5f4b244b954faf5f072d8f04", func := "weephole/weepholelaw12.SimpRules", spec := "simpRules", unfollowed := true, recurses := true, plainKeys := false, apart := false, narrowed := true }
def SimpRulesUptoSaid : Prop := simpRulesUptoRow.holds Try.pinned (OpenSpec.upto simpRulesSpec)

/-- 'weepholelaw12.SimpOrder', WHERE WHAT IT READS IS OF BULK AT MOST 1048576: true; the input reads as it did. -/
def simpOrderUptoRow : OpenClaim := { program := "ytcpgiadhmmmafaa", sum := "44a227f0fdcc136377929fb2c3db0534157c19af5f4b244b954faf5f072d8f04", func := "weephole/weepholelaw12.SimpOrder", spec := "simpOrder", unfollowed := true, recurses := true, plainKeys := false, apart := false, narrowed := true }
def SimpOrderUptoSaid : Prop := simpOrderUptoRow.holds Try.pinned (OpenSpec.upto simpOrderSpec)

/-- 'weepholelaw12.SimpNames', WHERE WHAT IT READS IS OF BULK AT MOST 1048576: true; the input reads as it did. -/
def simpNamesUptoRow : OpenClaim := { program := "ytcpgiadhmmmafaa", sum := "44a227f0fdcc136377929fb2c3db0534157c19af5f4b244b954faf5f072d8f04", func := "weephole/weepholelaw12.SimpNames", spec := "simpNames", unfollowed := true, recurses := true, plainKeys := false, apart := false, narrowed := true }
def SimpNamesUptoSaid : Prop := simpNamesUptoRow.holds Try.pinned (OpenSpec.upto simpNamesSpec)

/-- 'weepholelaw12.SimpMatches', WHERE WHAT IT READS IS OF BULK AT MOST 1048576: true; the input reads as it did. -/
def simpMatchesUptoRow : OpenClaim := { program := "ytcpgiadhmmmafaa", sum := "44a227f0fdcc136377929fb2c3db0534157c19af5f4b244b954faf5f072d8f04", func := "weephole/weepholelaw12.SimpMatches", spec := "simpMatches", unfollowed := true, recurses := true, plainKeys := false, apart := false, narrowed := true }
def SimpMatchesUptoSaid : Prop := simpMatchesUptoRow.holds Try.pinned (OpenSpec.upto simpMatchesSpec)

/-- 'weepholelaw12.SimpOnce', WHERE WHAT IT READS IS OF BULK AT MOST 1048576: true; the input reads as it did. -/
def simpOnceUptoRow : OpenClaim := { program := "ytcpgiadhmmmafaa", sum := "44a227f0fdcc136377929fb2c3db0534157c19af5f4b244b954faf5f072d8f04", func := "weephole/weepholelaw12.SimpOnce", spec := "simpOnce", unfollowed := true, recurses := true, plainKeys := false, apart := false, narrowed := true }
def SimpOnceUptoSaid : Prop := simpOnceUptoRow.holds Try.pinned (OpenSpec.upto simpOnceSpec)

/-- 'weepholelaw13.SubstNames', WHERE WHAT IT READS IS OF BULK AT MOST 1048576: true; the input reads as it did. -/
def substNamesUptoRow : OpenClaim := { program := "ytcpgiadhmmmafaa", sum := "44a227f0fdcc136377929fb2c3db0534157c19af5f4b244b954faf5f072d8f04", func := "weephole/weepholelaw13.SubstNames", spec := "substNames", unfollowed := true, recurses := true, plainKeys := false, apart := false, narrowed := true }
def SubstNamesUptoSaid : Prop := substNamesUptoRow.holds Try.pinned (OpenSpec.upto substNamesSpec)

/-- 'weepholelaw13.SubstMatches', WHERE WHAT IT READS IS OF BULK AT MOST 1048576: true; the input reads as it did. -/
def substMatchesUptoRow : OpenClaim := { program := "ytcpgiadhmmmafaa", sum := "44a227f0fdcc136377929fb2c3db0534157c19af5f4b244b954faf5f072d8f04", func := "weephole/weepholelaw13.SubstMatches", spec := "substMatches", unfollowed := true, recurses := true, plainKeys := false, apart := false, narrowed := true }
def SubstMatchesUptoSaid : Prop := substMatchesUptoRow.holds Try.pinned (OpenSpec.upto substMatchesSpec)

/-- 'weepholelaw13.SubstOrder', WHERE WHAT IT READS IS OF BULK AT MOST 1048576: true; the input reads as it did. -/
def substOrderUptoRow : OpenClaim := { program := "ytcpgiadhmmmafaa", sum := "44a227f0fdcc136377929fb2c3db0534157c19af5f4b244b954faf5f072d8f04", func := "weephole/weepholelaw13.SubstOrder", spec := "substOrder", unfollowed := true, recurses := true, plainKeys := false, apart := false, narrowed := true }
def SubstOrderUptoSaid : Prop := substOrderUptoRow.holds Try.pinned (OpenSpec.upto substOrderSpec)

/-- 'weepholelaw13.SubstGone', WHERE WHAT IT READS IS OF BULK AT MOST 1048576: true; the input reads as it did. -/
def substGoneUptoRow : OpenClaim := { program := "ytcpgiadhmmmafaa", sum := "44a227f0fdcc136377929fb2c3db0534157c19af5f4b244b954faf5f072d8f04", func := "weephole/weepholelaw13.SubstGone", spec := "substGone", unfollowed := true, recurses := true, plainKeys := false, apart := false, narrowed := true }
def SubstGoneUptoSaid : Prop := substGoneUptoRow.holds Try.pinned (OpenSpec.upto substGoneSpec)

/-- 'weepholelaw12.SimpSound', WHERE WHAT IT READS IS OF BULK AT MOST 1048576: true; the input reads as it did. -/
def simpSoundUptoRow : OpenClaim := { program := "ytcpgiadhmmmafaa", sum := "44a227f0fdcc136377929fb2c3db0534157c19af5f4b244b954faf5f072d8f04", func := "weephole/weepholelaw12.SimpSound", spec := "simpSound", unfollowed := true, recurses := true, plainKeys := false, apart := false, narrowed := true }
def SimpSoundUptoSaid : Prop := simpSoundUptoRow.holds Try.pinned (OpenSpec.upto simpSoundSpec)

/-- 'weepholelaw12.SimpVars', WHERE WHAT IT READS IS OF BULK AT MOST 1048576: true; the input reads as it did. -/
def simpVarsUptoRow : OpenClaim := { program := "ytcpgiadhmmmafaa", sum := "44a227f0fdcc136377929fb2c3db0534157c19af5f4b244b954faf5f072d8f04", func := "weephole/weepholelaw12.SimpVars", spec := "simpVars", unfollowed := true, recurses := true, plainKeys := false, apart := false, narrowed := true }
def SimpVarsUptoSaid : Prop := simpVarsUptoRow.holds Try.pinned (OpenSpec.upto simpVarsSpec)

/-- 'weepholelaw13.SubstNothing', WHERE WHAT IT READS IS OF BULK AT MOST 1048576: true; the input reads as it did. -/
def substNothingUptoRow : OpenClaim := { program := "ytcpgiadhmmmafaa", sum := "44a227f0fdcc136377929fb2c3db0534157c19af5f4b244b954faf5f072d8f04", func := "weephole/weepholelaw13.SubstNothing", spec := "substNothing", unfollowed := true, recurses := true, plainKeys := false, apart := false, narrowed := true }
def SubstNothingUptoSaid : Prop := substNothingUptoRow.holds Try.pinned (OpenSpec.upto substNothingSpec)

/-- 'weepholelaw13.SubstValues', WHERE WHAT IT READS IS OF BULK AT MOST 1048576: true; the input reads as it did. -/
def substValuesUptoRow : OpenClaim := { program := "ytcpgiadhmmmafaa", sum := "44a227f0fdcc136377929fb2c3db0534157c19af5f4b244b954faf5f072d8f04", func := "weephole/weepholelaw13.SubstValues", spec := "substValues", unfollowed := true, recurses := true, plainKeys := false, apart := false, narrowed := true }
def SubstValuesUptoSaid : Prop := substValuesUptoRow.holds Try.pinned (OpenSpec.upto substValuesSpec)

/-- 'weepholelaw13.SubstNumbers', WHERE WHAT IT READS IS OF BULK AT MOST 1048576: true; the input reads as it did. -/
def substNumbersUptoRow : OpenClaim := { program := "ytcpgiadhmmmafaa", sum := "44a227f0fdcc136377929fb2c3db0534157c19af5f4b244b954faf5f072d8f04", func := "weephole/weepholelaw13.SubstNumbers", spec := "substNumbers", unfollowed := true, recurses := true, plainKeys := false, apart := false, narrowed := true }
def SubstNumbersUptoSaid : Prop := substNumbersUptoRow.holds Try.pinned (OpenSpec.upto substNumbersSpec)

end Rows
end Go.Proofs.Ytcpgiadhmmmafaa
