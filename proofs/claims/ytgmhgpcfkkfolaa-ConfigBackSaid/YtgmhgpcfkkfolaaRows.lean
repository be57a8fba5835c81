/-
  No cell of these rows narrows 'for every input' (looked for: loops, veiled, ifaces, maps, wideKeys, modest, calm, conditions, laid).
  DERIVED. THE GIVEN ROWS OF THIS SEAT. 6 by the template 'for every input the law returns true; each argument reads behind the call as it read before'; 0 by the template 'total and deterministic' (their statements: YtgmhgpcfkkfolaaTotals.lean).
  GIVEN WITH THE SEED: the statements are not yours to turn. If you find one false, say at which input.
  Laid BY PROGRAM, IN A SANDBOX (cutbox-rows.mjs): the forced cells as the released guide's own fill.sh prints them over the translation 393c7c5896c824dd… (all of the seat's roots in one cut). By AI agents, Wed Nov 11 2026. No macro, syntax, notation, axiom, sorry.
-/
import Derived.Test.YtgmhgpcfkkfolaaChecked
import GoSem.Claim
import GoSem.ClaimJoined
import GoSem.ClaimMapViews
import Derived.JoinedTies
import Derived.KernelRfl
namespace Go.Proofs.Ytgmhgpcfkkfolaa
/- THE CELL 'sum', in the pinned program and in every row, IS THE sha256 OF THE DUMP (.gsa) THAT YtgmhgpcfkkfolaaProg.lean LOADS. Nothing in Lean hashes anything: it is a label: what it is worth is what the hold of that sum in a sandbox is worth. -/
noncomputable def Try.pinned : Pinned := { name := "ytgmhgpcfkkfolaa", sum := "393c7c5896c824dd99e27488fe7721dacfbeadb030e37c7c81d95a4ff1b3aae5", checked := Try.checked }
namespace Rows
def none {H : Type} : Left H := { results := [], args := [] }

/-- 'weighbridgelaw17.ConfigUnits': WHATEVER THE INPUT: true; the input reads as it did. -/
def configUnitsSpec : ChangeSpec := { name := "configUnits", fn := fun _ => fun
  | [d1, d2, d3] => { results := [.lit (.bool true)], args := [d1, d2, d3] }
  | _ => none }
def configUnitsRow : OpenClaim := { program := "ytgmhgpcfkkfolaa", sum := "393c7c5896c824dd99e27488fe7721dacfbeadb030e37c7c81d95a4ff1b3aae5", func := "weighbridge/weighbridgelaw17.ConfigUnits", spec := "configUnits", apart := false }
def ConfigUnitsSaid : Prop := configUnitsRow.holds Try.pinned (OpenSpec.ofChange configUnitsSpec)

/-- ITS FALSE NEIGHBOUR: 'it returns false'. Refute it at one input. -/
def configUnitsWrong : ChangeSpec := { name := "configUnits", fn := fun _ => fun
  | [d1, d2, d3] => { results := [.lit (.bool false)], args := [d1, d2, d3] }
  | _ => none }
def ConfigUnitsWrongFalsely : Prop := configUnitsRow.holds Try.pinned (OpenSpec.ofChange configUnitsWrong)

/-- 'weighbridgelaw17.ConfigRules': WHATEVER THE INPUT: true; the input reads as it did. -/
def configRulesSpec : ChangeSpec := { name := "configRules", fn := fun _ => fun
  | [d] => { results := [.lit (.bool true)], args := [d] }
  | _ => none }
def configRulesRow : OpenClaim := { program := "ytgmhgpcfkkfolaa", sum := "393c7c5896c824dd99e27488fe7721dacfbeadb030e37c7c81d95a4ff1b3aae5", func := "weighbridge/weighbridgelaw17.ConfigRules", spec := "configRules", apart := false }
def ConfigRulesSaid : Prop := configRulesRow.holds Try.pinned (OpenSpec.ofChange configRulesSpec)

/-- ITS FALSE NEIGHBOUR: 'it returns false'. Refute it at one input. -/
def configRulesWrong : ChangeSpec := { name := "configRules", fn := fun _ => fun
  | [d] => { results := [.lit (.bool false)], args := [d] }
  | _ => none }
def ConfigRulesWrongFalsely : Prop := configRulesRow.holds Try.pinned (OpenSpec.ofChange configRulesWrong)

/-- 'weighbridgelaw17.ConfigAnswers': WHATEVER THE INPUT: true; the input reads as it did. -/
def configAnswersSpec : ChangeSpec := { name := "configAnswers", fn := fun _ => fun
  | [d1, d2] => { results := [.lit (.bool true)], args := [d1, d2] }
  | _ => none }
def configAnswersRow : OpenClaim := { program := "ytgmhgpcfkkfolaa", sum := "393c7c5896c824dd99e27488fe7721dacfbeadb030e37c7c81d95a4ff1b3aae5", func := "weighbridge/weighbridgelaw17.ConfigAnswers", spec := "configAnswers", apart := false }
def ConfigAnswersSaid : Prop := configAnswersRow.holds Try.pinned (OpenSpec.ofChange configAnswersSpec)

/-- ITS FALSE NEIGHBOUR: 'it returns false'. Refute it at one input. -/
def configAnswersWrong : ChangeSpec := { name := "configAnswers", fn := fun _ => fun
  | [d1, d2] => { results := [.lit (.bool false)], args := [d1, d2] }
  | _ => none }
def ConfigAnswersWrongFalsely : Prop := configAnswersRow.holds Try.pinned (OpenSpec.ofChange configAnswersWrong)

/-- 'weighbridgelaw17.ConfigRight': WHATEVER THE INPUT: true; the input reads as it did. -/
def configRightSpec : ChangeSpec := { name := "configRight", fn := fun _ => fun
  | [d] => { results := [.lit (.bool true)], args := [d] }
  | _ => none }
def configRightRow : OpenClaim := { program := "ytgmhgpcfkkfolaa", sum := "393c7c5896c824dd99e27488fe7721dacfbeadb030e37c7c81d95a4ff1b3aae5", func := "weighbridge/weighbridgelaw17.ConfigRight", spec := "configRight", apart := false }
def ConfigRightSaid : Prop := configRightRow.holds Try.pinned (OpenSpec.ofChange configRightSpec)

/-- ITS FALSE NEIGHBOUR: 'it returns false'. Refute it at one input. -/
def configRightWrong : ChangeSpec := { name := "configRight", fn := fun _ => fun
  | [d] => { results := [.lit (.bool false)], args := [d] }
  | _ => none }
def ConfigRightWrongFalsely : Prop := configRightRow.holds Try.pinned (OpenSpec.ofChange configRightWrong)

/-- 'weighbridgelaw17.ConfigOrder': WHATEVER THE INPUT: true; the input reads as it did. -/
def configOrderSpec : ChangeSpec := { name := "configOrder", fn := fun _ => fun
  | [d] => { results := [.lit (.bool true)], args := [d] }
  | _ => none }
def configOrderRow : OpenClaim := { program := "ytgmhgpcfkkfolaa", sum := "393c7c5896c824dd99e27488fe7721dacfbeadb030e37c7c81d95a4ff1b3aae5", func := "weighbridge/weighbridgelaw17.ConfigOrder", spec := "configOrder", apart := false }
def ConfigOrderSaid : Prop := configOrderRow.holds Try.pinned (OpenSpec.ofChange configOrderSpec)

/-- ITS FALSE NEIGHBOUR: 'it returns false'. Refute it at one input. -/
def configOrderWrong : ChangeSpec := { name := "configOrder", fn := fun _ => fun
  | [d] => { results := [.lit (.bool false)], args := [d] }
  | _ => none }
def ConfigOrderWrongFalsely : Prop := configOrderRow.holds Try.pinned (OpenSpec.ofChange configOrderWrong)

/-- 'weighbridgelaw17.ConfigBack': WHATEVER THE INPUT: true; the input reads as it did. -/
def configBackSpec : ChangeSpec := { name := "configBack", fn := fun _ => fun
  | [d1, d2, d3] => { results := [.lit (.bool true)], args := [d1, d2, d3] }
  | _ => none }
def configBackRow : OpenClaim := { program := "ytgmhgpcfkkfolaa", sum := "393c7c5896c824dd99e27488fe7721dacfbeadb030e37c7c81d95a4ff1b3aae5", func := "weighbridge/weighbridgelaw17.ConfigBack", spec := "configBack", unfollowed := true, recurses := true, apart := false }
def ConfigBackSaid : Prop := configBackRow.holds Try.pinned (OpenSpec.ofChange configBackSpec)

/-- ITS FALSE NEIGHBOUR: 'it returns false'. Refute it at one input. -/
def configBackWrong : ChangeSpec := { name := "configBack", fn := fun _ => fun
  | [d1, d2, d3] => { results := [.lit (.bool false)], args := [d1, d2, d3] }
  | _ => none }
def ConfigBackWrongFalsely : Prop := configBackRow.holds Try.pinned (OpenSpec.ofChange configBackWrong)

/- THE SECOND FORM. 'bulk': how many values and letters a reading holds, each counted each time it is reached (what is shared counts as often as it is met; a slice's spare places count too). A statement '..UptoSaid' is the law's where the arguments, and the package variables that the reading takes, are together of bulk at most 1048576: NARROWER than '..Said'. Prove '..Said' where nothing that the law and all that it calls make is longer than what came in: it says more and counts as full. Else prove '..UptoSaid'. A law counts once. -/
mutual
def uptoBulk {H : Type} : DataW H → Nat
  | .lit (.string bytes) => bytes.length + 1
  | .lit _ => 1
  | .nil => 1
  | .ptr d => uptoBulk d + 1
  | .slice elems spare => uptoBulkAll elems + uptoBulkAll spare + 1
  | .agg parts => uptoBulkAll parts + 1
  | .iface _ d => uptoBulk d + 1
  | .map entries => uptoBulkEntries entries + 1
  | .held _ => 1
def uptoBulkAll {H : Type} : List (DataW H) → Nat
  | [] => 0
  | d :: r => uptoBulk d + uptoBulkAll r
def uptoBulkEntries {H : Type} : List (Lit × DataW H) → Nat
  | [] => 0
  | x :: r => uptoBulkEntry x + uptoBulkEntries r
def uptoBulkEntry {H : Type} : Lit × DataW H → Nat
  | (.string bytes, d) => bytes.length + uptoBulk d + 1
  | (_, d) => uptoBulk d + 1
 end
def uptoSmall : (H : Type) → List (DataW H) → Bool := fun _ ds => decide (uptoBulkAll ds ≤ 1048576)
def OpenSpec.upto (s : _root_.Go.ChangeSpec) : _root_.Go.OpenSpec := { _root_.Go.OpenSpec.ofChange s with cond := some uptoSmall }

/-- 'weighbridgelaw17.ConfigUnits', WHERE WHAT IT READS IS OF BULK AT MOST 1048576: true; the input reads as it did. -/
def configUnitsUptoRow : OpenClaim := { program := "ytgmhgpcfkkfolaa", sum := "393c7c5896c824dd99e27488fe7721dacfbeadb030e37c7c81d95a4ff1b3aae5", func := "weighbridge/weighbridgelaw17.ConfigUnits", spec := "configUnits", apart := false, narrowed := true }
def ConfigUnitsUptoSaid : Prop := configUnitsUptoRow.holds Try.pinned (OpenSpec.upto configUnitsSpec)

/-- 'weighbridgelaw17.ConfigRules', WHERE WHAT IT READS IS OF BULK AT MOST 1048576: true; the input reads as it did. -/
def configRulesUptoRow : OpenClaim := { program := "ytgmhgpcfkkfolaa", sum := "393c7c5896c824dd99e27488fe7721dacfbeadb030e37c7c81d95a4ff1b3aae5", func := "weighbridge/weighbridgelaw17.ConfigRules", spec := "configRules", apart := false, narrowed := true }
def ConfigRulesUptoSaid : Prop := configRulesUptoRow.holds Try.pinned (OpenSpec.upto configRulesSpec)

/-- 'weighbridgelaw17.ConfigAnswers', WHERE WHAT IT READS IS OF BULK AT MOST 1048576: true; the input reads as it did. -/
def configAnswersUptoRow : OpenClaim := { program := "ytgmhgpcfkkfolaa", sum := "393c7c5896c824dd99e27488fe7721dacfbeadb030e37c7c81d95a4ff1b3aae5", func := "weighbridge/weighbridgelaw17.ConfigAnswers", spec := "configAnswers", apart := false, narrowed := true }
def ConfigAnswersUptoSaid : Prop := configAnswersUptoRow.holds Try.pinned (OpenSpec.upto configAnswersSpec)

/-- 'weighbridgelaw17.ConfigRight', WHERE WHAT IT READS IS OF BULK AT MOST 1048576: true; the input reads as it did. -/
def configRightUptoRow : OpenClaim := { program := "ytgmhgpcfkkfolaa", sum := "393c7c5896c824dd99e27488fe7721dacfbeadb030e37c7c81d95a4ff1b3aae5", func := "weighbridge/weighbridgelaw17.ConfigRight", spec := "configRight", apart := false, narrowed := true }
def ConfigRightUptoSaid : Prop := configRightUptoRow.holds Try.pinned (OpenSpec.upto configRightSpec)

/-- 'weighbridgelaw17.ConfigOrder', WHERE WHAT IT READS IS OF BULK AT MOST 1048576: true; the input reads as it did. -/
def configOrderUptoRow : OpenClaim := { program := "ytgmhgpcfkkfolaa", sum := "393c7c5896c824dd99e27488fe7721dacfbeadb030e37c7c81d95a4ff1b3aae5", func := "weighbridge/weighbridgelaw17.ConfigOrder", spec := "configOrder", apart := false, narrowed := true }
def ConfigOrderUptoSaid : Prop := configOrderUptoRow.holds Try.pinned (OpenSpec.upto configOrderSpec)

/-- 'weighbridgelaw17.ConfigBack', WHERE WHAT IT READS IS OF BULK AT MOST 1048576: true; the input reads as it did. -/
def configBackUptoRow : OpenClaim := { program := "ytgmhgpcfkkfolaa", sum := "393c7c5896c824dd99e27488fe7721dacfbeadb030e37c7c81d95a4ff1b3aae5", func := "weighbridge/weighbridgelaw17.ConfigBack", spec := "configBack", unfollowed := true, recurses := true, apart := false, narrowed := true }
def ConfigBackUptoSaid : Prop := configBackUptoRow.holds Try.pinned (OpenSpec.upto configBackSpec)

end Rows
end Go.Proofs.Ytgmhgpcfkkfolaa
