/-
  No cell of these rows narrows 'for every input' (looked for: loops, veiled, ifaces, maps, wideKeys, modest, calm, conditions, laid).
  DERIVED. THE GIVEN ROWS OF THIS SEAT. 8 by the template 'for every input the law returns true; each argument reads behind the call as it read before'; 0 by the template 'total and deterministic' (their statements: YtlakhgibjfmjjaaGreatTotals.lean).
  GIVEN WITH THE SEED: the statements are not yours to turn. If you find one false, say at which input.
  Laid BY PROGRAM, IN A SANDBOX (cutbox-rows.mjs): the forced cells as the released guide's own fill.sh prints them over the translation ff40d01b5e0192ef… (all of the seat's roots in one cut). By AI agents, Wed Nov 11 2026. No macro, syntax, notation, axiom, sorry.
-/
import Derived.Test.YtlakhgibjfmjjaaGreatChecked
import GoSem.Claim
import GoSem.ClaimJoined
import GoSem.ClaimMapViews
import Derived.JoinedTies
import Derived.KernelRfl
namespace Go.Proofs.YtlakhgibjfmjjaaGreat
/- THE CELL 'sum', in the pinned program and in every row, IS THE sha256 OF THE DUMP (.gsa) THAT YtlakhgibjfmjjaaGreatProg.lean LOADS. Nothing in Lean hashes anything: it is a label: what it is worth is what the hold of that sum in a sandbox is worth. -/
noncomputable def Tryz.pinned : Pinned := { name := "ytlakhgibjfmjjaagreat", sum := "ff40d01b5e0192efa9b622b0cb07c163f6cd1c73b13bff0fe6a81ff0516c224e", checked := Tryz.checked }
namespace Rows
def none {H : Type} : Left H := { results := [], args := [] }

/-- 'weighbridgetop.WholeExact': WHATEVER THE INPUT: true; the input reads as it did. -/
def wholeExactSpec : ChangeSpec := { name := "wholeExact", fn := fun _ => fun
  | [d1, d2, d3] => { results := [.lit (.bool true)], args := [d1, d2, d3] }
  | _ => none }
def wholeExactRow : OpenClaim := { program := "ytlakhgibjfmjjaagreat", sum := "ff40d01b5e0192efa9b622b0cb07c163f6cd1c73b13bff0fe6a81ff0516c224e", func := "weighbridge/weighbridgetop.WholeExact", spec := "wholeExact", unfollowed := true, recurses := true, apart := false }
def WholeExactSaid : Prop := wholeExactRow.holds Tryz.pinned (OpenSpec.ofChange wholeExactSpec)

/-- ITS FALSE NEIGHBOUR: 'it returns false'. Refute it at one input. -/
def wholeExactWrong : ChangeSpec := { name := "wholeExact", fn := fun _ => fun
  | [d1, d2, d3] => { results := [.lit (.bool false)], args := [d1, d2, d3] }
  | _ => none }
def WholeExactWrongFalsely : Prop := wholeExactRow.holds Tryz.pinned (OpenSpec.ofChange wholeExactWrong)

/-- 'weighbridgetop.WholeFresh': WHATEVER THE INPUT: true; the input reads as it did. -/
def wholeFreshSpec : ChangeSpec := { name := "wholeFresh", fn := fun _ => fun
  | [d1, d2, d3] => { results := [.lit (.bool true)], args := [d1, d2, d3] }
  | _ => none }
def wholeFreshRow : OpenClaim := { program := "ytlakhgibjfmjjaagreat", sum := "ff40d01b5e0192efa9b622b0cb07c163f6cd1c73b13bff0fe6a81ff0516c224e", func := "weighbridge/weighbridgetop.WholeFresh", spec := "wholeFresh", unfollowed := true, recurses := true, apart := false }
def WholeFreshSaid : Prop := wholeFreshRow.holds Tryz.pinned (OpenSpec.ofChange wholeFreshSpec)

/-- ITS FALSE NEIGHBOUR: 'it returns false'. Refute it at one input. -/
def wholeFreshWrong : ChangeSpec := { name := "wholeFresh", fn := fun _ => fun
  | [d1, d2, d3] => { results := [.lit (.bool false)], args := [d1, d2, d3] }
  | _ => none }
def WholeFreshWrongFalsely : Prop := wholeFreshRow.holds Tryz.pinned (OpenSpec.ofChange wholeFreshWrong)

/-- 'weighbridgetop.WholeTop': WHATEVER THE INPUT: true; the input reads as it did. -/
def wholeTopSpec : ChangeSpec := { name := "wholeTop", fn := fun _ => fun
  | [d1, d2, d3] => { results := [.lit (.bool true)], args := [d1, d2, d3] }
  | _ => none }
def wholeTopRow : OpenClaim := { program := "ytlakhgibjfmjjaagreat", sum := "ff40d01b5e0192efa9b622b0cb07c163f6cd1c73b13bff0fe6a81ff0516c224e", func := "weighbridge/weighbridgetop.WholeTop", spec := "wholeTop", unfollowed := true, recurses := true, apart := false }
def WholeTopSaid : Prop := wholeTopRow.holds Tryz.pinned (OpenSpec.ofChange wholeTopSpec)

/-- ITS FALSE NEIGHBOUR: 'it returns false'. Refute it at one input. -/
def wholeTopWrong : ChangeSpec := { name := "wholeTop", fn := fun _ => fun
  | [d1, d2, d3] => { results := [.lit (.bool false)], args := [d1, d2, d3] }
  | _ => none }
def WholeTopWrongFalsely : Prop := wholeTopRow.holds Tryz.pinned (OpenSpec.ofChange wholeTopWrong)

/-- 'weighbridgetop.WholePeeks': WHATEVER THE INPUT: true; the input reads as it did. -/
def wholePeeksSpec : ChangeSpec := { name := "wholePeeks", fn := fun _ => fun
  | [d1, d2, d3] => { results := [.lit (.bool true)], args := [d1, d2, d3] }
  | _ => none }
def wholePeeksRow : OpenClaim := { program := "ytlakhgibjfmjjaagreat", sum := "ff40d01b5e0192efa9b622b0cb07c163f6cd1c73b13bff0fe6a81ff0516c224e", func := "weighbridge/weighbridgetop.WholePeeks", spec := "wholePeeks", unfollowed := true, recurses := true, apart := false }
def WholePeeksSaid : Prop := wholePeeksRow.holds Tryz.pinned (OpenSpec.ofChange wholePeeksSpec)

/-- ITS FALSE NEIGHBOUR: 'it returns false'. Refute it at one input. -/
def wholePeeksWrong : ChangeSpec := { name := "wholePeeks", fn := fun _ => fun
  | [d1, d2, d3] => { results := [.lit (.bool false)], args := [d1, d2, d3] }
  | _ => none }
def WholePeeksWrongFalsely : Prop := wholePeeksRow.holds Tryz.pinned (OpenSpec.ofChange wholePeeksWrong)

/-- 'weighbridgetop.WholeHorizon': WHATEVER THE INPUT: true; the input reads as it did. -/
def wholeHorizonSpec : ChangeSpec := { name := "wholeHorizon", fn := fun _ => fun
  | [d1, d2, d3] => { results := [.lit (.bool true)], args := [d1, d2, d3] }
  | _ => none }
def wholeHorizonRow : OpenClaim := { program := "ytlakhgibjfmjjaagreat", sum := "ff40d01b5e0192efa9b622b0cb07c163f6cd1c73b13bff0fe6a81ff0516c224e", func := "weighbridge/weighbridgetop.WholeHorizon", spec := "wholeHorizon", unfollowed := true, recurses := true, apart := false }
def WholeHorizonSaid : Prop := wholeHorizonRow.holds Tryz.pinned (OpenSpec.ofChange wholeHorizonSpec)

/-- ITS FALSE NEIGHBOUR: 'it returns false'. Refute it at one input. -/
def wholeHorizonWrong : ChangeSpec := { name := "wholeHorizon", fn := fun _ => fun
  | [d1, d2, d3] => { results := [.lit (.bool false)], args := [d1, d2, d3] }
  | _ => none }
def WholeHorizonWrongFalsely : Prop := wholeHorizonRow.holds Tryz.pinned (OpenSpec.ofChange wholeHorizonWrong)

/-- 'weighbridgetop.WholeHeld': WHATEVER THE INPUT: true; the input reads as it did. -/
def wholeHeldSpec : ChangeSpec := { name := "wholeHeld", fn := fun _ => fun
  | [d1, d2, d3] => { results := [.lit (.bool true)], args := [d1, d2, d3] }
  | _ => none }
def wholeHeldRow : OpenClaim := { program := "ytlakhgibjfmjjaagreat", sum := "ff40d01b5e0192efa9b622b0cb07c163f6cd1c73b13bff0fe6a81ff0516c224e", func := "weighbridge/weighbridgetop.WholeHeld", spec := "wholeHeld", unfollowed := true, recurses := true, apart := false }
def WholeHeldSaid : Prop := wholeHeldRow.holds Tryz.pinned (OpenSpec.ofChange wholeHeldSpec)

/-- ITS FALSE NEIGHBOUR: 'it returns false'. Refute it at one input. -/
def wholeHeldWrong : ChangeSpec := { name := "wholeHeld", fn := fun _ => fun
  | [d1, d2, d3] => { results := [.lit (.bool false)], args := [d1, d2, d3] }
  | _ => none }
def WholeHeldWrongFalsely : Prop := wholeHeldRow.holds Tryz.pinned (OpenSpec.ofChange wholeHeldWrong)

/-- 'weighbridgetop.WholeRules': WHATEVER THE INPUT: true; the input reads as it did. -/
def wholeRulesSpec : ChangeSpec := { name := "wholeRules", fn := fun _ => fun
  | [d1, d2, d3] => { results := [.lit (.bool true)], args := [d1, d2, d3] }
  | _ => none }
def wholeRulesRow : OpenClaim := { program := "ytlakhgibjfmjjaagreat", sum := "ff40d01b5e0192efa9b622b0cb07c163f6cd1c73b13bff0fe6a81ff0516c224e", func := "weighbridge/weighbridgetop.WholeRules", spec := "wholeRules", unfollowed := true, recurses := true, apart := false }
def WholeRulesSaid : Prop := wholeRulesRow.holds Tryz.pinned (OpenSpec.ofChange wholeRulesSpec)

/-- ITS FALSE NEIGHBOUR: 'it returns false'. Refute it at one input. -/
def wholeRulesWrong : ChangeSpec := { name := "wholeRules", fn := fun _ => fun
  | [d1, d2, d3] => { results := [.lit (.bool false)], args := [d1, d2, d3] }
  | _ => none }
def WholeRulesWrongFalsely : Prop := wholeRulesRow.holds Tryz.pinned (OpenSpec.ofChange wholeRulesWrong)

/-- 'weighbridgetop.WholeDrains': WHATEVER THE INPUT: true; the input reads as it did. -/
def wholeDrainsSpec : ChangeSpec := { name := "wholeDrains", fn := fun _ => fun
  | [d1, d2, d3] => { results := [.lit (.bool true)], args := [d1, d2, d3] }
  | _ => none }
def wholeDrainsRow : OpenClaim := { program := "ytlakhgibjfmjjaagreat", sum := "ff40d01b5e0192efa9b622b0cb07c163f6cd1c73b13bff0fe6a81ff0516c224e", func := "weighbridge/weighbridgetop.WholeDrains", spec := "wholeDrains", unfollowed := true, recurses := true, apart := false }
def WholeDrainsSaid : Prop := wholeDrainsRow.holds Tryz.pinned (OpenSpec.ofChange wholeDrainsSpec)

/-- ITS FALSE NEIGHBOUR: 'it returns false'. Refute it at one input. -/
def wholeDrainsWrong : ChangeSpec := { name := "wholeDrains", fn := fun _ => fun
  | [d1, d2, d3] => { results := [.lit (.bool false)], args := [d1, d2, d3] }
  | _ => none }
def WholeDrainsWrongFalsely : Prop := wholeDrainsRow.holds Tryz.pinned (OpenSpec.ofChange wholeDrainsWrong)

/- THE SECOND FORM. 'bulk': how many values and letters a reading holds, each counted each time it is reached (what is shared counts as often as it is met; a slice's spare places count too). A statement '..UptoSaid' is the law's where the arguments, and the package variables that the reading takes, are together of bulk at most 1048576: NARROWER than '..Said'. Prove '..Said' where nothing that the law and all that it calls make is longer than what came in: it says more and counts as full. Else prove '..UptoSaid'. A law counts once. -/
mutual
def uptoBulk {H : Type} : DataW H → Nat
  | .lit (.string bytes) => bytes.length + 1
  | .lit _ => 1
  | .nil => 1
  | .ptr d => uptoBulk d + 1
  | .slice elems spare => uptoBulkAll elems + uptoBulkAll spare + 1
  | .agg parts => uptoBulkAll parts + 1
  | .iface _ d => uptoBulk d + 1
  | .map entries => uptoBulkEntries entries + 1
  | .held _ => 1
def uptoBulkAll {H : Type} : List (DataW H) → Nat
  | [] => 0
  | d :: r => uptoBulk d + uptoBulkAll r
def uptoBulkEntries {H : Type} : List (Lit × DataW H) → Nat
  | [] => 0
  | x :: r => uptoBulkEntry x + uptoBulkEntries r
def uptoBulkEntry {H : Type} : Lit × DataW H → Nat
  | (.string bytes, d) => bytes.length + uptoBulk d + 1
  | (_, d) => uptoBulk d + 1
 end
def uptoSmall : (H : Type) → List (DataW H) → Bool := fun _ ds => decide (uptoBulkAll ds ≤ 1048576)
def OpenSpec.upto (s : _root_.Go.ChangeSpec) : _root_.Go.OpenSpec := { _root_.Go.OpenSpec.ofChange s with cond := some uptoSmall }

/-- 'weighbridgetop.WholeExact', WHERE WHAT IT READS IS OF BULK AT MOST 1048576: true; the input reads as it did. -/
def wholeExactUptoRow : OpenClaim := { program := "ytlakhgibjfmjjaagreat", sum := "ff40d01b5e0192efa9b622b0cb07c163f6cd1c73b13bff0fe6a81ff0516c224e", func := "weighbridge/weighbridgetop.WholeExact", spec := "wholeExact", unfollowed := true, recurses := true, apart := false, narrowed := true }
def WholeExactUptoSaid : Prop := wholeExactUptoRow.holds Tryz.pinned (OpenSpec.upto wholeExactSpec)

/-- 'weighbridgetop.WholeFresh', WHERE WHAT IT READS IS OF BULK AT MOST 1048576: true; the input reads as it did. -/
def wholeFreshUptoRow : OpenClaim := { program := "ytlakhgibjfmjjaagreat", sum := "ff40d01b5e0192efa9b622b0cb07c163f6cd1c73b13bff0fe6a81ff0516c224e", func := "weighbridge/weighbridgetop.WholeFresh", spec := "wholeFresh", unfollowed := true, recurses := true, apart := false, narrowed := true }
def WholeFreshUptoSaid : Prop := wholeFreshUptoRow.holds Tryz.pinned (OpenSpec.upto wholeFreshSpec)

/-- 'weighbridgetop.WholeTop', WHERE WHAT IT READS IS OF BULK AT MOST 1048576: true; the input reads as it did. -/
def wholeTopUptoRow : OpenClaim := { program := "ytlakhgibjfmjjaagreat", sum := "ff40d01b5e0192efa9b622b0cb07c163f6cd1c73b13bff0fe6a81ff0516c224e", func := "weighbridge/weighbridgetop.WholeTop", spec := "wholeTop", unfollowed := true, recurses := true, apart := false, narrowed := true }
def WholeTopUptoSaid : Prop := wholeTopUptoRow.holds Tryz.pinned (OpenSpec.upto wholeTopSpec)

/-- 'weighbridgetop.WholePeeks', WHERE WHAT IT READS IS OF BULK AT MOST 1048576: true; the input reads as it did. -/
def wholePeeksUptoRow : OpenClaim := { program := "ytlakhgibjfmjjaagreat", sum := "ff40d01b5e0192efa9b622b0cb07c163f6cd1c73b13bff0fe6a81ff0516c224e", func := "weighbridge/weighbridgetop.WholePeeks", spec := "wholePeeks", unfollowed := true, recurses := true, apart := false, narrowed := true }
def WholePeeksUptoSaid : Prop := wholePeeksUptoRow.holds Tryz.pinned (OpenSpec.upto wholePeeksSpec)

/-- 'weighbridgetop.WholeHorizon', WHERE WHAT IT READS IS OF BULK AT MOST 1048576: true; the input reads as it did. -/
def wholeHorizonUptoRow : OpenClaim := { program := "ytlakhgibjfmjjaagreat", sum := "ff40d01b5e0192efa9b622b0cb07c163f6cd1c73b13bff0fe6a81ff0516c224e", func := "weighbridge/weighbridgetop.WholeHorizon", spec := "wholeHorizon", unfollowed := true, recurses := true, apart := false, narrowed := true }
def WholeHorizonUptoSaid : Prop := wholeHorizonUptoRow.holds Tryz.pinned (OpenSpec.upto wholeHorizonSpec)

/-- 'weighbridgetop.WholeHeld', WHERE WHAT IT READS IS OF BULK AT MOST 1048576: true; the input reads as it did. -/
def wholeHeldUptoRow : OpenClaim := { program := "ytlakhgibjfmjjaagreat", sum := "ff40d01b5e0192efa9b622b0cb07c163f6cd1c73b13bff0fe6a81ff0516c224e", func := "weighbridge/weighbridgetop.WholeHeld", spec := "wholeHeld", unfollowed := true, recurses := true, apart := false, narrowed := true }
def WholeHeldUptoSaid : Prop := wholeHeldUptoRow.holds Tryz.pinned (OpenSpec.upto wholeHeldSpec)

/-- 'weighbridgetop.WholeRules', WHERE WHAT IT READS IS OF BULK AT MOST 1048576: true; the input reads as it did. -/
def wholeRulesUptoRow : OpenClaim := { program := "ytlakhgibjfmjjaagreat", sum := "ff40d01b5e0192efa9b622b0cb07c163f6cd1c73b13bff0fe6a81ff0516c224e", func := "weighbridge/weighbridgetop.WholeRules", spec := "wholeRules", unfollowed := true, recurses := true, apart := false, narrowed := true }
def WholeRulesUptoSaid : Prop := wholeRulesUptoRow.holds Tryz.pinned (OpenSpec.upto wholeRulesSpec)

/-- 'weighbridgetop.WholeDrains', WHERE WHAT IT READS IS OF BULK AT MOST 1048576: true; the input reads as it did. -/
def wholeDrainsUptoRow : OpenClaim := { program := "ytlakhgibjfmjjaagreat", sum := "ff40d01b5e0192efa9b622b0cb07c163f6cd1c73b13bff0fe6a81ff0516c224e", func := "weighbridge/weighbridgetop.WholeDrains", spec := "wholeDrains", unfollowed := true, recurses := true, apart := false, narrowed := true }
def WholeDrainsUptoSaid : Prop := wholeDrainsUptoRow.holds Tryz.pinned (OpenSpec.upto wholeDrainsSpec)

end Rows
end Go.Proofs.YtlakhgibjfmjjaaGreat
