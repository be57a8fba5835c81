/-
  No cell of these rows narrows 'for every input' (looked for: loops, veiled, ifaces, maps, wideKeys, modest, calm, conditions, laid).
  DERIVED. THE GIVEN ROWS OF THIS SEAT. 7 by the template 'for every input the law returns true; each argument reads behind the call as it read before'; 0 by the template 'total and deterministic' (their statements: YtcmdehfbidgoeaaTotals.lean).
  GIVEN WITH THE SEED: the statements are not yours to turn. If you find one false, say at which input.
  Laid BY PROGRAM, IN A SANDBOX (cutbox-rows.mjs): the forced cells as the released guide's own fill.sh prints them over the translation 2a493edae4f8f1ab… (all of the seat's roots in one cut). By AI agents, Wed Nov 11 2026. No macro, syntax, notation, axiom, sorry.
-/
import Derived.Test.YtcmdehfbidgoeaaChecked
import GoSem.Claim
import GoSem.ClaimJoined
import GoSem.ClaimMapViews
import Derived.JoinedTies
import Derived.KernelRfl
namespace Go.Proofs.Ytcmdehfbidgoeaa
/- THE CELL 'sum', in the pinned program and in every row, IS THE sha256 OF THE DUMP (.gsa) THAT YtcmdehfbidgoeaaProg.lean LOADS. Nothing in Lean hashes anything: it is a label: what it is worth is what the hold of that sum in a sandbox is worth. -/
noncomputable def Try.pinned : Pinned := { name := "ytcmdehfbidgoeaa", sum := "2a493edae4f8f1ab7a0e5570ee27f0ba50168d6763223d43715c08bd0127c665", checked := Try.checked }
namespace Rows
def none {H : Type} : Left H := { results := [], args := [] }

/-- 'weighbridgelaw07.RingSlots': WHATEVER THE INPUT: true; the input reads as it did. -/
def ringSlotsSpec : ChangeSpec := { name := "ringSlots", fn := fun _ => fun
  | [d1, d2] => { results := [.lit (.bool true)], args := [d1, d2] }
  | _ => none }
def ringSlotsRow : OpenClaim := { program := "ytcmdehfbidgoeaa", sum := "2a493edae4f8f1ab7a0e5570ee27f0ba50168d6763223d43715c08bd0127c665", func := "weighbridge/weighbridgelaw07.RingSlots", spec := "ringSlots", named := ["math/bits.divideError", "math/bits.overflowError"], apart := false }
def RingSlotsSaid : Prop := ringSlotsRow.holds Try.pinned (OpenSpec.ofChange ringSlotsSpec)

/-- ITS FALSE NEIGHBOUR: 'it returns false'. Refute it at one input. -/
def ringSlotsWrong : ChangeSpec := { name := "ringSlots", fn := fun _ => fun
  | [d1, d2] => { results := [.lit (.bool false)], args := [d1, d2] }
  | _ => none }
def RingSlotsWrongFalsely : Prop := ringSlotsRow.holds Try.pinned (OpenSpec.ofChange ringSlotsWrong)

/-- 'weighbridgelaw07.RingOver': WHATEVER THE INPUT: true; the input reads as it did. -/
def ringOverSpec : ChangeSpec := { name := "ringOver", fn := fun _ => fun
  | [d1, d2, d3] => { results := [.lit (.bool true)], args := [d1, d2, d3] }
  | _ => none }
def ringOverRow : OpenClaim := { program := "ytcmdehfbidgoeaa", sum := "2a493edae4f8f1ab7a0e5570ee27f0ba50168d6763223d43715c08bd0127c665", func := "weighbridge/weighbridgelaw07.RingOver", spec := "ringOver", named := ["math/bits.divideError", "math/bits.overflowError"], apart := false }
def RingOverSaid : Prop := ringOverRow.holds Try.pinned (OpenSpec.ofChange ringOverSpec)

/-- ITS FALSE NEIGHBOUR: 'it returns false'. Refute it at one input. -/
def ringOverWrong : ChangeSpec := { name := "ringOver", fn := fun _ => fun
  | [d1, d2, d3] => { results := [.lit (.bool false)], args := [d1, d2, d3] }
  | _ => none }
def RingOverWrongFalsely : Prop := ringOverRow.holds Try.pinned (OpenSpec.ofChange ringOverWrong)

/-- 'weighbridgelaw07.RingExact': WHATEVER THE INPUT: true; the input reads as it did. -/
def ringExactSpec : ChangeSpec := { name := "ringExact", fn := fun _ => fun
  | [d1, d2, d3] => { results := [.lit (.bool true)], args := [d1, d2, d3] }
  | _ => none }
def ringExactRow : OpenClaim := { program := "ytcmdehfbidgoeaa", sum := "2a493edae4f8f1ab7a0e5570ee27f0ba50168d6763223d43715c08bd0127c665", func := "weighbridge/weighbridgelaw07.RingExact", spec := "ringExact", named := ["math/bits.divideError", "math/bits.overflowError"], apart := false }
def RingExactSaid : Prop := ringExactRow.holds Try.pinned (OpenSpec.ofChange ringExactSpec)

/-- ITS FALSE NEIGHBOUR: 'it returns false'. Refute it at one input. -/
def ringExactWrong : ChangeSpec := { name := "ringExact", fn := fun _ => fun
  | [d1, d2, d3] => { results := [.lit (.bool false)], args := [d1, d2, d3] }
  | _ => none }
def RingExactWrongFalsely : Prop := ringExactRow.holds Try.pinned (OpenSpec.ofChange ringExactWrong)

/-- 'weighbridgelaw07.RingFades': WHATEVER THE INPUT: true; the input reads as it did. -/
def ringFadesSpec : ChangeSpec := { name := "ringFades", fn := fun _ => fun
  | [d1, d2, d3] => { results := [.lit (.bool true)], args := [d1, d2, d3] }
  | _ => none }
def ringFadesRow : OpenClaim := { program := "ytcmdehfbidgoeaa", sum := "2a493edae4f8f1ab7a0e5570ee27f0ba50168d6763223d43715c08bd0127c665", func := "weighbridge/weighbridgelaw07.RingFades", spec := "ringFades", named := ["math/bits.divideError", "math/bits.overflowError"], apart := false }
def RingFadesSaid : Prop := ringFadesRow.holds Try.pinned (OpenSpec.ofChange ringFadesSpec)

/-- ITS FALSE NEIGHBOUR: 'it returns false'. Refute it at one input. -/
def ringFadesWrong : ChangeSpec := { name := "ringFades", fn := fun _ => fun
  | [d1, d2, d3] => { results := [.lit (.bool false)], args := [d1, d2, d3] }
  | _ => none }
def RingFadesWrongFalsely : Prop := ringFadesRow.holds Try.pinned (OpenSpec.ofChange ringFadesWrong)

/-- 'weighbridgelaw07.RingWaits': WHATEVER THE INPUT: true; the input reads as it did. -/
def ringWaitsSpec : ChangeSpec := { name := "ringWaits", fn := fun _ => fun
  | [d1, d2, d3] => { results := [.lit (.bool true)], args := [d1, d2, d3] }
  | _ => none }
def ringWaitsRow : OpenClaim := { program := "ytcmdehfbidgoeaa", sum := "2a493edae4f8f1ab7a0e5570ee27f0ba50168d6763223d43715c08bd0127c665", func := "weighbridge/weighbridgelaw07.RingWaits", spec := "ringWaits", named := ["math/bits.divideError", "math/bits.overflowError"], apart := false }
def RingWaitsSaid : Prop := ringWaitsRow.holds Try.pinned (OpenSpec.ofChange ringWaitsSpec)

/-- ITS FALSE NEIGHBOUR: 'it returns false'. Refute it at one input. -/
def ringWaitsWrong : ChangeSpec := { name := "ringWaits", fn := fun _ => fun
  | [d1, d2, d3] => { results := [.lit (.bool false)], args := [d1, d2, d3] }
  | _ => none }
def RingWaitsWrongFalsely : Prop := ringWaitsRow.holds Try.pinned (OpenSpec.ofChange ringWaitsWrong)

/-- 'weighbridgelaw07.RingCosts': WHATEVER THE INPUT: true; the input reads as it did. -/
def ringCostsSpec : ChangeSpec := { name := "ringCosts", fn := fun _ => fun
  | [d1, d2, d3] => { results := [.lit (.bool true)], args := [d1, d2, d3] }
  | _ => none }
def ringCostsRow : OpenClaim := { program := "ytcmdehfbidgoeaa", sum := "2a493edae4f8f1ab7a0e5570ee27f0ba50168d6763223d43715c08bd0127c665", func := "weighbridge/weighbridgelaw07.RingCosts", spec := "ringCosts", named := ["math/bits.divideError", "math/bits.overflowError"], apart := false }
def RingCostsSaid : Prop := ringCostsRow.holds Try.pinned (OpenSpec.ofChange ringCostsSpec)

/-- ITS FALSE NEIGHBOUR: 'it returns false'. Refute it at one input. -/
def ringCostsWrong : ChangeSpec := { name := "ringCosts", fn := fun _ => fun
  | [d1, d2, d3] => { results := [.lit (.bool false)], args := [d1, d2, d3] }
  | _ => none }
def RingCostsWrongFalsely : Prop := ringCostsRow.holds Try.pinned (OpenSpec.ofChange ringCostsWrong)

/-- 'weighbridgelaw07.RingJumps': WHATEVER THE INPUT: true; the input reads as it did. -/
def ringJumpsSpec : ChangeSpec := { name := "ringJumps", fn := fun _ => fun
  | [d1, d2, d3] => { results := [.lit (.bool true)], args := [d1, d2, d3] }
  | _ => none }
def ringJumpsRow : OpenClaim := { program := "ytcmdehfbidgoeaa", sum := "2a493edae4f8f1ab7a0e5570ee27f0ba50168d6763223d43715c08bd0127c665", func := "weighbridge/weighbridgelaw07.RingJumps", spec := "ringJumps", named := ["math/bits.divideError", "math/bits.overflowError"], apart := false }
def RingJumpsSaid : Prop := ringJumpsRow.holds Try.pinned (OpenSpec.ofChange ringJumpsSpec)

/-- ITS FALSE NEIGHBOUR: 'it returns false'. Refute it at one input. -/
def ringJumpsWrong : ChangeSpec := { name := "ringJumps", fn := fun _ => fun
  | [d1, d2, d3] => { results := [.lit (.bool false)], args := [d1, d2, d3] }
  | _ => none }
def RingJumpsWrongFalsely : Prop := ringJumpsRow.holds Try.pinned (OpenSpec.ofChange ringJumpsWrong)

/- THE SECOND FORM. 'bulk': how many values and letters a reading holds, each counted each time it is reached (what is shared counts as often as it is met; a slice's spare places count too). A statement '..UptoSaid' is the law's where the arguments, and the package variables that the reading takes, are together of bulk at most 1048576: NARROWER than '..Said'. Prove '..Said' where nothing that the law and all that it calls make is longer than what came in: it says more and counts as full. Else prove '..UptoSaid'. A law counts once. -/
mutual
def uptoBulk {H : Type} : DataW H → Nat
  | .lit (.string bytes) => bytes.length + 1
  | .lit _ => 1
  | .nil => 1
  | .ptr d => uptoBulk d + 1
  | .slice elems spare => uptoBulkAll elems + uptoBulkAll spare + 1
  | .agg parts => uptoBulkAll parts + 1
  | .iface _ d => uptoBulk d + 1
  | .map entries => uptoBulkEntries entries + 1
  | .held _ => 1
def uptoBulkAll {H : Type} : List (DataW H) → Nat
  | [] => 0
  | d :: r => uptoBulk d + uptoBulkAll r
def uptoBulkEntries {H : Type} : List (Lit × DataW H) → Nat
  | [] => 0
  | x :: r => uptoBulkEntry x + uptoBulkEntries r
def uptoBulkEntry {H : Type} : Lit × DataW H → Nat
  | (.string bytes, d) => bytes.length + uptoBulk d + 1
  | (_, d) => uptoBulk d + 1
 end
def uptoSmall : (H : Type) → List (DataW H) → Bool := fun _ ds => decide (uptoBulkAll ds ≤ 1048576)
def OpenSpec.upto (s : _root_.Go.ChangeSpec) : _root_.Go.OpenSpec := { _root_.Go.OpenSpec.ofChange s with cond := some uptoSmall }

/-- 'weighbridgelaw07.RingSlots', WHERE WHAT IT READS IS OF BULK AT MOST 1048576: true; the input reads as it did. -/
def ringSlotsUptoRow : OpenClaim := { program := "ytcmdehfbidgoeaa", sum := "2a493edae4f8f1ab7a0e5570ee27f0ba50168d6763223d43715c08bd0127c665", func := "weighbridge/weighbridgelaw07.RingSlots", spec := "ringSlots", named := ["math/bits.divideError", "math/bits.overflowError"], apart := false, narrowed := true }
def RingSlotsUptoSaid : Prop := ringSlotsUptoRow.holds Try.pinned (OpenSpec.upto ringSlotsSpec)

/-- 'weighbridgelaw07.RingOver', WHERE WHAT IT READS IS OF BULK AT MOST 1048576: true; the input reads as it did. -/
def ringOverUptoRow : OpenClaim := { program := "ytcmdehfbidgoeaa", sum := "2a493edae4f8f1ab7a0e5570ee27f0ba50168d6763223d43715c08bd0127c665", func := "weighbridge/weighbridgelaw07.RingOver", spec := "ringOver", named := ["math/bits.divideError", "math/bits.overflowError"], apart := false, narrowed := true }
def RingOverUptoSaid : Prop := ringOverUptoRow.holds Try.pinned (OpenSpec.upto ringOverSpec)

/-- 'weighbridgelaw07.RingExact', WHERE WHAT IT READS IS OF BULK AT MOST 1048576: true; the input reads as it did. -/
def ringExactUptoRow : OpenClaim := { program := "ytcmdehfbidgoeaa", sum := "2a493edae4f8f1ab7a0e5570ee27f0ba50168d6763223d43715c08bd0127c665", func := "weighbridge/weighbridgelaw07.RingExact", spec := "ringExact", named := ["math/bits.divideError", "math/bits.overflowError"], apart := false, narrowed := true }
def RingExactUptoSaid : Prop := ringExactUptoRow.holds Try.pinned (OpenSpec.upto ringExactSpec)

/-- 'weighbridgelaw07.RingFades', WHERE WHAT IT READS IS OF BULK AT MOST 1048576: true; the input reads as it did. -/
def ringFadesUptoRow : OpenClaim := { program := "ytcmdehfbidgoeaa", sum := "2a493edae4f8f1ab7a0e5570ee27f0ba50168d6763223d43715c08bd0127c665", func := "weighbridge/weighbridgelaw07.RingFades", spec := "ringFades", named := ["math/bits.divideError", "math/bits.overflowError"], apart := false, narrowed := true }
def RingFadesUptoSaid : Prop := ringFadesUptoRow.holds Try.pinned (OpenSpec.upto ringFadesSpec)

/-- 'weighbridgelaw07.RingWaits', WHERE WHAT IT READS IS OF BULK AT MOST 1048576: true; the input reads as it did. -/
def ringWaitsUptoRow : OpenClaim := { program := "ytcmdehfbidgoeaa", sum := "2a493edae4f8f1ab7a0e5570ee27f0ba50168d6763223d43715c08bd0127c665", func := "weighbridge/weighbridgelaw07.RingWaits", spec := "ringWaits", named := ["math/bits.divideError", "math/bits.overflowError"], apart := false, narrowed := true }
def RingWaitsUptoSaid : Prop := ringWaitsUptoRow.holds Try.pinned (OpenSpec.upto ringWaitsSpec)

/-- 'weighbridgelaw07.RingCosts', WHERE WHAT IT READS IS OF BULK AT MOST 1048576: true; the input reads as it did. -/
def ringCostsUptoRow : OpenClaim := { program := "ytcmdehfbidgoeaa", sum := "2a493edae4f8f1ab7a0e5570ee27f0ba50168d6763223d43715c08bd0127c665", func := "weighbridge/weighbridgelaw07.RingCosts", spec := "ringCosts", named := ["math/bits.divideError", "math/bits.overflowError"], apart := false, narrowed := true }
def RingCostsUptoSaid : Prop := ringCostsUptoRow.holds Try.pinned (OpenSpec.upto ringCostsSpec)

/-- 'weighbridgelaw07.RingJumps', WHERE WHAT IT READS IS OF BULK AT MOST 1048576: true; the input reads as it did. -/
def ringJumpsUptoRow : OpenClaim := { program := "ytcmdehfbidgoeaa", sum := "2a493edae4f8f1ab7a0e5570ee27f0ba50168d6763223d43715c08bd0127c665", func := "weighbridge/weighbridgelaw07.RingJumps", spec := "ringJumps", named := ["math/bits.divideError", "math/bits.overflowError"], apart := false, narrowed := true }
def RingJumpsUptoSaid : Prop := ringJumpsUptoRow.holds Try.pinned (OpenSpec.upto ringJumpsSpec)

end Rows
end Go.Proofs.Ytcmdehfbidgoeaa
