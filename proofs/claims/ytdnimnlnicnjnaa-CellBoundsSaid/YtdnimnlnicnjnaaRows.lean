/-
  No cell of these rows narrows 'for every input' (looked for: loops, veiled, ifaces, maps, wideKeys, modest, calm, conditions, laid).
  DERIVED. THE GIVEN ROWS OF THIS SEAT. 8 by the template 'for every input the law returns true; each argument reads behind the call as it read before'; 0 by the template 'total and deterministic' (their statements: YtdnimnlnicnjnaaTotals.lean).
  GIVEN WITH THE SEED: the statements are not yours to turn. If you find one false, say at which input.
  Laid BY PROGRAM, IN A SANDBOX (cutbox-rows.mjs): the forced cells as the released guide's own fill.sh prints them over the translation 320e2ae056c05fd6… (all of the seat's roots in one cut). By AI agents, Wed Nov 11 2026. No macro, syntax, notation, axiom, sorry.
-/
import Derived.Test.YtdnimnlnicnjnaaChecked
import GoSem.Claim
import GoSem.ClaimJoined
import GoSem.ClaimMapViews
import Derived.JoinedTies
import Derived.KernelRfl
namespace Go.Proofs.Ytdnimnlnicnjnaa
/- THE CELL 'sum', in the pinned program and in every row, IS THE sha256 OF THE DUMP (.gsa) THAT YtdnimnlnicnjnaaProg.lean LOADS. Nothing in Lean hashes anything: it is a label: what it is worth is what the hold of that sum in a sandbox is worth. -/
noncomputable def Try.pinned : Pinned := { name := "ytdnimnlnicnjnaa", sum := "320e2ae056c05fd636624cc52b3ecd78677e41c7a51a3479ad012c7a674e8b24", checked := Try.checked }
namespace Rows
def none {H : Type} : Left H := { results := [], args := [] }

/-- 'weighbridgelaw09.CellRuns': WHATEVER THE INPUT: true; the input reads as it did. -/
def cellRunsSpec : ChangeSpec := { name := "cellRuns", fn := fun _ => fun
  | [d1, d2, d3] => { results := [.lit (.bool true)], args := [d1, d2, d3] }
  | _ => none }
def cellRunsRow : OpenClaim := { program := "ytdnimnlnicnjnaa", sum := "320e2ae056c05fd636624cc52b3ecd78677e41c7a51a3479ad012c7a674e8b24", func := "weighbridge/weighbridgelaw09.CellRuns", spec := "cellRuns", apart := false }
def CellRunsSaid : Prop := cellRunsRow.holds Try.pinned (OpenSpec.ofChange cellRunsSpec)

/-- ITS FALSE NEIGHBOUR: 'it returns false'. Refute it at one input. -/
def cellRunsWrong : ChangeSpec := { name := "cellRuns", fn := fun _ => fun
  | [d1, d2, d3] => { results := [.lit (.bool false)], args := [d1, d2, d3] }
  | _ => none }
def CellRunsWrongFalsely : Prop := cellRunsRow.holds Try.pinned (OpenSpec.ofChange cellRunsWrong)

/-- 'weighbridgelaw09.CellLimit': WHATEVER THE INPUT: true; the input reads as it did. -/
def cellLimitSpec : ChangeSpec := { name := "cellLimit", fn := fun _ => fun
  | [d1, d2, d3] => { results := [.lit (.bool true)], args := [d1, d2, d3] }
  | _ => none }
def cellLimitRow : OpenClaim := { program := "ytdnimnlnicnjnaa", sum := "320e2ae056c05fd636624cc52b3ecd78677e41c7a51a3479ad012c7a674e8b24", func := "weighbridge/weighbridgelaw09.CellLimit", spec := "cellLimit", apart := false }
def CellLimitSaid : Prop := cellLimitRow.holds Try.pinned (OpenSpec.ofChange cellLimitSpec)

/-- ITS FALSE NEIGHBOUR: 'it returns false'. Refute it at one input. -/
def cellLimitWrong : ChangeSpec := { name := "cellLimit", fn := fun _ => fun
  | [d1, d2, d3] => { results := [.lit (.bool false)], args := [d1, d2, d3] }
  | _ => none }
def CellLimitWrongFalsely : Prop := cellLimitRow.holds Try.pinned (OpenSpec.ofChange cellLimitWrong)

/-- 'weighbridgelaw09.CellWaits': WHATEVER THE INPUT: true; the input reads as it did. -/
def cellWaitsSpec : ChangeSpec := { name := "cellWaits", fn := fun _ => fun
  | [d1, d2, d3] => { results := [.lit (.bool true)], args := [d1, d2, d3] }
  | _ => none }
def cellWaitsRow : OpenClaim := { program := "ytdnimnlnicnjnaa", sum := "320e2ae056c05fd636624cc52b3ecd78677e41c7a51a3479ad012c7a674e8b24", func := "weighbridge/weighbridgelaw09.CellWaits", spec := "cellWaits", apart := false }
def CellWaitsSaid : Prop := cellWaitsRow.holds Try.pinned (OpenSpec.ofChange cellWaitsSpec)

/-- ITS FALSE NEIGHBOUR: 'it returns false'. Refute it at one input. -/
def cellWaitsWrong : ChangeSpec := { name := "cellWaits", fn := fun _ => fun
  | [d1, d2, d3] => { results := [.lit (.bool false)], args := [d1, d2, d3] }
  | _ => none }
def CellWaitsWrongFalsely : Prop := cellWaitsRow.holds Try.pinned (OpenSpec.ofChange cellWaitsWrong)

/-- 'weighbridgelaw09.CellMore': WHATEVER THE INPUT: true; the input reads as it did. -/
def cellMoreSpec : ChangeSpec := { name := "cellMore", fn := fun _ => fun
  | [d1, d2] => { results := [.lit (.bool true)], args := [d1, d2] }
  | _ => none }
def cellMoreRow : OpenClaim := { program := "ytdnimnlnicnjnaa", sum := "320e2ae056c05fd636624cc52b3ecd78677e41c7a51a3479ad012c7a674e8b24", func := "weighbridge/weighbridgelaw09.CellMore", spec := "cellMore", apart := false }
def CellMoreSaid : Prop := cellMoreRow.holds Try.pinned (OpenSpec.ofChange cellMoreSpec)

/-- ITS FALSE NEIGHBOUR: 'it returns false'. Refute it at one input. -/
def cellMoreWrong : ChangeSpec := { name := "cellMore", fn := fun _ => fun
  | [d1, d2] => { results := [.lit (.bool false)], args := [d1, d2] }
  | _ => none }
def CellMoreWrongFalsely : Prop := cellMoreRow.holds Try.pinned (OpenSpec.ofChange cellMoreWrong)

/-- 'weighbridgelaw09.CellCarry': WHATEVER THE INPUT: true; the input reads as it did. -/
def cellCarrySpec : ChangeSpec := { name := "cellCarry", fn := fun _ => fun
  | [d1, d2, d3] => { results := [.lit (.bool true)], args := [d1, d2, d3] }
  | _ => none }
def cellCarryRow : OpenClaim := { program := "ytdnimnlnicnjnaa", sum := "320e2ae056c05fd636624cc52b3ecd78677e41c7a51a3479ad012c7a674e8b24", func := "weighbridge/weighbridgelaw09.CellCarry", spec := "cellCarry", apart := false }
def CellCarrySaid : Prop := cellCarryRow.holds Try.pinned (OpenSpec.ofChange cellCarrySpec)

/-- ITS FALSE NEIGHBOUR: 'it returns false'. Refute it at one input. -/
def cellCarryWrong : ChangeSpec := { name := "cellCarry", fn := fun _ => fun
  | [d1, d2, d3] => { results := [.lit (.bool false)], args := [d1, d2, d3] }
  | _ => none }
def CellCarryWrongFalsely : Prop := cellCarryRow.holds Try.pinned (OpenSpec.ofChange cellCarryWrong)

/-- 'weighbridgelaw09.CellUnits': WHATEVER THE INPUT: true; the input reads as it did. -/
def cellUnitsSpec : ChangeSpec := { name := "cellUnits", fn := fun _ => fun
  | [d1, d2] => { results := [.lit (.bool true)], args := [d1, d2] }
  | _ => none }
def cellUnitsRow : OpenClaim := { program := "ytdnimnlnicnjnaa", sum := "320e2ae056c05fd636624cc52b3ecd78677e41c7a51a3479ad012c7a674e8b24", func := "weighbridge/weighbridgelaw09.CellUnits", spec := "cellUnits", apart := false }
def CellUnitsSaid : Prop := cellUnitsRow.holds Try.pinned (OpenSpec.ofChange cellUnitsSpec)

/-- ITS FALSE NEIGHBOUR: 'it returns false'. Refute it at one input. -/
def cellUnitsWrong : ChangeSpec := { name := "cellUnits", fn := fun _ => fun
  | [d1, d2] => { results := [.lit (.bool false)], args := [d1, d2] }
  | _ => none }
def CellUnitsWrongFalsely : Prop := cellUnitsRow.holds Try.pinned (OpenSpec.ofChange cellUnitsWrong)

/-- 'weighbridgelaw09.CellBounds': WHATEVER THE INPUT: true; the input reads as it did. -/
def cellBoundsSpec : ChangeSpec := { name := "cellBounds", fn := fun _ => fun
  | [d1, d2, d3] => { results := [.lit (.bool true)], args := [d1, d2, d3] }
  | _ => none }
def cellBoundsRow : OpenClaim := { program := "ytdnimnlnicnjnaa", sum := "320e2ae056c05fd636624cc52b3ecd78677e41c7a51a3479ad012c7a674e8b24", func := "weighbridge/weighbridgelaw09.CellBounds", spec := "cellBounds", apart := false }
def CellBoundsSaid : Prop := cellBoundsRow.holds Try.pinned (OpenSpec.ofChange cellBoundsSpec)

/-- ITS FALSE NEIGHBOUR: 'it returns false'. Refute it at one input. -/
def cellBoundsWrong : ChangeSpec := { name := "cellBounds", fn := fun _ => fun
  | [d1, d2, d3] => { results := [.lit (.bool false)], args := [d1, d2, d3] }
  | _ => none }
def CellBoundsWrongFalsely : Prop := cellBoundsRow.holds Try.pinned (OpenSpec.ofChange cellBoundsWrong)

/-- 'weighbridgelaw09.CellShift': WHATEVER THE INPUT: true; the input reads as it did. -/
def cellShiftSpec : ChangeSpec := { name := "cellShift", fn := fun _ => fun
  | [d1, d2, d3] => { results := [.lit (.bool true)], args := [d1, d2, d3] }
  | _ => none }
def cellShiftRow : OpenClaim := { program := "ytdnimnlnicnjnaa", sum := "320e2ae056c05fd636624cc52b3ecd78677e41c7a51a3479ad012c7a674e8b24", func := "weighbridge/weighbridgelaw09.CellShift", spec := "cellShift", apart := false }
def CellShiftSaid : Prop := cellShiftRow.holds Try.pinned (OpenSpec.ofChange cellShiftSpec)

/-- ITS FALSE NEIGHBOUR: 'it returns false'. Refute it at one input. -/
def cellShiftWrong : ChangeSpec := { name := "cellShift", fn := fun _ => fun
  | [d1, d2, d3] => { results := [.lit (.bool false)], args := [d1, d2, d3] }
  | _ => none }
def CellShiftWrongFalsely : Prop := cellShiftRow.holds Try.pinned (OpenSpec.ofChange cellShiftWrong)

/- THE SECOND FORM. 'bulk': how many values and letters a reading holds, each counted each time it is reached (what is shared counts as often as it is met; a slice's spare places count too). A statement '..UptoSaid' is the law's where the arguments, and the package variables that the reading takes, are together of bulk at most 1048576: NARROWER than '..Said'. Prove '..Said' where nothing that the law and all that it calls make is longer than what came in: it says more and counts as full. Else prove '..UptoSaid'. A law counts once. -/
mutual
def uptoBulk {H : Type} : DataW H → Nat
  | .lit (.string bytes) => bytes.length + 1
  | .lit _ => 1
  | .nil => 1
  | .ptr d => uptoBulk d + 1
  | .slice elems spare => uptoBulkAll elems + uptoBulkAll spare + 1
  | .agg parts => uptoBulkAll parts + 1
  | .iface _ d => uptoBulk d + 1
  | .map entries => uptoBulkEntries entries + 1
  | .held _ => 1
def uptoBulkAll {H : Type} : List (DataW H) → Nat
  | [] => 0
  | d :: r => uptoBulk d + uptoBulkAll r
def uptoBulkEntries {H : Type} : List (Lit × DataW H) → Nat
  | [] => 0
  | x :: r => uptoBulkEntry x + uptoBulkEntries r
def uptoBulkEntry {H : Type} : Lit × DataW H → Nat
  | (.string bytes, d) => bytes.length + uptoBulk d + 1
  | (_, d) => uptoBulk d + 1
 end
def uptoSmall : (H : Type) → List (DataW H) → Bool := fun _ ds => decide (uptoBulkAll ds ≤ 1048576)
def OpenSpec.upto (s : _root_.Go.ChangeSpec) : _root_.Go.OpenSpec := { _root_.Go.OpenSpec.ofChange s with cond := some uptoSmall }

/-- 'weighbridgelaw09.CellRuns', WHERE WHAT IT READS IS OF BULK AT MOST 1048576: true; the input reads as it did. -/
def cellRunsUptoRow : OpenClaim := { program := "ytdnimnlnicnjnaa", sum := "320e2ae056c05fd636624cc52b3ecd78677e41c7a51a3479ad012c7a674e8b24", func := "weighbridge/weighbridgelaw09.CellRuns", spec := "cellRuns", apart := false, narrowed := true }
def CellRunsUptoSaid : Prop := cellRunsUptoRow.holds Try.pinned (OpenSpec.upto cellRunsSpec)

/-- 'weighbridgelaw09.CellLimit', WHERE WHAT IT READS IS OF BULK AT MOST 1048576: true; the input reads as it did. -/
def cellLimitUptoRow : OpenClaim := { program := "ytdnimnlnicnjnaa", sum := "320e2ae056c05fd636624cc52b3ecd78677e41c7a51a3479ad012c7a674e8b24", func := "weighbridge/weighbridgelaw09.CellLimit", spec := "cellLimit", apart := false, narrowed := true }
def CellLimitUptoSaid : Prop := cellLimitUptoRow.holds Try.pinned (OpenSpec.upto cellLimitSpec)

/-- 'weighbridgelaw09.CellWaits', WHERE WHAT IT READS IS OF BULK AT MOST 1048576: true; the input reads as it did. -/
def cellWaitsUptoRow : OpenClaim := { program := "ytdnimnlnicnjnaa", sum := "320e2ae056c05fd636624cc52b3ecd78677e41c7a51a3479ad012c7a674e8b24", func := "weighbridge/weighbridgelaw09.CellWaits", spec := "cellWaits", apart := false, narrowed := true }
def CellWaitsUptoSaid : Prop := cellWaitsUptoRow.holds Try.pinned (OpenSpec.upto cellWaitsSpec)

/-- 'weighbridgelaw09.CellMore', WHERE WHAT IT READS IS OF BULK AT MOST 1048576: true; the input reads as it did. -/
def cellMoreUptoRow : OpenClaim := { program := "ytdnimnlnicnjnaa", sum := "320e2ae056c05fd636624cc52b3ecd78677e41c7a51a3479ad012c7a674e8b24", func := "weighbridge/weighbridgelaw09.CellMore", spec := "cellMore", apart := false, narrowed := true }
def CellMoreUptoSaid : Prop := cellMoreUptoRow.holds Try.pinned (OpenSpec.upto cellMoreSpec)

/-- 'weighbridgelaw09.CellCarry', WHERE WHAT IT READS IS OF BULK AT MOST 1048576: true; the input reads as it did. -/
def cellCarryUptoRow : OpenClaim := { program := "ytdnimnlnicnjnaa", sum := "320e2ae056c05fd636624cc52b3ecd78677e41c7a51a3479ad012c7a674e8b24", func := "weighbridge/weighbridgelaw09.CellCarry", spec := "cellCarry", apart := false, narrowed := true }
def CellCarryUptoSaid : Prop := cellCarryUptoRow.holds Try.pinned (OpenSpec.upto cellCarrySpec)

/-- 'weighbridgelaw09.CellUnits', WHERE WHAT IT READS IS OF BULK AT MOST 1048576: true; the input reads as it did. -/
def cellUnitsUptoRow : OpenClaim := { program := "ytdnimnlnicnjnaa", sum := "320e2ae056c05fd636624cc52b3ecd78677e41c7a51a3479ad012c7a674e8b24", func := "weighbridge/weighbridgelaw09.CellUnits", spec := "cellUnits", apart := false, narrowed := true }
def CellUnitsUptoSaid : Prop := cellUnitsUptoRow.holds Try.pinned (OpenSpec.upto cellUnitsSpec)

/-- 'weighbridgelaw09.CellBounds', WHERE WHAT IT READS IS OF BULK AT MOST 1048576: true; the input reads as it did. -/
def cellBoundsUptoRow : OpenClaim := { program := "ytdnimnlnicnjnaa", sum := "320e2ae056c05fd636624cc52b3ecd78677e41c7a51a3479ad012c7a674e8b24", func := "weighbridge/weighbridgelaw09.CellBounds", spec := "cellBounds", apart := false, narrowed := true }
def CellBoundsUptoSaid : Prop := cellBoundsUptoRow.holds Try.pinned (OpenSpec.upto cellBoundsSpec)

/-- 'weighbridgelaw09.CellShift', WHERE WHAT IT READS IS OF BULK AT MOST 1048576: true; the input reads as it did. -/
def cellShiftUptoRow : OpenClaim := { program := "ytdnimnlnicnjnaa", sum := "320e2ae056c05fd636624cc52b3ecd78677e41c7a51a3479ad012c7a674e8b24", func := "weighbridge/weighbridgelaw09.CellShift", spec := "cellShift", apart := false, narrowed := true }
def CellShiftUptoSaid : Prop := cellShiftUptoRow.holds Try.pinned (OpenSpec.upto cellShiftSpec)

end Rows
end Go.Proofs.Ytdnimnlnicnjnaa
