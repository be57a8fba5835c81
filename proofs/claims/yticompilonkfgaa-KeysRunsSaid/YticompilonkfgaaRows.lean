/-
  No cell of these rows narrows 'for every input' (looked for: loops, veiled, ifaces, maps, wideKeys, modest, calm, conditions, laid).
  DERIVED. THE GIVEN ROWS OF THIS SEAT. 4 by the template 'for every input the law returns true; each argument reads behind the call as it read before'; 0 by the template 'total and deterministic' (their statements: YticompilonkfgaaTotals.lean).
  GIVEN WITH THE SEED: the statements are not yours to turn. If you find one false, say at which input.
  Laid BY PROGRAM, IN A SANDBOX (cutbox-rows.mjs): the forced cells as the released guide's own fill.sh prints them over the translation 7a06db5fd4ab058e… (all of the seat's roots in one cut). By AI agents, Wed Nov 11 2026. No macro, syntax, notation, axiom, sorry.
-/
import Derived.Test.YticompilonkfgaaChecked
import GoSem.Claim
import GoSem.ClaimJoined
import GoSem.ClaimMapViews
import Derived.JoinedTies
import Derived.KernelRfl
namespace Go.Proofs.Yticompilonkfgaa
/- THE CELL 'sum', in the pinned program and in every row, IS THE sha256 OF THE DUMP (.gsa) THAT YticompilonkfgaaProg.lean LOADS. Nothing in Lean hashes anything: it is a label: what it is worth is what the hold of that sum in a sandbox is worth. -/
noncomputable def Try.pinned : Pinned := { name := "yticompilonkfgaa", sum := "7a06db5fd4ab058e28a23115356ecc61d18a29581065ed6f0bd791a6e1e522d4", checked := Try.checked }
namespace Rows
def none {H : Type} : Left H := { results := [], args := [] }

/-- 'weighbridgelaw04.KeysBytes': WHATEVER THE INPUT: true; the input reads as it did. -/
def keysBytesSpec : ChangeSpec := { name := "keysBytes", fn := fun _ => fun
  | [d1, d2] => { results := [.lit (.bool true)], args := [d1, d2] }
  | _ => none }
def keysBytesRow : OpenClaim := { program := "yticompilonkfgaa", sum := "7a06db5fd4ab058e28a23115356ecc61d18a29581065ed6f0bd791a6e1e522d4", func := "weighbridge/weighbridgelaw04.KeysBytes", spec := "keysBytes", apart := false }
def KeysBytesSaid : Prop := keysBytesRow.holds Try.pinned (OpenSpec.ofChange keysBytesSpec)

/-- ITS FALSE NEIGHBOUR: 'it returns false'. Refute it at one input. -/
def keysBytesWrong : ChangeSpec := { name := "keysBytes", fn := fun _ => fun
  | [d1, d2] => { results := [.lit (.bool false)], args := [d1, d2] }
  | _ => none }
def KeysBytesWrongFalsely : Prop := keysBytesRow.holds Try.pinned (OpenSpec.ofChange keysBytesWrong)

/-- 'weighbridgelaw04.KeysFull': WHATEVER THE INPUT: true; the input reads as it did. -/
def keysFullSpec : ChangeSpec := { name := "keysFull", fn := fun _ => fun
  | [d1, d2] => { results := [.lit (.bool true)], args := [d1, d2] }
  | _ => none }
def keysFullRow : OpenClaim := { program := "yticompilonkfgaa", sum := "7a06db5fd4ab058e28a23115356ecc61d18a29581065ed6f0bd791a6e1e522d4", func := "weighbridge/weighbridgelaw04.KeysFull", spec := "keysFull", apart := false }
def KeysFullSaid : Prop := keysFullRow.holds Try.pinned (OpenSpec.ofChange keysFullSpec)

/-- ITS FALSE NEIGHBOUR: 'it returns false'. Refute it at one input. -/
def keysFullWrong : ChangeSpec := { name := "keysFull", fn := fun _ => fun
  | [d1, d2] => { results := [.lit (.bool false)], args := [d1, d2] }
  | _ => none }
def KeysFullWrongFalsely : Prop := keysFullRow.holds Try.pinned (OpenSpec.ofChange keysFullWrong)

/-- 'weighbridgelaw04.KeysRuns': WHATEVER THE INPUT: true; the input reads as it did. -/
def keysRunsSpec : ChangeSpec := { name := "keysRuns", fn := fun _ => fun
  | [d1, d2] => { results := [.lit (.bool true)], args := [d1, d2] }
  | _ => none }
def keysRunsRow : OpenClaim := { program := "yticompilonkfgaa", sum := "7a06db5fd4ab058e28a23115356ecc61d18a29581065ed6f0bd791a6e1e522d4", func := "weighbridge/weighbridgelaw04.KeysRuns", spec := "keysRuns", apart := false }
def KeysRunsSaid : Prop := keysRunsRow.holds Try.pinned (OpenSpec.ofChange keysRunsSpec)

/-- ITS FALSE NEIGHBOUR: 'it returns false'. Refute it at one input. -/
def keysRunsWrong : ChangeSpec := { name := "keysRuns", fn := fun _ => fun
  | [d1, d2] => { results := [.lit (.bool false)], args := [d1, d2] }
  | _ => none }
def KeysRunsWrongFalsely : Prop := keysRunsRow.holds Try.pinned (OpenSpec.ofChange keysRunsWrong)

/-- 'weighbridgelaw04.KeysNone': WHATEVER THE INPUT: true; the input reads as it did. -/
def keysNoneSpec : ChangeSpec := { name := "keysNone", fn := fun _ => fun
  | [d1, d2] => { results := [.lit (.bool true)], args := [d1, d2] }
  | _ => none }
def keysNoneRow : OpenClaim := { program := "yticompilonkfgaa", sum := "7a06db5fd4ab058e28a23115356ecc61d18a29581065ed6f0bd791a6e1e522d4", func := "weighbridge/weighbridgelaw04.KeysNone", spec := "keysNone", apart := false }
def KeysNoneSaid : Prop := keysNoneRow.holds Try.pinned (OpenSpec.ofChange keysNoneSpec)

/-- ITS FALSE NEIGHBOUR: 'it returns false'. Refute it at one input. -/
def keysNoneWrong : ChangeSpec := { name := "keysNone", fn := fun _ => fun
  | [d1, d2] => { results := [.lit (.bool false)], args := [d1, d2] }
  | _ => none }
def KeysNoneWrongFalsely : Prop := keysNoneRow.holds Try.pinned (OpenSpec.ofChange keysNoneWrong)

/- THE SECOND FORM. 'bulk': how many values and letters a reading holds, each counted each time it is reached (what is shared counts as often as it is met; a slice's spare places count too). A statement '..UptoSaid' is the law's where the arguments, and the package variables that the reading takes, are together of bulk at most 1048576: NARROWER than '..Said'. Prove '..Said' where nothing that the law and all that it calls make is longer than what came in: it says more and counts as full. Else prove '..UptoSaid'. A law counts once. -/
mutual
def uptoBulk {H : Type} : DataW H → Nat
  | .lit (.string bytes) => bytes.length + 1
  | .lit _ => 1
  | .nil => 1
  | .ptr d => uptoBulk d + 1
  | .slice elems spare => uptoBulkAll elems + uptoBulkAll spare + 1
  | .agg parts => uptoBulkAll parts + 1
  | .iface _ d => uptoBulk d + 1
  | .map entries => uptoBulkEntries entries + 1
  | .held _ => 1
def uptoBulkAll {H : Type} : List (DataW H) → Nat
  | [] => 0
  | d :: r => uptoBulk d + uptoBulkAll r
def uptoBulkEntries {H : Type} : List (Lit × DataW H) → Nat
  | [] => 0
  | x :: r => uptoBulkEntry x + uptoBulkEntries r
def uptoBulkEntry {H : Type} : Lit × DataW H → Nat
  | (.string bytes, d) => bytes.length + uptoBulk d + 1
  | (_, d) => uptoBulk d + 1
 end
def uptoSmall : (H : Type) → List (DataW H) → Bool := fun _ ds => decide (uptoBulkAll ds ≤ 1048576)
def OpenSpec.upto (s : _root_.Go.ChangeSpec) : _root_.Go.OpenSpec := { _root_.Go.OpenSpec.ofChange s with cond := some uptoSmall }

/-- 'weighbridgelaw04.KeysBytes', WHERE WHAT IT READS IS OF BULK AT MOST 1048576: true; the input reads as it did. -/
def keysBytesUptoRow : OpenClaim := { program := "yticompilonkfgaa", sum := "7a06db5fd4ab058e28a23115356ecc61d18a29581065ed6f0bd791a6e1e522d4", func := "weighbridge/weighbridgelaw04.KeysBytes", spec := "keysBytes", apart := false, narrowed := true }
def KeysBytesUptoSaid : Prop := keysBytesUptoRow.holds Try.pinned (OpenSpec.upto keysBytesSpec)

/-- 'weighbridgelaw04.KeysFull', WHERE WHAT IT READS IS OF BULK AT MOST 1048576: true; the input reads as it did. -/
def keysFullUptoRow : OpenClaim := { program := "yticompilonkfgaa", sum := "7a06db5fd4ab058e28a23115356ecc61d18a29581065ed6f0bd791a6e1e522d4", func := "weighbridge/weighbridgelaw04.KeysFull", spec := "keysFull", apart := false, narrowed := true }
def KeysFullUptoSaid : Prop := keysFullUptoRow.holds Try.pinned (OpenSpec.upto keysFullSpec)

/-- 'weighbridgelaw04.KeysRuns', WHERE WHAT IT READS IS OF BULK AT MOST 1048576: true; the input reads as it did. -/
def keysRunsUptoRow : OpenClaim := { program := "yticompilonkfgaa", sum := "7a06db5fd4ab058e28a23115356ecc61d18a29581065ed6f0bd791a6e1e522d4", func := "weighbridge/weighbridgelaw04.KeysRuns", spec := "keysRuns", apart := false, narrowed := true }
def KeysRunsUptoSaid : Prop := keysRunsUptoRow.holds Try.pinned (OpenSpec.upto keysRunsSpec)

/-- 'weighbridgelaw04.KeysNone', WHERE WHAT IT READS IS OF BULK AT MOST 1048576: true; the input reads as it did. -/
def keysNoneUptoRow : OpenClaim := { program := "yticompilonkfgaa", sum := "7a06db5fd4ab058e28a23115356ecc61d18a29581065ed6f0bd791a6e1e522d4", func := "weighbridge/weighbridgelaw04.KeysNone", spec := "keysNone", apart := false, narrowed := true }
def KeysNoneUptoSaid : Prop := keysNoneUptoRow.holds Try.pinned (OpenSpec.upto keysNoneSpec)

end Rows
end Go.Proofs.Yticompilonkfgaa
