/-
  No cell of these rows narrows 'for every input' (looked for: loops, veiled, ifaces, maps, wideKeys, modest, calm, conditions, laid).
  DERIVED. THE GIVEN ROWS OF THIS SEAT. 6 by the template 'for every input the law returns true; each argument reads behind the call as it read before'; 0 by the template 'total and deterministic' (their statements: YtkoclacmomlmaaaTotals.lean).
  GIVEN WITH THE SEED: the statements are not yours to turn. If you find one false, say at which input.
  Laid BY PROGRAM, IN A SANDBOX (cutbox-rows.mjs): the forced cells as the released guide's own fill.sh prints them over the translation bb9201d4dff6ac1f… (all of the seat's roots in one cut). By AI agents, Wed Nov 11 2026. No macro, syntax, notation, axiom, sorry.
-/
import Derived.Test.YtkoclacmomlmaaaChecked
import GoSem.Claim
import GoSem.ClaimJoined
import GoSem.ClaimMapViews
import Derived.JoinedTies
import Derived.KernelRfl
namespace Go.Proofs.Ytkoclacmomlmaaa
/- THE CELL 'sum', in the pinned program and in every row, IS THE sha256 OF THE DUMP (.gsa) THAT YtkoclacmomlmaaaProg.lean LOADS. Nothing in Lean hashes anything: it is a label: what it is worth is what the hold of that sum in a sandbox is worth. -/
noncomputable def Try.pinned : Pinned := { name := "ytkoclacmomlmaaa", sum := "bb9201d4dff6ac1fd96fa7169b4ed4df7f636e9e5c09940b0a2fe98edf7285bc", checked := Try.checked }
namespace Rows
def none {H : Type} : Left H := { results := [], args := [] }

/-- 'weighbridgelaw06.SlotAlone': WHATEVER THE INPUT: true; the input reads as it did. -/
def slotAloneSpec : ChangeSpec := { name := "slotAlone", fn := fun _ => fun
  | [d1, d2] => { results := [.lit (.bool true)], args := [d1, d2] }
  | _ => none }
def slotAloneRow : OpenClaim := { program := "ytkoclacmomlmaaa", sum := "bb9201d4dff6ac1fd96fa7169b4ed4df7f636e9e5c09940b0a2fe98edf7285bc", func := "weighbridge/weighbridgelaw06.SlotAlone", spec := "slotAlone", named := ["math/bits.divideError", "math/bits.overflowError"], apart := false }
def SlotAloneSaid : Prop := slotAloneRow.holds Try.pinned (OpenSpec.ofChange slotAloneSpec)

/-- ITS FALSE NEIGHBOUR: 'it returns false'. Refute it at one input. -/
def slotAloneWrong : ChangeSpec := { name := "slotAlone", fn := fun _ => fun
  | [d1, d2] => { results := [.lit (.bool false)], args := [d1, d2] }
  | _ => none }
def SlotAloneWrongFalsely : Prop := slotAloneRow.holds Try.pinned (OpenSpec.ofChange slotAloneWrong)

/-- 'weighbridgelaw06.SlotLeast': WHATEVER THE INPUT: true; the input reads as it did. -/
def slotLeastSpec : ChangeSpec := { name := "slotLeast", fn := fun _ => fun
  | [d1, d2, d3] => { results := [.lit (.bool true)], args := [d1, d2, d3] }
  | _ => none }
def slotLeastRow : OpenClaim := { program := "ytkoclacmomlmaaa", sum := "bb9201d4dff6ac1fd96fa7169b4ed4df7f636e9e5c09940b0a2fe98edf7285bc", func := "weighbridge/weighbridgelaw06.SlotLeast", spec := "slotLeast", named := ["math/bits.divideError", "math/bits.overflowError"], apart := false }
def SlotLeastSaid : Prop := slotLeastRow.holds Try.pinned (OpenSpec.ofChange slotLeastSpec)

/-- ITS FALSE NEIGHBOUR: 'it returns false'. Refute it at one input. -/
def slotLeastWrong : ChangeSpec := { name := "slotLeast", fn := fun _ => fun
  | [d1, d2, d3] => { results := [.lit (.bool false)], args := [d1, d2, d3] }
  | _ => none }
def SlotLeastWrongFalsely : Prop := slotLeastRow.holds Try.pinned (OpenSpec.ofChange slotLeastWrong)

/-- 'weighbridgelaw06.SlotOne': WHATEVER THE INPUT: true; the input reads as it did. -/
def slotOneSpec : ChangeSpec := { name := "slotOne", fn := fun _ => fun
  | [d1, d2, d3] => { results := [.lit (.bool true)], args := [d1, d2, d3] }
  | _ => none }
def slotOneRow : OpenClaim := { program := "ytkoclacmomlmaaa", sum := "bb9201d4dff6ac1fd96fa7169b4ed4df7f636e9e5c09940b0a2fe98edf7285bc", func := "weighbridge/weighbridgelaw06.SlotOne", spec := "slotOne", named := ["math/bits.divideError", "math/bits.overflowError"], apart := false }
def SlotOneSaid : Prop := slotOneRow.holds Try.pinned (OpenSpec.ofChange slotOneSpec)

/-- ITS FALSE NEIGHBOUR: 'it returns false'. Refute it at one input. -/
def slotOneWrong : ChangeSpec := { name := "slotOne", fn := fun _ => fun
  | [d1, d2, d3] => { results := [.lit (.bool false)], args := [d1, d2, d3] }
  | _ => none }
def SlotOneWrongFalsely : Prop := slotOneRow.holds Try.pinned (OpenSpec.ofChange slotOneWrong)

/-- 'weighbridgelaw06.SlotRuns': WHATEVER THE INPUT: true; the input reads as it did. -/
def slotRunsSpec : ChangeSpec := { name := "slotRuns", fn := fun _ => fun
  | [d1, d2, d3] => { results := [.lit (.bool true)], args := [d1, d2, d3] }
  | _ => none }
def slotRunsRow : OpenClaim := { program := "ytkoclacmomlmaaa", sum := "bb9201d4dff6ac1fd96fa7169b4ed4df7f636e9e5c09940b0a2fe98edf7285bc", func := "weighbridge/weighbridgelaw06.SlotRuns", spec := "slotRuns", unfollowed := true, recurses := true, named := ["math/bits.divideError", "math/bits.overflowError"], apart := false }
def SlotRunsSaid : Prop := slotRunsRow.holds Try.pinned (OpenSpec.ofChange slotRunsSpec)

/-- ITS FALSE NEIGHBOUR: 'it returns false'. Refute it at one input. -/
def slotRunsWrong : ChangeSpec := { name := "slotRuns", fn := fun _ => fun
  | [d1, d2, d3] => { results := [.lit (.bool false)], args := [d1, d2, d3] }
  | _ => none }
def SlotRunsWrongFalsely : Prop := slotRunsRow.holds Try.pinned (OpenSpec.ofChange slotRunsWrong)

/-- 'weighbridgelaw06.SlotOver': WHATEVER THE INPUT: true; the input reads as it did. -/
def slotOverSpec : ChangeSpec := { name := "slotOver", fn := fun _ => fun
  | [d1, d2, d3] => { results := [.lit (.bool true)], args := [d1, d2, d3] }
  | _ => none }
def slotOverRow : OpenClaim := { program := "ytkoclacmomlmaaa", sum := "bb9201d4dff6ac1fd96fa7169b4ed4df7f636e9e5c09940b0a2fe98edf7285bc", func := "weighbridge/weighbridgelaw06.SlotOver", spec := "slotOver", named := ["math/bits.divideError", "math/bits.overflowError"], apart := false }
def SlotOverSaid : Prop := slotOverRow.holds Try.pinned (OpenSpec.ofChange slotOverSpec)

/-- ITS FALSE NEIGHBOUR: 'it returns false'. Refute it at one input. -/
def slotOverWrong : ChangeSpec := { name := "slotOver", fn := fun _ => fun
  | [d1, d2, d3] => { results := [.lit (.bool false)], args := [d1, d2, d3] }
  | _ => none }
def SlotOverWrongFalsely : Prop := slotOverRow.holds Try.pinned (OpenSpec.ofChange slotOverWrong)

/-- 'weighbridgelaw06.SlotClear': WHATEVER THE INPUT: true; the input reads as it did. -/
def slotClearSpec : ChangeSpec := { name := "slotClear", fn := fun _ => fun
  | [d1, d2, d3] => { results := [.lit (.bool true)], args := [d1, d2, d3] }
  | _ => none }
def slotClearRow : OpenClaim := { program := "ytkoclacmomlmaaa", sum := "bb9201d4dff6ac1fd96fa7169b4ed4df7f636e9e5c09940b0a2fe98edf7285bc", func := "weighbridge/weighbridgelaw06.SlotClear", spec := "slotClear", named := ["math/bits.divideError", "math/bits.overflowError"], apart := false }
def SlotClearSaid : Prop := slotClearRow.holds Try.pinned (OpenSpec.ofChange slotClearSpec)

/-- ITS FALSE NEIGHBOUR: 'it returns false'. Refute it at one input. -/
def slotClearWrong : ChangeSpec := { name := "slotClear", fn := fun _ => fun
  | [d1, d2, d3] => { results := [.lit (.bool false)], args := [d1, d2, d3] }
  | _ => none }
def SlotClearWrongFalsely : Prop := slotClearRow.holds Try.pinned (OpenSpec.ofChange slotClearWrong)

/- THE SECOND FORM. 'bulk': how many values and letters a reading holds, each counted each time it is reached (what is shared counts as often as it is met; a slice's spare places count too). A statement '..UptoSaid' is the law's where the arguments, and the package variables that the reading takes, are together of bulk at most 1048576: NARROWER than '..Said'. Prove '..Said' where nothing that the law and all that it calls make is longer than what came in: it says more and counts as full. Else prove '..UptoSaid'. A law counts once. -/
mutual
def uptoBulk {H : Type} : DataW H → Nat
  | .lit (.string bytes) => bytes.length + 1
  | .lit _ => 1
  | .nil => 1
  | .ptr d => uptoBulk d + 1
  | .slice elems spare => uptoBulkAll elems + uptoBulkAll spare + 1
  | .agg parts => uptoBulkAll parts + 1
  | .iface _ d => uptoBulk d + 1
  | .map entries => uptoBulkEntries entries + 1
  | .held _ => 1
def uptoBulkAll {H : Type} : List (DataW H) → Nat
  | [] => 0
  | d :: r => uptoBulk d + uptoBulkAll r
def uptoBulkEntries {H : Type} : List (Lit × DataW H) → Nat
  | [] => 0
  | x :: r => uptoBulkEntry x + uptoBulkEntries r
def uptoBulkEntry {H : Type} : Lit × DataW H → Nat
  | (.string bytes, d) => bytes.length + uptoBulk d + 1
  | (_, d) => uptoBulk d + 1
 end
def uptoSmall : (H : Type) → List (DataW H) → Bool := fun _ ds => decide (uptoBulkAll ds ≤ 1048576)
def OpenSpec.upto (s : _root_.Go.ChangeSpec) : _root_.Go.OpenSpec := { _root_.Go.OpenSpec.ofChange s with cond := some uptoSmall }

/-- 'weighbridgelaw06.SlotAlone', WHERE WHAT IT READS IS OF BULK AT MOST 1048576: true; the input reads as it did. -/
def slotAloneUptoRow : OpenClaim := { program := "ytkoclacmomlmaaa", sum := "bb9201d4dff6ac1fd96fa7169b4ed4df7f636e9e5c09940b0a2fe98edf7285bc", func := "weighbridge/weighbridgelaw06.SlotAlone", spec := "slotAlone", named := ["math/bits.divideError", "math/bits.overflowError"], apart := false, narrowed := true }
def SlotAloneUptoSaid : Prop := slotAloneUptoRow.holds Try.pinned (OpenSpec.upto slotAloneSpec)

/-- 'weighbridgelaw06.SlotLeast', WHERE WHAT IT READS IS OF BULK AT MOST 1048576: true; the input reads as it did. -/
def slotLeastUptoRow : OpenClaim := { program := "ytkoclacmomlmaaa", sum := "bb9201d4dff6ac1fd96fa7169b4ed4df7f636e9e5c09940b0a2fe98edf7285bc", func := "weighbridge/weighbridgelaw06.SlotLeast", spec := "slotLeast", named := ["math/bits.divideError", "math/bits.overflowError"], apart := false, narrowed := true }
def SlotLeastUptoSaid : Prop := slotLeastUptoRow.holds Try.pinned (OpenSpec.upto slotLeastSpec)

/-- 'weighbridgelaw06.SlotOne', WHERE WHAT IT READS IS OF BULK AT MOST 1048576: true; the input reads as it did. -/
def slotOneUptoRow : OpenClaim := { program := "ytkoclacmomlmaaa", sum := "bb9201d4dff6ac1fd96fa7169b4ed4df7f636e9e5c09940b0a2fe98edf7285bc", func := "weighbridge/weighbridgelaw06.SlotOne", spec := "slotOne", named := ["math/bits.divideError", "math/bits.overflowError"], apart := false, narrowed := true }
def SlotOneUptoSaid : Prop := slotOneUptoRow.holds Try.pinned (OpenSpec.upto slotOneSpec)

/-- 'weighbridgelaw06.SlotRuns', WHERE WHAT IT READS IS OF BULK AT MOST 1048576: true; the input reads as it did. -/
def slotRunsUptoRow : OpenClaim := { program := "ytkoclacmomlmaaa", sum := "bb9201d4dff6ac1fd96fa7169b4ed4df7f636e9e5c09940b0a2fe98edf7285bc", func := "weighbridge/weighbridgelaw06.SlotRuns", spec := "slotRuns", unfollowed := true, recurses := true, named := ["math/bits.divideError", "math/bits.overflowError"], apart := false, narrowed := true }
def SlotRunsUptoSaid : Prop := slotRunsUptoRow.holds Try.pinned (OpenSpec.upto slotRunsSpec)

/-- 'weighbridgelaw06.SlotOver', WHERE WHAT IT READS IS OF BULK AT MOST 1048576: true; the input reads as it did. -/
def slotOverUptoRow : OpenClaim := { program := "ytkoclacmomlmaaa", sum := "bb9201d4dff6ac1fd96fa7169b4ed4df7f636e9e5c09940b0a2fe98edf7285bc", func := "weighbridge/weighbridgelaw06.SlotOver", spec := "slotOver", named := ["math/bits.divideError", "math/bits.overflowError"], apart := false, narrowed := true }
def SlotOverUptoSaid : Prop := slotOverUptoRow.holds Try.pinned (OpenSpec.upto slotOverSpec)

/-- 'weighbridgelaw06.SlotClear', WHERE WHAT IT READS IS OF BULK AT MOST 1048576: true; the input reads as it did. -/
def slotClearUptoRow : OpenClaim := { program := "ytkoclacmomlmaaa", sum := "bb9201d4dff6ac1fd96fa7169b4ed4df7f636e9e5c09940b0a2fe98edf7285bc", func := "weighbridge/weighbridgelaw06.SlotClear", spec := "slotClear", named := ["math/bits.divideError", "math/bits.overflowError"], apart := false, narrowed := true }
def SlotClearUptoSaid : Prop := slotClearUptoRow.holds Try.pinned (OpenSpec.upto slotClearSpec)

end Rows
end Go.Proofs.Ytkoclacmomlmaaa
