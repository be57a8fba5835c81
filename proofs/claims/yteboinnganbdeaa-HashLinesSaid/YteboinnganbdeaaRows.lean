/-
  No cell of these rows narrows 'for every input' (looked for: loops, veiled, ifaces, maps, wideKeys, modest, calm, conditions, laid).
  DERIVED. THE GIVEN ROWS OF THIS SEAT. 4 by the template 'for every input the law returns true; each argument reads behind the call as it read before'; 0 by the template 'total and deterministic' (their statements: YteboinnganbdeaaTotals.lean).
  GIVEN WITH THE SEED: the statements are not yours to turn. If you find one false, say at which input.
  Laid BY PROGRAM, IN A SANDBOX (cutbox-rows.mjs): the forced cells as the released guide's own fill.sh prints them over the translation d8df5c7d4fc3e6e5… (all of the seat's roots in one cut). By AI agents, Wed Nov 11 2026. No macro, syntax, notation, axiom, sorry.
-/
import Derived.Test.YteboinnganbdeaaChecked
import GoSem.Claim
import GoSem.ClaimJoined
import GoSem.ClaimMapViews
import Derived.JoinedTies
import Derived.KernelRfl
namespace Go.Proofs.Yteboinnganbdeaa
/- THE CELL 'sum', in the pinned program and in every row, IS THE sha256 OF THE DUMP (.gsa) THAT YteboinnganbdeaaProg.lean LOADS. Nothing in Lean hashes anything: it is a label: what it is worth is what the hold of that sum in a sandbox is worth. -/
noncomputable def Try.pinned : Pinned := { name := "yteboinnganbdeaa", sum := "d8df5c7d4fc3e6e5da5d49d1288ddd89a8b18bc794e525eda916c95e6a4f57cc", checked := Try.checked }
namespace Rows
def none {H : Type} : Left H := { results := [], args := [] }

/-- 'weighbridgelaw03.HashApart': WHATEVER THE INPUT: true; the input reads as it did. -/
def hashApartSpec : ChangeSpec := { name := "hashApart", fn := fun _ => fun
  | [d1, d2, d3] => { results := [.lit (.bool true)], args := [d1, d2, d3] }
  | _ => none }
def hashApartRow : OpenClaim := { program := "yteboinnganbdeaa", sum := "d8df5c7d4fc3e6e5da5d49d1288ddd89a8b18bc794e525eda916c95e6a4f57cc", func := "weighbridge/weighbridgelaw03.HashApart", spec := "hashApart", apart := false }
def HashApartSaid : Prop := hashApartRow.holds Try.pinned (OpenSpec.ofChange hashApartSpec)

/-- ITS FALSE NEIGHBOUR: 'it returns false'. Refute it at one input. -/
def hashApartWrong : ChangeSpec := { name := "hashApart", fn := fun _ => fun
  | [d1, d2, d3] => { results := [.lit (.bool false)], args := [d1, d2, d3] }
  | _ => none }
def HashApartWrongFalsely : Prop := hashApartRow.holds Try.pinned (OpenSpec.ofChange hashApartWrong)

/-- 'weighbridgelaw03.HashPlaces': WHATEVER THE INPUT: true; the input reads as it did. -/
def hashPlacesSpec : ChangeSpec := { name := "hashPlaces", fn := fun _ => fun
  | [d1, d2, d3] => { results := [.lit (.bool true)], args := [d1, d2, d3] }
  | _ => none }
def hashPlacesRow : OpenClaim := { program := "yteboinnganbdeaa", sum := "d8df5c7d4fc3e6e5da5d49d1288ddd89a8b18bc794e525eda916c95e6a4f57cc", func := "weighbridge/weighbridgelaw03.HashPlaces", spec := "hashPlaces", named := ["math/bits.divideError", "math/bits.overflowError"], apart := false }
def HashPlacesSaid : Prop := hashPlacesRow.holds Try.pinned (OpenSpec.ofChange hashPlacesSpec)

/-- ITS FALSE NEIGHBOUR: 'it returns false'. Refute it at one input. -/
def hashPlacesWrong : ChangeSpec := { name := "hashPlaces", fn := fun _ => fun
  | [d1, d2, d3] => { results := [.lit (.bool false)], args := [d1, d2, d3] }
  | _ => none }
def HashPlacesWrongFalsely : Prop := hashPlacesRow.holds Try.pinned (OpenSpec.ofChange hashPlacesWrong)

/-- 'weighbridgelaw03.HashLines': WHATEVER THE INPUT: true; the input reads as it did. -/
def hashLinesSpec : ChangeSpec := { name := "hashLines", fn := fun _ => fun
  | [d1, d2, d3] => { results := [.lit (.bool true)], args := [d1, d2, d3] }
  | _ => none }
def hashLinesRow : OpenClaim := { program := "yteboinnganbdeaa", sum := "d8df5c7d4fc3e6e5da5d49d1288ddd89a8b18bc794e525eda916c95e6a4f57cc", func := "weighbridge/weighbridgelaw03.HashLines", spec := "hashLines", named := ["math/bits.divideError", "math/bits.overflowError"], apart := false }
def HashLinesSaid : Prop := hashLinesRow.holds Try.pinned (OpenSpec.ofChange hashLinesSpec)

/-- ITS FALSE NEIGHBOUR: 'it returns false'. Refute it at one input. -/
def hashLinesWrong : ChangeSpec := { name := "hashLines", fn := fun _ => fun
  | [d1, d2, d3] => { results := [.lit (.bool false)], args := [d1, d2, d3] }
  | _ => none }
def HashLinesWrongFalsely : Prop := hashLinesRow.holds Try.pinned (OpenSpec.ofChange hashLinesWrong)

/-- 'weighbridgelaw03.HashHalves': WHATEVER THE INPUT: true; the input reads as it did. -/
def hashHalvesSpec : ChangeSpec := { name := "hashHalves", fn := fun _ => fun
  | [d1, d2, d3] => { results := [.lit (.bool true)], args := [d1, d2, d3] }
  | _ => none }
def hashHalvesRow : OpenClaim := { program := "yteboinnganbdeaa", sum := "d8df5c7d4fc3e6e5da5d49d1288ddd89a8b18bc794e525eda916c95e6a4f57cc", func := "weighbridge/weighbridgelaw03.HashHalves", spec := "hashHalves", named := ["math/bits.divideError", "math/bits.overflowError"], apart := false }
def HashHalvesSaid : Prop := hashHalvesRow.holds Try.pinned (OpenSpec.ofChange hashHalvesSpec)

/-- ITS FALSE NEIGHBOUR: 'it returns false'. Refute it at one input. -/
def hashHalvesWrong : ChangeSpec := { name := "hashHalves", fn := fun _ => fun
  | [d1, d2, d3] => { results := [.lit (.bool false)], args := [d1, d2, d3] }
  | _ => none }
def HashHalvesWrongFalsely : Prop := hashHalvesRow.holds Try.pinned (OpenSpec.ofChange hashHalvesWrong)

/- THE SECOND FORM. 'bulk': how many values and letters a reading holds, each counted each time it is reached (what is shared counts as often as it is met; a slice's spare places count too). A statement '..UptoSaid' is the law's where the arguments, and the package variables that the reading takes, are together of bulk at most 1048576: NARROWER than '..Said'. Prove '..Said' where nothing that the law and all that it calls make is longer than what came in: it says more and counts as full. Else prove '..UptoSaid'. A law counts once. -/
mutual
def uptoBulk {H : Type} : DataW H → Nat
  | .lit (.string bytes) => bytes.length + 1
  | .lit _ => 1
  | .nil => 1
  | .ptr d => uptoBulk d + 1
  | .slice elems spare => uptoBulkAll elems + uptoBulkAll spare + 1
  | .agg parts => uptoBulkAll parts + 1
  | .iface _ d => uptoBulk d + 1
  | .map entries => uptoBulkEntries entries + 1
  | .held _ => 1
def uptoBulkAll {H : Type} : List (DataW H) → Nat
  | [] => 0
  | d :: r => uptoBulk d + uptoBulkAll r
def uptoBulkEntries {H : Type} : List (Lit × DataW H) → Nat
  | [] => 0
  | x :: r => uptoBulkEntry x + uptoBulkEntries r
def uptoBulkEntry {H : Type} : Lit × DataW H → Nat
  | (.string bytes, d) => bytes.length + uptoBulk d + 1
  | (_, d) => uptoBulk d + 1
 end
def uptoSmall : (H : Type) → List (DataW H) → Bool := fun _ ds => decide (uptoBulkAll ds ≤ 1048576)
def OpenSpec.upto (s : _root_.Go.ChangeSpec) : _root_.Go.OpenSpec := { _root_.Go.OpenSpec.ofChange s with cond := some uptoSmall }

/-- 'weighbridgelaw03.HashApart', WHERE WHAT IT READS IS OF BULK AT MOST 1048576: true; the input reads as it did. -/
def hashApartUptoRow : OpenClaim := { program := "yteboinnganbdeaa", sum := "d8df5c7d4fc3e6e5da5d49d1288ddd89a8b18bc794e525eda916c95e6a4f57cc", func := "weighbridge/weighbridgelaw03.HashApart", spec := "hashApart", apart := false, narrowed := true }
def HashApartUptoSaid : Prop := hashApartUptoRow.holds Try.pinned (OpenSpec.upto hashApartSpec)

/-- 'weighbridgelaw03.HashPlaces', WHERE WHAT IT READS IS OF BULK AT MOST 1048576: true; the input reads as it did. -/
def hashPlacesUptoRow : OpenClaim := { program := "yteboinnganbdeaa", sum := "d8df5c7d4fc3e6e5da5d49d1288ddd89a8b18bc794e525eda916c95e6a4f57cc", func := "weighbridge/weighbridgelaw03.HashPlaces", spec := "hashPlaces", named := ["math/bits.divideError", "math/bits.overflowError"], apart := false, narrowed := true }
def HashPlacesUptoSaid : Prop := hashPlacesUptoRow.holds Try.pinned (OpenSpec.upto hashPlacesSpec)

/-- 'weighbridgelaw03.HashLines', WHERE WHAT IT READS IS OF BULK AT MOST 1048576: true; the input reads as it did. -/
def hashLinesUptoRow : OpenClaim := { program := "yteboinnganbdeaa", sum := "d8df5c7d4fc3e6e5da5d49d1288ddd89a8b18bc794e525eda916c95e6a4f57cc", func := "weighbridge/weighbridgelaw03.HashLines", spec := "hashLines", named := ["math/bits.divideError", "math/bits.overflowError"], apart := false, narrowed := true }
def HashLinesUptoSaid : Prop := hashLinesUptoRow.holds Try.pinned (OpenSpec.upto hashLinesSpec)

/-- 'weighbridgelaw03.HashHalves', WHERE WHAT IT READS IS OF BULK AT MOST 1048576: true; the input reads as it did. -/
def hashHalvesUptoRow : OpenClaim := { program := "yteboinnganbdeaa", sum := "d8df5c7d4fc3e6e5da5d49d1288ddd89a8b18bc794e525eda916c95e6a4f57cc", func := "weighbridge/weighbridgelaw03.HashHalves", spec := "hashHalves", named := ["math/bits.divideError", "math/bits.overflowError"], apart := false, narrowed := true }
def HashHalvesUptoSaid : Prop := hashHalvesUptoRow.holds Try.pinned (OpenSpec.upto hashHalvesSpec)

end Rows
end Go.Proofs.Yteboinnganbdeaa
