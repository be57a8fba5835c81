/-
  No cell of these rows narrows 'for every input' (looked for: loops, veiled, ifaces, maps, wideKeys, modest, calm, conditions, laid).
  DERIVED. THE GIVEN ROWS OF THIS SEAT. 8 by the template 'for every input the law returns true; each argument reads behind the call as it read before'; 0 by the template 'total and deterministic' (their statements: YtebgkamefapfcaaTotals.lean).
  GIVEN WITH THE SEED: the statements are not yours to turn. If you find one false, say at which input.
  Laid BY PROGRAM, IN A SANDBOX (cutbox-rows.mjs): the forced cells as the released guide's own fill.sh prints them over the translation 51594eaf449e2a34… (all of the seat's roots in one cut). By AI agents, Wed Nov 11 2026. No macro, syntax, notation, axiom, sorry.
-/
import Derived.Test.YtebgkamefapfcaaChecked
import GoSem.Claim
import GoSem.ClaimJoined
import GoSem.ClaimMapViews
import Derived.JoinedTies
import Derived.KernelRfl
namespace Go.Proofs.Ytebgkamefapfcaa
/- THE CELL 'sum', in the pinned program and in every row, IS THE sha256 OF THE DUMP (.gsa) THAT YtebgkamefapfcaaProg.lean LOADS. Nothing in Lean hashes anything: it is a label: what it is worth is what the hold of that sum in a sandbox is worth. -/
noncomputable def Try.pinned : Pinned := { name := "ytebgkamefapfcaa", sum := "51594eaf449e2a3436525b35560b5c1f7dea1e7e8e8ad1ab81010ea2c4cba851", checked := Try.checked }
namespace Rows
def none {H : Type} : Left H := { results := [], args := [] }

/-- 'weighbridgelaw01.ArithQuotients': WHATEVER THE INPUT: true; the input reads as it did. -/
def arithQuotientsSpec : ChangeSpec := { name := "arithQuotients", fn := fun _ => fun
  | [d1, d2, d3] => { results := [.lit (.bool true)], args := [d1, d2, d3] }
  | _ => none }
def arithQuotientsRow : OpenClaim := { program := "ytebgkamefapfcaa", sum := "51594eaf449e2a3436525b35560b5c1f7dea1e7e8e8ad1ab81010ea2c4cba851", func := "weighbridge/weighbridgelaw01.ArithQuotients", spec := "arithQuotients", named := ["math/bits.divideError", "math/bits.overflowError"], apart := false }
def ArithQuotientsSaid : Prop := arithQuotientsRow.holds Try.pinned (OpenSpec.ofChange arithQuotientsSpec)

/-- ITS FALSE NEIGHBOUR: 'it returns false'. Refute it at one input. -/
def arithQuotientsWrong : ChangeSpec := { name := "arithQuotients", fn := fun _ => fun
  | [d1, d2, d3] => { results := [.lit (.bool false)], args := [d1, d2, d3] }
  | _ => none }
def ArithQuotientsWrongFalsely : Prop := arithQuotientsRow.holds Try.pinned (OpenSpec.ofChange arithQuotientsWrong)

/-- 'weighbridgelaw01.ArithParts': WHATEVER THE INPUT: true; the input reads as it did. -/
def arithPartsSpec : ChangeSpec := { name := "arithParts", fn := fun _ => fun
  | [d1, d2, d3] => { results := [.lit (.bool true)], args := [d1, d2, d3] }
  | _ => none }
def arithPartsRow : OpenClaim := { program := "ytebgkamefapfcaa", sum := "51594eaf449e2a3436525b35560b5c1f7dea1e7e8e8ad1ab81010ea2c4cba851", func := "weighbridge/weighbridgelaw01.ArithParts", spec := "arithParts", named := ["math/bits.divideError", "math/bits.overflowError"], apart := false }
def ArithPartsSaid : Prop := arithPartsRow.holds Try.pinned (OpenSpec.ofChange arithPartsSpec)

/-- ITS FALSE NEIGHBOUR: 'it returns false'. Refute it at one input. -/
def arithPartsWrong : ChangeSpec := { name := "arithParts", fn := fun _ => fun
  | [d1, d2, d3] => { results := [.lit (.bool false)], args := [d1, d2, d3] }
  | _ => none }
def ArithPartsWrongFalsely : Prop := arithPartsRow.holds Try.pinned (OpenSpec.ofChange arithPartsWrong)

/-- 'weighbridgelaw01.ArithShifts': WHATEVER THE INPUT: true; the input reads as it did. -/
def arithShiftsSpec : ChangeSpec := { name := "arithShifts", fn := fun _ => fun
  | [d1, d2, d3] => { results := [.lit (.bool true)], args := [d1, d2, d3] }
  | _ => none }
def arithShiftsRow : OpenClaim := { program := "ytebgkamefapfcaa", sum := "51594eaf449e2a3436525b35560b5c1f7dea1e7e8e8ad1ab81010ea2c4cba851", func := "weighbridge/weighbridgelaw01.ArithShifts", spec := "arithShifts", named := ["math/bits.divideError", "math/bits.overflowError"], apart := false }
def ArithShiftsSaid : Prop := arithShiftsRow.holds Try.pinned (OpenSpec.ofChange arithShiftsSpec)

/-- ITS FALSE NEIGHBOUR: 'it returns false'. Refute it at one input. -/
def arithShiftsWrong : ChangeSpec := { name := "arithShifts", fn := fun _ => fun
  | [d1, d2, d3] => { results := [.lit (.bool false)], args := [d1, d2, d3] }
  | _ => none }
def ArithShiftsWrongFalsely : Prop := arithShiftsRow.holds Try.pinned (OpenSpec.ofChange arithShiftsWrong)

/-- 'weighbridgelaw01.ArithBack': WHATEVER THE INPUT: true; the input reads as it did. -/
def arithBackSpec : ChangeSpec := { name := "arithBack", fn := fun _ => fun
  | [d1, d2] => { results := [.lit (.bool true)], args := [d1, d2] }
  | _ => none }
def arithBackRow : OpenClaim := { program := "ytebgkamefapfcaa", sum := "51594eaf449e2a3436525b35560b5c1f7dea1e7e8e8ad1ab81010ea2c4cba851", func := "weighbridge/weighbridgelaw01.ArithBack", spec := "arithBack", named := ["math/bits.divideError", "math/bits.overflowError"], apart := false }
def ArithBackSaid : Prop := arithBackRow.holds Try.pinned (OpenSpec.ofChange arithBackSpec)

/-- ITS FALSE NEIGHBOUR: 'it returns false'. Refute it at one input. -/
def arithBackWrong : ChangeSpec := { name := "arithBack", fn := fun _ => fun
  | [d1, d2] => { results := [.lit (.bool false)], args := [d1, d2] }
  | _ => none }
def ArithBackWrongFalsely : Prop := arithBackRow.holds Try.pinned (OpenSpec.ofChange arithBackWrong)

/-- 'weighbridgelaw01.ArithSums': WHATEVER THE INPUT: true; the input reads as it did. -/
def arithSumsSpec : ChangeSpec := { name := "arithSums", fn := fun _ => fun
  | [d1, d2] => { results := [.lit (.bool true)], args := [d1, d2] }
  | _ => none }
def arithSumsRow : OpenClaim := { program := "ytebgkamefapfcaa", sum := "51594eaf449e2a3436525b35560b5c1f7dea1e7e8e8ad1ab81010ea2c4cba851", func := "weighbridge/weighbridgelaw01.ArithSums", spec := "arithSums", named := ["math/bits.divideError", "math/bits.overflowError"], apart := false }
def ArithSumsSaid : Prop := arithSumsRow.holds Try.pinned (OpenSpec.ofChange arithSumsSpec)

/-- ITS FALSE NEIGHBOUR: 'it returns false'. Refute it at one input. -/
def arithSumsWrong : ChangeSpec := { name := "arithSums", fn := fun _ => fun
  | [d1, d2] => { results := [.lit (.bool false)], args := [d1, d2] }
  | _ => none }
def ArithSumsWrongFalsely : Prop := arithSumsRow.holds Try.pinned (OpenSpec.ofChange arithSumsWrong)

/-- 'weighbridgelaw01.ArithCeil': WHATEVER THE INPUT: true; the input reads as it did. -/
def arithCeilSpec : ChangeSpec := { name := "arithCeil", fn := fun _ => fun
  | [d1, d2] => { results := [.lit (.bool true)], args := [d1, d2] }
  | _ => none }
def arithCeilRow : OpenClaim := { program := "ytebgkamefapfcaa", sum := "51594eaf449e2a3436525b35560b5c1f7dea1e7e8e8ad1ab81010ea2c4cba851", func := "weighbridge/weighbridgelaw01.ArithCeil", spec := "arithCeil", named := ["math/bits.divideError", "math/bits.overflowError"], apart := false }
def ArithCeilSaid : Prop := arithCeilRow.holds Try.pinned (OpenSpec.ofChange arithCeilSpec)

/-- ITS FALSE NEIGHBOUR: 'it returns false'. Refute it at one input. -/
def arithCeilWrong : ChangeSpec := { name := "arithCeil", fn := fun _ => fun
  | [d1, d2] => { results := [.lit (.bool false)], args := [d1, d2] }
  | _ => none }
def ArithCeilWrongFalsely : Prop := arithCeilRow.holds Try.pinned (OpenSpec.ofChange arithCeilWrong)

/-- 'weighbridgelaw01.ArithProducts': WHATEVER THE INPUT: true; the input reads as it did. -/
def arithProductsSpec : ChangeSpec := { name := "arithProducts", fn := fun _ => fun
  | [d1, d2] => { results := [.lit (.bool true)], args := [d1, d2] }
  | _ => none }
def arithProductsRow : OpenClaim := { program := "ytebgkamefapfcaa", sum := "51594eaf449e2a3436525b35560b5c1f7dea1e7e8e8ad1ab81010ea2c4cba851", func := "weighbridge/weighbridgelaw01.ArithProducts", spec := "arithProducts", named := ["math/bits.divideError", "math/bits.overflowError"], apart := false }
def ArithProductsSaid : Prop := arithProductsRow.holds Try.pinned (OpenSpec.ofChange arithProductsSpec)

/-- ITS FALSE NEIGHBOUR: 'it returns false'. Refute it at one input. -/
def arithProductsWrong : ChangeSpec := { name := "arithProducts", fn := fun _ => fun
  | [d1, d2] => { results := [.lit (.bool false)], args := [d1, d2] }
  | _ => none }
def ArithProductsWrongFalsely : Prop := arithProductsRow.holds Try.pinned (OpenSpec.ofChange arithProductsWrong)

/-- 'weighbridgelaw01.ArithOrder': WHATEVER THE INPUT: true; the input reads as it did. -/
def arithOrderSpec : ChangeSpec := { name := "arithOrder", fn := fun _ => fun
  | [d1, d2, d3] => { results := [.lit (.bool true)], args := [d1, d2, d3] }
  | _ => none }
def arithOrderRow : OpenClaim := { program := "ytebgkamefapfcaa", sum := "51594eaf449e2a3436525b35560b5c1f7dea1e7e8e8ad1ab81010ea2c4cba851", func := "weighbridge/weighbridgelaw01.ArithOrder", spec := "arithOrder", named := ["math/bits.divideError", "math/bits.overflowError"], apart := false }
def ArithOrderSaid : Prop := arithOrderRow.holds Try.pinned (OpenSpec.ofChange arithOrderSpec)

/-- ITS FALSE NEIGHBOUR: 'it returns false'. Refute it at one input. -/
def arithOrderWrong : ChangeSpec := { name := "arithOrder", fn := fun _ => fun
  | [d1, d2, d3] => { results := [.lit (.bool false)], args := [d1, d2, d3] }
  | _ => none }
def ArithOrderWrongFalsely : Prop := arithOrderRow.holds Try.pinned (OpenSpec.ofChange arithOrderWrong)

/- THE SECOND FORM. 'bulk': how many values and letters a reading holds, each counted each time it is reached (what is shared counts as often as it is met; a slice's spare places count too). A statement '..UptoSaid' is the law's where the arguments, and the package variables that the reading takes, are together of bulk at most 1048576: NARROWER than '..Said'. Prove '..Said' where nothing that the law and all that it calls make is longer than what came in: it says more and counts as full. Else prove '..UptoSaid'. A law counts once. -/
mutual
def uptoBulk {H : Type} : DataW H → Nat
  | .lit (.string bytes) => bytes.length + 1
  | .lit _ => 1
  | .nil => 1
  | .ptr d => uptoBulk d + 1
  | .slice elems spare => uptoBulkAll elems + uptoBulkAll spare + 1
  | .agg parts => uptoBulkAll parts + 1
  | .iface _ d => uptoBulk d + 1
  | .map entries => uptoBulkEntries entries + 1
  | .held _ => 1
def uptoBulkAll {H : Type} : List (DataW H) → Nat
  | [] => 0
  | d :: r => uptoBulk d + uptoBulkAll r
def uptoBulkEntries {H : Type} : List (Lit × DataW H) → Nat
  | [] => 0
  | x :: r => uptoBulkEntry x + uptoBulkEntries r
def uptoBulkEntry {H : Type} : Lit × DataW H → Nat
  | (.string bytes, d) => bytes.length + uptoBulk d + 1
  | (_, d) => uptoBulk d + 1
 end
def uptoSmall : (H : Type) → List (DataW H) → Bool := fun _ ds => decide (uptoBulkAll ds ≤ 1048576)
def OpenSpec.upto (s : _root_.Go.ChangeSpec) : _root_.Go.OpenSpec := { _root_.Go.OpenSpec.ofChange s with cond := some uptoSmall }

/-- 'weighbridgelaw01.ArithQuotients', WHERE WHAT IT READS IS OF BULK AT MOST 1048576: true; the input reads as it did. -/
def arithQuotientsUptoRow : OpenClaim := { program := "ytebgkamefapfcaa", sum := "51594eaf449e2a3436525b35560b5c1f7dea1e7e8e8ad1ab81010ea2c4cba851", func := "weighbridge/weighbridgelaw01.ArithQuotients", spec := "arithQuotients", named := ["math/bits.divideError", "math/bits.overflowError"], apart := false, narrowed := true }
def ArithQuotientsUptoSaid : Prop := arithQuotientsUptoRow.holds Try.pinned (OpenSpec.upto arithQuotientsSpec)

/-- 'weighbridgelaw01.ArithParts', WHERE WHAT IT READS IS OF BULK AT MOST 1048576: true; the input reads as it did. -/
def arithPartsUptoRow : OpenClaim := { program := "ytebgkamefapfcaa", sum := "51594eaf449e2a3436525b35560b5c1f7dea1e7e8e8ad1ab81010ea2c4cba851", func := "weighbridge/weighbridgelaw01.ArithParts", spec := "arithParts", named := ["math/bits.divideError", "math/bits.overflowError"], apart := false, narrowed := true }
def ArithPartsUptoSaid : Prop := arithPartsUptoRow.holds Try.pinned (OpenSpec.upto arithPartsSpec)

/-- 'weighbridgelaw01.ArithShifts', WHERE WHAT IT READS IS OF BULK AT MOST 1048576: true; the input reads as it did. -/
def arithShiftsUptoRow : OpenClaim := { program := "ytebgkamefapfcaa", sum := "51594eaf449e2a3436525b35560b5c1f7dea1e7e8e8ad1ab81010ea2c4cba851", func := "weighbridge/weighbridgelaw01.ArithShifts", spec := "arithShifts", named := ["math/bits.divideError", "math/bits.overflowError"], apart := false, narrowed := true }
def ArithShiftsUptoSaid : Prop := arithShiftsUptoRow.holds Try.pinned (OpenSpec.upto arithShiftsSpec)

/-- 'weighbridgelaw01.ArithBack', WHERE WHAT IT READS IS OF BULK AT MOST 1048576: true; the input reads as it did. -/
def arithBackUptoRow : OpenClaim := { program := "ytebgkamefapfcaa", sum := "51594eaf449e2a3436525b35560b5c1f7dea1e7e8e8ad1ab81010ea2c4cba851", func := "weighbridge/weighbridgelaw01.ArithBack", spec := "arithBack", named := ["math/bits.divideError", "math/bits.overflowError"], apart := false, narrowed := true }
def ArithBackUptoSaid : Prop := arithBackUptoRow.holds Try.pinned (OpenSpec.upto arithBackSpec)

/-- 'weighbridgelaw01.ArithSums', WHERE WHAT IT READS IS OF BULK AT MOST 1048576: true; the input reads as it did. -/
def arithSumsUptoRow : OpenClaim := { program := "ytebgkamefapfcaa", sum := "51594eaf449e2a3436525b35560b5c1f7dea1e7e8e8ad1ab81010ea2c4cba851", func := "weighbridge/weighbridgelaw01.ArithSums", spec := "arithSums", named := ["math/bits.divideError", "math/bits.overflowError"], apart := false, narrowed := true }
def ArithSumsUptoSaid : Prop := arithSumsUptoRow.holds Try.pinned (OpenSpec.upto arithSumsSpec)

/-- 'weighbridgelaw01.ArithCeil', WHERE WHAT IT READS IS OF BULK AT MOST 1048576: true; the input reads as it did. -/
def arithCeilUptoRow : OpenClaim := { program := "ytebgkamefapfcaa", sum := "51594eaf449e2a3436525b35560b5c1f7dea1e7e8e8ad1ab81010ea2c4cba851", func := "weighbridge/weighbridgelaw01.ArithCeil", spec := "arithCeil", named := ["math/bits.divideError", "math/bits.overflowError"], apart := false, narrowed := true }
def ArithCeilUptoSaid : Prop := arithCeilUptoRow.holds Try.pinned (OpenSpec.upto arithCeilSpec)

/-- 'weighbridgelaw01.ArithProducts', WHERE WHAT IT READS IS OF BULK AT MOST 1048576: true; the input reads as it did. -/
def arithProductsUptoRow : OpenClaim := { program := "ytebgkamefapfcaa", sum := "51594eaf449e2a3436525b35560b5c1f7dea1e7e8e8ad1ab81010ea2c4cba851", func := "weighbridge/weighbridgelaw01.ArithProducts", spec := "arithProducts", named := ["math/bits.divideError", "math/bits.overflowError"], apart := false, narrowed := true }
def ArithProductsUptoSaid : Prop := arithProductsUptoRow.holds Try.pinned (OpenSpec.upto arithProductsSpec)

/-- 'weighbridgelaw01.ArithOrder', WHERE WHAT IT READS IS OF BULK AT MOST 1048576: true; the input reads as it did. -/
def arithOrderUptoRow : OpenClaim := { program := "ytebgkamefapfcaa", sum := "51594eaf449e2a3436525b35560b5c1f7dea1e7e8e8ad1ab81010ea2c4cba851", func := "weighbridge/weighbridgelaw01.ArithOrder", spec := "arithOrder", named := ["math/bits.divideError", "math/bits.overflowError"], apart := false, narrowed := true }
def ArithOrderUptoSaid : Prop := arithOrderUptoRow.holds Try.pinned (OpenSpec.upto arithOrderSpec)

end Rows
end Go.Proofs.Ytebgkamefapfcaa
