/- slices.SortFunc at the ledger's keys: what the library's contract says, in the canonical machine's terms. The laying (sortWho_ren, sortWho) is what the kit's own command writes. No condition. -/
import Derived.Test.YtekojjilbchkgaaCanDem
import Derived.Test.YtekojjilbchkgaaTAll
import Derived.Test.YtekojjilbchkgaaSAudit
import Derived.Test.YtekojjilbchkgaaProg
import Derived.Shelf.SlSortCmp.WholeK
import Derived.Shelf.SlLaysF0
import Derived.Shelf.SlGeneric
import Derived.WalkKit
namespace Go.Proofs.Ytekojjilbchkgaa.Can
open Go Go.Shelf
set_option linter.unusedSimpArgs false
set_option linter.unusedVariables false
def sortWho_ren : Go.Shelf.Ren := ⟨fun | 6 => 15 | 15 => 20 | 14 => 19 | 28 => 29 | 29 => 30 | 20 => 21 | 21 => 22 | 22 => 23 | 23 => 24 | 24 => 25 | 25 => 26 | 26 => 27 | 27 => 28 | 46 => 31 | 47 => 32 | 48 => 33 | 49 => 34 | 50 => 35 | 57 => 36 | n => n, fun | 22 => 36 | 24 => 30 | 25 => 48 | 3 => 3 | 39 => 54 | 0 => 0 | 53 => 64 | 55 => 66 | 4 => 4 | 46 => 57 | 45 => 56 | 50 => 61 | 5 => 5 | 9 => 9 | 66 => 67 | 70 => 71 | 76 => 73 | 77 => 74 | n => n, fun | n => n⟩
theorem sortWho : Go.Proofs.SlLaysF0.n6 Try.prog sortWho_ren := {
  mixed := by kernel_rfl
  f6 := ⟨Try.f15.name, by decide, Try.func15.trans (congrArg some (by kernel_rfl))⟩
  f14 := ⟨Try.f19.name, by decide, Try.func19.trans (congrArg some (by kernel_rfl))⟩
  f15 := Try.func20.trans (congrArg some (by kernel_rfl))
  f20 := ⟨Try.f21.name, by decide, Try.func21.trans (congrArg some (by kernel_rfl))⟩
  f21 := ⟨Try.f22.name, by decide, Try.func22.trans (congrArg some (by kernel_rfl))⟩
  f22 := ⟨Try.f23.name, by decide, Try.func23.trans (congrArg some (by kernel_rfl))⟩
  f23 := ⟨Try.f24.name, by decide, Try.func24.trans (congrArg some (by kernel_rfl))⟩
  f24 := ⟨Try.f25.name, by decide, Try.func25.trans (congrArg some (by kernel_rfl))⟩
  f25 := ⟨Try.f26.name, by decide, Try.func26.trans (congrArg some (by kernel_rfl))⟩
  f26 := ⟨Try.f27.name, by decide, Try.func27.trans (congrArg some (by kernel_rfl))⟩
  f27 := ⟨Try.f28.name, by decide, Try.func28.trans (congrArg some (by kernel_rfl))⟩
  f28 := Try.func29.trans (congrArg some (by kernel_rfl))
  f29 := Try.func30.trans (congrArg some (by kernel_rfl))
  f46 := ⟨Try.f31.name, by decide, Try.func31.trans (congrArg some (by kernel_rfl))⟩
  f47 := Try.func32.trans (congrArg some (by kernel_rfl))
  f48 := Try.func33.trans (congrArg some (by kernel_rfl))
  f49 := ⟨Try.f34.name, by decide, Try.func34.trans (congrArg some (by kernel_rfl))⟩
  f50 := ⟨Try.f35.name, by decide, Try.func35.trans (congrArg some (by kernel_rfl))⟩
  f57 := ⟨Try.f36.name, by decide, Try.func36.trans (congrArg some (by kernel_rfl))⟩
  t0 := Try.underlying0
  a0 := Try.isAgg0
  z0 := Try.sizeOf0
  v0 := Try.zeroValue0
  t3 := Try.underlying3
  a3 := Try.isAgg3
  z3 := Try.sizeOf3
  v3 := Try.zeroValue3
  t4 := Try.underlying4
  a4 := Try.isAgg4
  z4 := Try.sizeOf4
  v4 := Try.zeroValue4
  t5 := Try.underlying5
  a5 := Try.isAgg5
  z5 := Try.sizeOf5
  v5 := Try.zeroValue5
  t9 := Try.underlying9
  a9 := Try.isAgg9
  z9 := Try.sizeOf9
  v9 := Try.zeroValue9
  t22 := Try.underlying36
  a22 := Try.isAgg36
  z22 := Try.sizeOf36
  v22 := Try.zeroValue36
  t25 := Try.underlying48
  a25 := Try.isAgg48
  z25 := Try.sizeOf48
  v25 := Try.zeroValue48
  t39 := Try.underlying54
  a39 := Try.isAgg54
  z39 := Try.sizeOf54
  v39 := Try.zeroValue54
  t45 := Try.underlying56
  a45 := Try.isAgg56
  z45 := Try.sizeOf56
  v45 := Try.zeroValue56
  t46 := Try.underlying57
  a46 := Try.isAgg57
  z46 := Try.sizeOf57
  v46 := Try.zeroValue57
  t50 := Try.underlying61
  a50 := Try.isAgg61
  z50 := Try.sizeOf61
  v50 := Try.zeroValue61
  t53 := Try.underlying64
  a53 := Try.isAgg64
  z53 := Try.sizeOf64
  v53 := Try.zeroValue64
  t55 := Try.underlying66
  a55 := Try.isAgg66
  z55 := Try.sizeOf66
  v55 := Try.zeroValue66
  t66 := Try.underlying67
  a66 := Try.isAgg67
  z66 := Try.sizeOf67
  v66 := Try.zeroValue67
  t70 := Try.underlying71
  a70 := Try.isAgg71
  z70 := Try.sizeOf71
  v70 := Try.zeroValue71
  t76 := Try.underlying73
  a76 := Try.isAgg73
  z76 := Try.sizeOf73
  v76 := Try.zeroValue73
  t77 := Try.underlying74
  a77 := Try.isAgg74
  z77 := Try.sizeOf74
  v77 := Try.zeroValue74 }

open Go.RowKit Go.Lib Go.Sort
/-- Keys of the four rules. -/
abbrev WhT := Fin 4 × ByteArray
def encT (x : WhT) : List Value := [.int .i64 (x.1.val : Int), .string x.2]
def cfW (x y : WhT) : Int := if (x.1.val : Int) ≠ (y.1.val : Int) then wrap64 ((x.1.val : Int) - (y.1.val : Int)) else if Op.bytesLess x.2.toList y.2.toList = true then -1 else 1
set_option maxHeartbeats 1000000 in
theorem closure16 (a b : Int) (x y : ByteArray) (W : World) : Calls Try.prog 16 #[.agg #[.int .i64 a, .string x], .agg #[.int .i64 b, .string y]] W fun e w' => e = .returned (.int .i64 (if a ≠ b then wrap64 (a - b) else if Op.bytesLess x.toList y.toList = true then -1 else 1)) ∧ ∃ q os', w' = grow (W.drewN q) os' := by
  by_cases h : a = b
  · rw [if_neg (by simpa using h)]
    by_cases h2 : Op.bytesLess x.toList y.toList = true
    · rw [if_pos h2]
      go_enter Try.func16, Try.ntmps16
      go_wp2_with (fail)
      go_ret
      exact ⟨rfl, 0, _, by rw [alloc_eq_grow, alloc_eq_grow, grow_grow]; rfl⟩
    · rw [if_neg h2]
      go_enter Try.func16, Try.ntmps16
      go_wp2_with (fail)
      go_ret
      exact ⟨rfl, 0, _, by rw [alloc_eq_grow, alloc_eq_grow, grow_grow]; rfl⟩
  · rw [if_pos h]
    go_enter Try.func16, Try.ntmps16
    go_wp2_with (fail)
    go_ret
    exact ⟨rfl, 0, _, by rw [alloc_eq_grow, alloc_eq_grow, grow_grow]; rfl⟩
theorem cmpLays16 (blk off size : Nat) (w : World) : CmpLays Try.prog 16 #[] encT 2 cfW blk off size w :=
  fun _ _ _ _ x y => closure16 _ _ _ _ _
/-! ### the order -/
def ltW (x y : WhT) : Bool := decide (x.1.val < y.1.val) || (decide (x.1.val = y.1.val) && Op.bytesLess x.2.toList y.2.toList)
theorem ltOf_cfW (x y : WhT) : ltOf cfW x y = ltW x y := by
  unfold ltOf cfW ltW
  have hx := x.1.isLt
  have hy := y.1.isLt
  have w : wrap64 ((x.1.val : Int) - (y.1.val : Int)) = (x.1.val : Int) - (y.1.val : Int) := by unfold wrap64; omega
  rw [w]
  by_cases h : x.1.val = y.1.val
  · rw [if_neg (by omega)]
    by_cases h2 : Op.bytesLess x.2.toList y.2.toList = true
    · simp [h, h2]
    · simp [h, h2]
  · rw [if_pos (by omega)]
    by_cases h2 : x.1.val < y.1.val
    · have : (x.1.val : Int) - (y.1.val : Int) < 0 := by omega
      simp [h2, this]
    · have : ¬ (x.1.val : Int) - (y.1.val : Int) < 0 := by omega
      simp [h, h2, this]
theorem bl_irrefl (a : List UInt8) : Op.bytesLess a a = false := by rw [bytesLess_eq]; simp
theorem bl_trans {a b c : List UInt8} (h : Op.bytesLess a b = true) (k : Op.bytesLess b c = true) : Op.bytesLess a c = true := by
  rw [bytesLess_eq, decide_eq_true_eq] at *
  exact List.lt_trans h k
theorem bl_conn {a b : List UInt8} (h : Op.bytesLess a b = false) (k : Op.bytesLess b a = false) : a = b := by
  rw [bytesLess_eq, decide_eq_false_iff_not] at *
  exact List.le_antisymm (List.not_lt.1 k) (List.not_lt.1 h)
theorem ltW_iff (x y : WhT) : ltW x y = true ↔ x.1.val < y.1.val ∨ (x.1.val = y.1.val ∧ Op.bytesLess x.2.toList y.2.toList = true) := by
  unfold ltW; simp
theorem ltW_irrefl (x : WhT) : ltW x x = false := by
  rw [Bool.eq_false_iff, ne_eq, ltW_iff]
  rintro (h | ⟨_, h⟩)
  · omega
  · rw [bl_irrefl] at h; simp at h
theorem ltW_trans {x y z : WhT} (h : ltW x y = true) (k : ltW y z = true) : ltW x z = true := by
  rw [ltW_iff] at *
  rcases h with h | ⟨h, h'⟩
  · rcases k with k | ⟨k, _⟩
    · left; omega
    · left; omega
  · rcases k with k | ⟨k, k'⟩
    · left; omega
    · right; exact ⟨by omega, bl_trans h' k'⟩
theorem ltW_conn {x y : WhT} (h : ltW x y = false) (k : ltW y x = false) : x = y := by
  rw [Bool.eq_false_iff, ne_eq, ltW_iff] at *
  have e1 : x.1.val = y.1.val := by
    by_cases c : x.1.val < y.1.val
    · exact absurd (.inl c) h
    · by_cases d : y.1.val < x.1.val
      · exact absurd (.inl d) k
      · omega
  have e2 : x.2.toList = y.2.toList := bl_conn (Bool.eq_false_iff.2 fun q => h (.inr ⟨e1, q⟩)) (Bool.eq_false_iff.2 fun q => k (.inr ⟨e1.symm, q⟩))
  rw [ByteArray.toList_eq, ByteArray.toList_eq] at e2
  exact Prod.ext (Fin.ext e1) (Go.WideShapes.bytes_inj e2)
theorem swoW : SWO (ltOf cfW) where
  irrefl x := by rw [ltOf_cfW]; exact ltW_irrefl x
  trans x y z h k := by rw [ltOf_cfW] at *; exact ltW_trans h k
  ntrans x y z h k := by
    rw [ltOf_cfW] at *
    rw [Bool.eq_false_iff]
    intro q
    by_cases c : ltW y x = true
    · have := ltW_trans c q
      rw [k] at this; simp at this
    · obtain rfl := ltW_conn h (by simpa using c)
      rw [k] at q; simp at q
end Go.Proofs.Ytekojjilbchkgaa.Can
