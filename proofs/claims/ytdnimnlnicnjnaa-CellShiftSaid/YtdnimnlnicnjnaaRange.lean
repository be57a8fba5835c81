/- Plain facts on numbers of 64 bits with a sign: what lies in the range, and the nearest number that does. No condition beyond those stated in each theorem. -/
import Derived.RowKit
namespace Go.Proofs.Ytdnimnlnicnjnaa.Range
open Go Go.RowKit

/-- In the range of 64 bits with a sign. -/
def In (z : Int) : Prop := -9223372036854775808 ≤ z ∧ z ≤ 9223372036854775807
instance (z : Int) : Decidable (In z) := inferInstanceAs (Decidable (_ ∧ _))
/-- The nearest number in the range. -/
def near (z : Int) : Int := if z < -9223372036854775808 then -9223372036854775808 else if 9223372036854775807 < z then 9223372036854775807 else z
theorem near_in {z : Int} (h : In z) : near z = z := by unfold near; unfold In at h; rw [if_neg (by omega), if_neg (by omega)]
theorem in_near (z : Int) : In (near z) := by unfold near In; split <;> (try split) <;> omega
theorem near_mono {x y : Int} (h : x ≤ y) : near x ≤ near y := by unfold near; split <;> split <;> (try split) <;> (try split) <;> omega
theorem wrap_in {z : Int} (h : In z) : wrap64 z = z := by unfold In at h; unfold wrap64; omega

theorem prod_bound {a b : Int} (ha : In a) (hb : In b) : -85070591730234615865843651857942052864 ≤ a * b ∧ a * b ≤ 85070591730234615865843651857942052864 := by
  unfold In at ha hb
  have key : ∀ x y : Int, 0 ≤ x → x ≤ 9223372036854775808 → 0 ≤ y → y ≤ 9223372036854775808 → 0 ≤ x * y ∧ x * y ≤ 85070591730234615865843651857942052864 := by
    intro x y h1 h2 h3 h4
    refine ⟨Int.mul_nonneg h1 h3, ?_⟩
    have := Int.mul_le_mul h2 h4 h3 (by omega)
    exact Int.le_trans this (by decide)
  by_cases h1 : 0 ≤ a
  · by_cases h2 : 0 ≤ b
    · have := key a b h1 (by omega) h2 (by omega); omega
    · have := key a (-b) h1 (by omega) (by omega) (by omega); rw [Int.mul_neg] at this; omega
  · by_cases h2 : 0 ≤ b
    · have := key (-a) b (by omega) (by omega) h2 (by omega); rw [Int.neg_mul] at this; omega
    · have := key (-a) (-b) (by omega) (by omega) (by omega) (by omega); rw [Int.neg_mul_neg] at this; omega

/-- The signs of a product. -/
theorem prod_sign (a b : Int) : (0 < a * b → (decide (a < 0) = decide (b < 0))) ∧ (a * b < 0 → (decide (a < 0) ≠ decide (b < 0))) := by
  constructor
  · intro h
    rw [decide_eq_decide]
    constructor
    · intro ha
      exact Int.not_le.mp fun hb => by have := Int.mul_nonneg (show 0 ≤ -a by omega) hb; rw [Int.neg_mul] at this; omega
    · intro hb
      exact Int.not_le.mp fun ha => by have := Int.mul_nonneg ha (show 0 ≤ -b by omega); rw [Int.mul_neg] at this; omega
  · intro h e
    rw [decide_eq_decide] at e
    by_cases ha : a < 0
    · have := Int.mul_nonneg (show 0 ≤ -a by omega) (show 0 ≤ -b by have := e.mp ha; omega); rw [Int.neg_mul_neg] at this; omega
    · have hb : ¬ b < 0 := fun hb => ha (e.mpr hb)
      have := Int.mul_nonneg (show 0 ≤ a by omega) (show 0 ≤ b by omega); omega

end Go.Proofs.Ytdnimnlnicnjnaa.Range
