/- Plain facts on the length of a number in bits: no condition beyond those stated in each theorem. -/
import Derived.Lib.BitFns
namespace Go.Proofs.Yteboinnganbdeaa.Bits
open Go

theorem bitLen_bounds : ∀ (n x : Nat), x < 2 ^ n → n ≤ 64 → x ≠ 0 → 2 ^ Lib.bitLen x ≤ 2 * x ∧ x < 2 ^ Lib.bitLen x ∧ Lib.bitLen x ≤ n := by
  intro n
  induction n with
  | zero => intro x h _ h0; exact absurd (by simpa using h) h0
  | succ n ih =>
    intro x h hn h0
    have h64 : x < 2 ^ 64 := Nat.lt_of_lt_of_le h (Nat.pow_le_pow_right (by decide) hn)
    rw [Lib.bitLen_half x h0 h64]
    by_cases h1 : x / 2 = 0
    · have : x = 1 := by omega
      subst this
      rw [show Lib.bitLen (1 / 2) = 0 from by decide]
      refine ⟨by decide, by decide, by omega⟩
    · rw [Nat.pow_succ] at h
      obtain ⟨a, b, c⟩ := ih (x / 2) (by omega) (by omega) h1
      rw [Nat.add_comm 1, Nat.pow_succ]
      refine ⟨by omega, by omega, by omega⟩

/-- Shifted by its leading zeros a number has its highest bit set. -/
theorem normal (x : Nat) (h : x < 18446744073709551616) (h0 : x ≠ 0) : ∃ s, s ≤ 63 ∧ Lib.bitLen x = 64 - s ∧ 9223372036854775808 ≤ x * 2 ^ s ∧ x * 2 ^ s < 18446744073709551616 := by
  obtain ⟨a, b, c⟩ := bitLen_bounds 64 x (by omega) (by decide) h0
  have hl : 1 ≤ Lib.bitLen x := by
    rcases Nat.eq_zero_or_pos (Lib.bitLen x) with e | e
    · rw [e] at b; omega
    · exact e
  refine ⟨64 - Lib.bitLen x, by omega, by omega, ?_, ?_⟩
  · have e : 2 ^ Lib.bitLen x * 2 ^ (64 - Lib.bitLen x) = 2 ^ 64 := by rw [← Nat.pow_add]; congr 1; omega
    have := Nat.mul_le_mul_right (2 ^ (64 - Lib.bitLen x)) a
    rw [e, Nat.mul_assoc] at this
    omega
  · have e : 2 ^ Lib.bitLen x * 2 ^ (64 - Lib.bitLen x) = 2 ^ 64 := by rw [← Nat.pow_add]; congr 1; omega
    have := Nat.mul_lt_mul_of_pos_right b (Nat.two_pow_pos (64 - Lib.bitLen x))
    rw [e] at this
    omega

end Go.Proofs.Yteboinnganbdeaa.Bits
