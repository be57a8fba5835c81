/- Plain facts on the division of 128 by 64 bits, digit by digit (base 2^32): no condition beyond those stated in each theorem. -/
namespace Go.Proofs.Ytkoclacmomlmaaa.Digit

theorem test_iff {v1 v0 u d q rhat y : Nat} (hy : y = v1 * 4294967296 + v0) (hr : q * v1 + rhat = u) :
    u * 4294967296 + d < q * y ↔ rhat * 4294967296 + d < q * v0 := by
  subst hy hr
  rw [Nat.mul_add, Nat.add_mul, ← Nat.mul_assoc]
  omega

/-- The digit that is sought is no greater than one at which the test says yes, less one. -/
theorem less {N y q : Nat} (h : N < q * y) : N / y ≤ q - 1 := by
  have h0 : q ≠ 0 := by intro e; subst e; omega
  have h1 : N / y < q := by
    rcases Nat.eq_zero_or_pos y with e | e
    · subst e; omega
    · exact (Nat.div_lt_iff_lt_mul e).mpr h
  omega
theorem same {N y q : Nat} (hy : 0 < y) (h : N / y ≤ q) (h2 : q * y ≤ N) : q = N / y := by
  have h3 : q ≤ N / y := (Nat.le_div_iff_mul_le hy).mpr h2
  omega

/-- The first guess. -/
theorem guess {v1 v0 u d y : Nat} (hy : y = v1 * 4294967296 + v0) (hv1 : 0 < v1) : (u * 4294967296 + d) / y ≤ u / v1 ∨ 4294967296 ≤ d := by
  by_cases hd : d < 4294967296
  · left
    rw [← Nat.lt_add_one_iff]
    have hy0 : 0 < y := by omega
    rw [Nat.div_lt_iff_lt_mul hy0]
    have h1 : u < (u / v1 + 1) * v1 := by
      have := Nat.div_add_mod u v1
      have := Nat.mod_lt u hv1
      rw [Nat.add_mul, Nat.mul_comm]; omega
    subst hy
    have h2 : (u + 1) * 4294967296 ≤ (u / v1 + 1) * v1 * 4294967296 := Nat.mul_le_mul_right _ h1
    rw [Nat.mul_add, ← Nat.mul_assoc]
    omega
  · right; omega
theorem guess_max {v1 v0 u y : Nat} (hy : y = v1 * 4294967296 + v0) (hv0 : v0 < 4294967296) (hv1 : 2147483648 ≤ v1) (hu : u < y) : u / v1 ≤ 4294967297 := by
  rw [← Nat.lt_add_one_iff, Nat.div_lt_iff_lt_mul (by omega)]
  omega

/-- Two digits make the quotient, and what is left. -/
theorem two {u d1 d0 y : Nat} (hy : 0 < y) :
    let q1 := (u * 4294967296 + d1) / y; let r1 := (u * 4294967296 + d1) % y
    let q0 := (r1 * 4294967296 + d0) / y; let r0 := (r1 * 4294967296 + d0) % y
    (u * 18446744073709551616 + d1 * 4294967296 + d0) / y = q1 * 4294967296 + q0 ∧ (u * 18446744073709551616 + d1 * 4294967296 + d0) % y = r0 := by
  intro q1 r1 q0 r0
  have e1 : y * q1 + r1 = u * 4294967296 + d1 := Nat.div_add_mod _ _
  have e0 : y * q0 + r0 = r1 * 4294967296 + d0 := Nat.div_add_mod _ _
  have hr : r0 < y := Nat.mod_lt _ hy
  have e : u * 18446744073709551616 + d1 * 4294967296 + d0 = r0 + y * (q1 * 4294967296 + q0) := by
    rw [Nat.mul_add, ← Nat.mul_assoc]
    omega
  rw [e]
  constructor
  · rw [Nat.add_mul_div_left _ _ hy, Nat.div_eq_of_lt hr, Nat.zero_add]
  · rw [Nat.add_mul_mod_self_left, Nat.mod_eq_of_lt hr]

/-- Both sides shifted. -/
theorem shifted (n y : Nat) (s : Nat) : n * 2 ^ s / (y * 2 ^ s) = n / y ∧ n * 2 ^ s % (y * 2 ^ s) / 2 ^ s = n % y := by
  have hp : 0 < 2 ^ s := Nat.two_pow_pos s
  constructor
  · exact Nat.mul_div_mul_right _ _ hp
  · rw [Nat.mul_mod_mul_right, Nat.mul_div_cancel _ hp]

end Go.Proofs.Ytkoclacmomlmaaa.Digit
