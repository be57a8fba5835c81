/- Plain facts on machine numbers, in the canonical machine's words. No condition beyond those stated in each theorem. -/
import Derived.Test.YtekojjilbchkgaaCanWp
import Derived.RowKit
namespace Go.Proofs.Ytekojjilbchkgaa.Can
open Go
set_option linter.unusedVariables false

theorem wu64 (n : Int) : IntKind.u64.wrap n = n % 18446744073709551616 := by simp [IntKind.wrap, IntKind.bits, IntKind.signed]
theorem wu32 (n : Int) : IntKind.u32.wrap n = n % 4294967296 := by simp [IntKind.wrap, IntKind.bits, IntKind.signed]
theorem wu8 (n : Int) : IntKind.u8.wrap n = n % 256 := by simp [IntKind.wrap, IntKind.bits, IntKind.signed]
theorem wi64 (n : Int) : IntKind.i64.wrap n = (n + 9223372036854775808) % 18446744073709551616 - 9223372036854775808 := by
  show (if (true && decide (n % 18446744073709551616 ≥ 9223372036854775808)) = true then n % 18446744073709551616 - 18446744073709551616 else n % 18446744073709551616) = _
  simp only [Bool.true_and, decide_eq_true_eq]
  split <;> omega
theorem wi32 (n : Int) : IntKind.i32.wrap n = (n + 2147483648) % 4294967296 - 2147483648 := by
  show (if (true && decide (n % 4294967296 ≥ 2147483648)) = true then n % 4294967296 - 4294967296 else n % 4294967296) = _
  simp only [Bool.true_and, decide_eq_true_eq]
  split <;> omega
theorem wi8 (n : Int) : IntKind.i8.wrap n = (n + 128) % 256 - 128 := by
  show (if (true && decide (n % 256 ≥ 128)) = true then n % 256 - 256 else n % 256) = _
  simp only [Bool.true_and, decide_eq_true_eq]
  split <;> omega
/-- A number of 64 bits, with a sign or without. -/
def I64 (n : Int) : Prop := -9223372036854775808 ≤ n ∧ n ≤ 9223372036854775807
def U64 (n : Int) : Prop := 0 ≤ n ∧ n ≤ 18446744073709551615
instance (n : Int) : Decidable (I64 n) := by unfold I64; infer_instance
instance (n : Int) : Decidable (U64 n) := by unfold U64; infer_instance
theorem i64_in (n : Int) : I64 (IntKind.i64.wrap n) := by unfold I64; rw [wi64]; omega
theorem u64_in (n : Int) : U64 (IntKind.u64.wrap n) := by unfold U64; rw [wu64]; omega
theorem wf_i64 {a : Int} (h : (Lit.int .i64 a).wf = true) : I64 a := by
  simp only [Lit.wf, IntKind.min, IntKind.max, IntKind.signed, IntKind.bits, Bool.and_eq_true, decide_eq_true_eq] at h
  simp at h
  unfold I64; omega
theorem wf_u64 {a : Int} (h : (Lit.int .u64 a).wf = true) : U64 a := by
  simp [Lit.wf, IntKind.min, IntKind.max, IntKind.signed, IntKind.bits] at h
  unfold U64; omega
theorem wf_u8 {a : Int} (h : (Lit.int .u8 a).wf = true) : 0 ≤ a ∧ a ≤ 255 := by
  simp [Lit.wf, IntKind.min, IntKind.max, IntKind.signed, IntKind.bits] at h
  omega

/-- A mask of i bits, of any number. -/
theorem and_mask (k : IntKind) (i : Nat) (hi : i ≤ k.bits) (hk : ∀ n : Int, 0 ≤ n → n < 2 ^ i → k.wrap n = n) (x : Int) :
    k.wrap ((BitVec.ofInt k.bits x &&& BitVec.ofInt k.bits (2 ^ i - 1)).toNat : Int) = x % 2 ^ i := by
  have hp : (2 : Nat) ^ i ≤ 2 ^ k.bits := Nat.pow_le_pow_right (by decide) hi
  have hpos : 0 < 2 ^ i := Nat.two_pow_pos i
  have hc : ((2 : Int) ^ i - 1) = ((2 ^ i - 1 : Nat) : Int) := by rw [Int.natCast_sub hpos]; simp
  rw [hc]
  simp only [BitVec.ofInt_natCast, BitVec.toNat_and, BitVec.toNat_ofNat, BitVec.toNat_ofInt]
  rw [Nat.mod_eq_of_lt (a := 2 ^ i - 1) (by omega), Nat.and_two_pow_sub_one_eq_mod]
  have e : (((x % ((2 ^ k.bits : Nat) : Int)).toNat % 2 ^ i : Nat) : Int) = x % 2 ^ i := by
    have hb : (0 : Int) < ((2 ^ k.bits : Nat) : Int) := by exact_mod_cast Nat.two_pow_pos k.bits
    have h0 : 0 ≤ x % ((2 ^ k.bits : Nat) : Int) := Int.emod_nonneg _ (by omega)
    rw [Int.natCast_emod, Int.toNat_of_nonneg h0]
    have hd : ((2 ^ i : Nat) : Int) ∣ ((2 ^ k.bits : Nat) : Int) := by
      exact_mod_cast Nat.pow_dvd_pow 2 hi
    rw [Int.emod_emod_of_dvd _ hd]
    simp
  rw [e]
  have h2 : (0 : Int) < 2 ^ i := by exact_mod_cast hpos
  exact hk _ (Int.emod_nonneg _ (by omega)) (Int.emod_lt_of_pos _ h2)
theorem u64_low (i : Nat) (hi : i ≤ 64) : ∀ n : Int, 0 ≤ n → n < 2 ^ i → IntKind.u64.wrap n = n := fun n h0 h1 => by
  have : (2 : Nat) ^ i ≤ 2 ^ 64 := Nat.pow_le_pow_right (by decide) hi
  have h2 : (2 : Int) ^ i ≤ 2 ^ 64 := by exact_mod_cast this
  rw [wu64]; omega
theorem i64_low (i : Nat) (hi : i ≤ 63) : ∀ n : Int, 0 ≤ n → n < 2 ^ i → IntKind.i64.wrap n = n := fun n h0 h1 => by
  have : (2 : Nat) ^ i ≤ 2 ^ 63 := Nat.pow_le_pow_right (by decide) hi
  have h2 : (2 : Int) ^ i ≤ 2 ^ 63 := by exact_mod_cast this
  rw [wi64]; omega
theorem and_u64 (i : Nat) (hi : i ≤ 64) (x m : Int) (hm : m = 2 ^ i - 1) : IntKind.u64.wrap ((BitVec.ofInt IntKind.u64.bits x &&& BitVec.ofInt IntKind.u64.bits m).toNat : Int) = x % 2 ^ i := by
  rw [hm]; exact and_mask .u64 i hi (u64_low i hi) x
theorem and_i64 (i : Nat) (hi : i ≤ 63) (x m : Int) (hm : m = 2 ^ i - 1) : IntKind.i64.wrap ((BitVec.ofInt IntKind.i64.bits x &&& BitVec.ofInt IntKind.i64.bits m).toNat : Int) = x % 2 ^ i := by
  rw [hm]; exact and_mask .i64 i (by show i ≤ 64; omega) (i64_low i hi) x
theorem shr_k (k : IntKind) (x : Int) (n : Nat) (h : n ≤ k.bits) : x.fdiv (2 ^ (min n k.bits)) = x / 2 ^ n := by
  rw [Nat.min_eq_left h, Int.fdiv_eq_ediv_of_nonneg _ (by exact_mod_cast Nat.zero_le _)]
theorem shl_k (k : IntKind) (x : Int) (n : Nat) (h : n ≤ k.bits) : x * 2 ^ (min n k.bits) = x * 2 ^ n := by
  rw [Nat.min_eq_left h]
theorem tmod_nn (a b : Int) (h : 0 ≤ a) : Int.tmod a b = a % b := Int.tmod_eq_emod_of_nonneg h
theorem tdiv_nn (a b : Int) (h : 0 ≤ a) : Int.tdiv a b = a / b := Int.tdiv_eq_ediv_of_nonneg h

/-- The upper half of a product, by halves. -/
theorem halves (a1 a0 b1 b0 p00 p01 p10 p11 : Int) (h00 : p00 = a0 * b0) (h01 : p01 = a0 * b1) (h10 : p10 = a1 * b0) (h11 : p11 = a1 * b1) :
    (a1 * 4294967296 + a0) * (b1 * 4294967296 + b0) = p11 * 18446744073709551616 + (p10 + p01) * 4294967296 + p00 := by
  subst h00 h01 h10 h11
  simp only [Int.add_mul, Int.mul_add]
  have e1 : a1 * 4294967296 * (b1 * 4294967296) = a1 * b1 * 18446744073709551616 := by
    rw [Int.mul_assoc, Int.mul_left_comm 4294967296 b1, ← Int.mul_assoc]; rfl
  have e2 : a0 * (b1 * 4294967296) = a0 * b1 * 4294967296 := (Int.mul_assoc ..).symm
  have e3 : a1 * 4294967296 * b0 = a1 * b0 * 4294967296 := by rw [Int.mul_assoc, Int.mul_comm 4294967296 b0, ← Int.mul_assoc]
  rw [e1, e2, e3]
  omega
theorem mul_range (x y m : Int) (hx0 : 0 ≤ x) (hx : x ≤ m) (hy0 : 0 ≤ y) (hy : y ≤ m) : 0 ≤ x * y ∧ x * y ≤ m * m :=
  ⟨Int.mul_nonneg hx0 hy0, Int.mul_le_mul hx hy hy0 (by omega)⟩
theorem upper (a b p00 p01 p10 p11 : Int) (ha0 : 0 ≤ a) (ha : a < 18446744073709551616) (hb0 : 0 ≤ b) (hb : b < 18446744073709551616)
    (h00 : p00 = (a % 4294967296) * (b % 4294967296)) (h01 : p01 = (a % 4294967296) * (b / 4294967296)) (h10 : p10 = (a / 4294967296) * (b % 4294967296)) (h11 : p11 = (a / 4294967296) * (b / 4294967296)) :
    a * b = p11 * 18446744073709551616 + (p10 + p01) * 4294967296 + p00 ∧ (0 ≤ p00 ∧ p00 ≤ 18446744065119617025) ∧ (0 ≤ p01 ∧ p01 ≤ 18446744065119617025) ∧ (0 ≤ p10 ∧ p10 ≤ 18446744065119617025) ∧ 0 ≤ p11 ∧ p11 ≤ 18446744065119617025 := by
  have e := halves (a / 4294967296) (a % 4294967296) (b / 4294967296) (b % 4294967296) p00 p01 p10 p11 h00 h01 h10 h11
  have ea : a / 4294967296 * 4294967296 + a % 4294967296 = a := by omega
  have eb : b / 4294967296 * 4294967296 + b % 4294967296 = b := by omega
  rw [ea, eb] at e
  refine ⟨e, ?_, ?_, ?_, ?_⟩
  · rw [h00]; exact mul_range _ _ 4294967295 (by omega) (by omega) (by omega) (by omega)
  · rw [h01]; exact mul_range _ _ 4294967295 (by omega) (by omega) (by omega) (by omega)
  · rw [h10]; exact mul_range _ _ 4294967295 (by omega) (by omega) (by omega) (by omega)
  · rw [h11]; exact mul_range _ _ 4294967295 (by omega) (by omega) (by omega) (by omega)
/-- What is taken by parts of a product of two numbers of 64 bits. -/
theorem mul64_is (a b : Int) (ha : U64 a) (hb : U64 b) :
    (a / 4294967296 * (b / 4294967296) % 18446744073709551616 + (a / 4294967296 * (b % 4294967296) % 18446744073709551616 + a % 4294967296 * (b % 4294967296) % 18446744073709551616 / 4294967296) % 18446744073709551616 / 4294967296) % 18446744073709551616 +
      ((a / 4294967296 * (b % 4294967296) % 18446744073709551616 + a % 4294967296 * (b % 4294967296) % 18446744073709551616 / 4294967296) % 18446744073709551616 % 4294967296 + a % 4294967296 * (b / 4294967296) % 18446744073709551616) % 18446744073709551616 / 4294967296 = a * b / 18446744073709551616 := by
  unfold U64 at ha hb
  obtain ⟨e, h0, h1, h2, h3⟩ := upper a b _ _ _ _ ha.1 (by omega) hb.1 (by omega) rfl rfl rfl rfl
  generalize a % 4294967296 * (b % 4294967296) = p00 at *
  generalize a % 4294967296 * (b / 4294967296) = p01 at *
  generalize a / 4294967296 * (b % 4294967296) = p10 at *
  generalize a / 4294967296 * (b / 4294967296) = p11 at *
  rw [e]
  omega
end Go.Proofs.Ytekojjilbchkgaa.Can
