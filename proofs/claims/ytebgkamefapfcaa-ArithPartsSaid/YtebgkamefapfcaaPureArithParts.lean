/- Proved: a quotient down times its divisor, and less than that more, is the product; by a factor it is the other one. For every input; no condition. -/
import Derived.Test.YtebgkamefapfcaaQArithPartsx2
import Derived.Test.YtebgkamefapfcaaBase
import Derived.Test.YtebgkamefapfcaaDigit
import Derived.Test.YtebgkamefapfcaaBits
namespace Go.Proofs.Ytebgkamefapfcaa.Pure
open Go Go.RowKit Go.Proofs.Ytebgkamefapfcaa Go.Proofs.Ytebgkamefapfcaa.QArithParts Go.Proofs.YtebgkamefapfcaaW.PrintWords Go.Proofs.YtebgkamefapfcaaW.PrintLast Go.Proofs.YtebgkamefapfcaaW.PrintMore
theorem mul64_nat (a b : Nat) (ha : a < 18446744073709551616) (hb : b < 18446744073709551616) : bits_Mul64.f (a : Int) (b : Int) = some (((a * b / 18446744073709551616 : Nat) : Int), ((a * b % 18446744073709551616 : Nat) : Int)) := by
  obtain ⟨p00, h00⟩ : ∃ p, p = ((a : Int) % 4294967296) * ((b : Int) % 4294967296) := ⟨_, rfl⟩
  obtain ⟨p01, h01⟩ : ∃ p, p = ((a : Int) % 4294967296) * ((b : Int) / 4294967296) := ⟨_, rfl⟩
  obtain ⟨p10, h10⟩ : ∃ p, p = ((a : Int) / 4294967296) * ((b : Int) % 4294967296) := ⟨_, rfl⟩
  obtain ⟨p11, h11⟩ : ∃ p, p = ((a : Int) / 4294967296) * ((b : Int) / 4294967296) := ⟨_, rfl⟩
  obtain ⟨e, b00, b01, b10, b11⟩ := Base.upper a b p00 p01 p10 p11 (by omega) (by omega) (by omega) (by omega) h00 h01 h10 h11
  have m1 : Go.bits .and .u64 (a : Int) 4294967295 = (a : Int) % 4294967296 := Base.and_u64 32 (by decide) _ _ (by decide)
  have m2 : Go.bits .and .u64 (b : Int) 4294967295 = (b : Int) % 4294967296 := Base.and_u64 32 (by decide) _ _ (by decide)
  unfold bits_Mul64.f
  rw [m1, m2, ← h00, ← h01, ← h10, ← h11]
  rw [Base.wu64_in p00 (by omega) (by omega), Base.wu64_in p01 (by omega) (by omega), Base.wu64_in p10 (by omega) (by omega), Base.wu64_in p11 (by omega) (by omega)]
  obtain ⟨t, ht⟩ : ∃ t, t = p10 + p00 / 4294967296 := ⟨_, rfl⟩
  rw [← ht, Base.wu64_in t (by omega) (by omega)]
  have m3 : Go.bits .and .u64 t 4294967295 = t % 4294967296 := Base.and_u64 32 (by decide) _ _ (by decide)
  rw [m3, Base.wu64_in (t % 4294967296 + p01) (by omega) (by omega)]
  rw [Base.wu64_in (p11 + t / 4294967296) (by omega) (by omega)]
  rw [Base.wu64, Base.wu64, e]
  have hn : ((a * b : Nat) : Int) = p11 * 18446744073709551616 + (p10 + p01) * 4294967296 + p00 := by rw [Int.natCast_mul]; exact e
  obtain ⟨N, hN⟩ : ∃ N, N = a * b := ⟨_, rfl⟩
  rw [← hN] at hn
  rw [← hN]
  have e1 : (p11 + t / 4294967296 + (t % 4294967296 + p01) / 4294967296) % 18446744073709551616 = ((N / 18446744073709551616 : Nat) : Int) := by omega
  have e2 : (p11 * 18446744073709551616 + (p10 + p01) * 4294967296 + p00) % 18446744073709551616 = ((N % 18446744073709551616 : Nat) : Int) := by omega
  rw [e1, e2]

/-! ### Division of 128 by 64 bits -/
theorem digit_lt {u d y : Nat} (hu : u < y) (hd : d < 4294967296) : (u * 4294967296 + d) / y < 4294967296 := by
  rw [Nat.div_lt_iff_lt_mul (by omega)]
  have := Nat.mul_le_mul_left 4294967296 (show u + 1 ≤ y from hu)
  omega
/-- What is left behind a digit, as the machine reckons it. -/
theorem left_of (u d y q : Nat) (hy0 : 0 < y) (hy : y < 18446744073709551616) (hq : q = (u * 4294967296 + d) / y) :
    IntKind.u64.wrap (IntKind.u64.wrap (IntKind.u64.wrap ((u : Int) * 4294967296) + (d : Int)) - IntKind.u64.wrap ((q : Int) * (y : Int))) = (((u * 4294967296 + d) % y : Nat) : Int) := by
  have h1 := Nat.div_add_mod (u * 4294967296 + d) y
  have h2 := Nat.mod_lt (u * 4294967296 + d) hy0
  rw [← hq] at h1
  rw [← Int.natCast_mul, Nat.mul_comm q y]
  obtain ⟨B, hB⟩ : ∃ B, B = y * q := ⟨_, rfl⟩
  obtain ⟨r, hr⟩ : ∃ r, r = (u * 4294967296 + d) % y := ⟨_, rfl⟩
  rw [← hB] at h1 ⊢
  rw [← hr] at h1 h2 ⊢
  simp only [Base.wu64]
  omega
/-- What the last loop and what stands behind it tell. -/
theorem second (y s v1 v0 q1 u d : Nat) (hy : y = v1 * 4294967296 + v0) (hv1 : 2147483648 ≤ v1) (hv1' : v1 < 4294967296) (hv0 : v0 < 4294967296) (hd : d < 4294967296) (hu : u < y) (hq1 : q1 < 4294967296) (hs : s ≤ 63) :
    ∀ n q rhat : Nat, 4294967296 ≤ rhat + n * v1 → q * v1 + rhat = u → (u * 4294967296 + d) / y ≤ q → q ≤ 4294967297 → rhat < 4294967296 → ∀ k, 2 * n + 2 ≤ k →
      bits_Div64.l1 k (y : Int) (s : Int) (v1 : Int) (v0 : Int) (d : Int) (q1 : Int) (rhat : Int) (u : Int) (q : Int)
        = some (((q1 * 4294967296 + (u * 4294967296 + d) / y : Nat) : Int), ((((u * 4294967296 + d) % y) / 2 ^ s : Nat) : Int)) := by
  have hy0 : 0 < y := by omega
  have hyM : y < 18446744073709551616 := by omega
  obtain ⟨Q, hQ⟩ : ∃ Q, Q = (u * 4294967296 + d) / y := ⟨_, rfl⟩
  have hQlt : Q < 4294967296 := by rw [hQ]; exact digit_lt hu hd
  have hrest := left_of u d y Q hy0 hyM hQ
  have hsh : shr .u64 (((u * 4294967296 + d) % y : Nat) : Int) (s : Int) = ((((u * 4294967296 + d) % y) / 2 ^ s : Nat) : Int) := by
    rw [Base.shr_u64 _ s (by omega), Int.natCast_ediv, Int.natCast_pow]; rfl
  have hout : IntKind.u64.wrap (IntKind.u64.wrap ((q1 : Int) * 4294967296) + (Q : Int)) = ((q1 * 4294967296 + Q : Nat) : Int) := by
    rw [Base.wu64_in (_ * _) (by omega) (by omega), Base.wu64_in _ (by omega) (by omega)]; omega
  intro n
  induction n with
  | zero => intro q rhat h1 _ _ _ h5; omega
  | succ n ih =>
    intro q rhat h1 h2 h3 h4 h5 k hk
    rw [← hQ] at h3 ⊢
    obtain ⟨k, rfl⟩ : ∃ j, k = j + 1 + 1 := ⟨k - 2, by omega⟩
    have hti := @Digit.test_iff v1 v0 u d q rhat y hy h2
    have htest : bits_Div64.l1 (k + 1 + 1) (y : Int) (s : Int) (v1 : Int) (v0 : Int) (d : Int) (q1 : Int) (rhat : Int) (u : Int) (q : Int) = bits_Div64.j4 (k + 1) (y : Int) (s : Int) (v1 : Int) (v0 : Int) (d : Int) (q1 : Int) (rhat : Int) (u : Int) (q : Int) (decide (4294967296 ≤ q ∨ u * 4294967296 + d < q * y)) := by
      rw [bits_Div64.l1]
      by_cases c : 4294967296 ≤ q
      · rw [if_pos (by omega), decide_eq_true (Or.inl c)]
      · rw [if_neg (by omega)]
        have hp : q * v0 ≤ 4294967295 * 4294967295 := Nat.mul_le_mul (by omega) (by omega)
        rw [← Int.natCast_mul]
        rw [Base.wu64_in (((q * v0 : Nat)) : Int) (by omega) (by omega), Base.wu64_in (_ * _) (by omega) (by omega), Base.wu64_in _ (by omega) (by omega)]
        congr 1
        rw [decide_eq_decide, hti]
        omega
    rw [htest, bits_Div64.j4]
    by_cases c : 4294967296 ≤ q ∨ u * 4294967296 + d < q * y
    · rw [decide_eq_true c, if_pos rfl]
      have hle : Q ≤ q - 1 := by
        rcases c with c | c
        · omega
        · rw [hQ]; exact Digit.less c
      have hq0 : 1 ≤ q := by
        rcases c with c | c
        · omega
        · rcases Nat.eq_zero_or_pos q with e | e
          · subst e; omega
          · exact e
      have h2' : (q - 1) * v1 + (rhat + v1) = u := by
        obtain ⟨p, rfl⟩ : ∃ p, q = p + 1 := ⟨q - 1, by omega⟩
        rw [Nat.add_mul] at h2; rw [Nat.add_sub_cancel]; omega
      rw [Base.wu64_in ((rhat : Int) + (v1 : Int)) (by omega) (by omega), Base.wu64_in ((q : Int) - 1) (by omega) (by omega)]
      rw [show ((q : Int) - 1) = ((q - 1 : Nat) : Int) from by omega, show ((rhat : Int) + (v1 : Int)) = ((rhat + v1 : Nat) : Int) from by omega]
      by_cases c2 : 4294967296 ≤ rhat + v1
      · rw [if_pos (by omega), if_pos (by omega)]
        have hti2 := @Digit.test_iff v1 v0 u d (q - 1) (rhat + v1) y hy h2'
        have hp : (q - 1) * v0 ≤ 4294967296 * 4294967295 := Nat.mul_le_mul (by omega) (by omega)
        have hsame : q - 1 = Q := by
          rw [hQ]; refine Digit.same hy0 (by rw [← hQ]; exact hle) (Nat.le_of_not_lt fun h => ?_)
          have := hti2.mp h
          omega
        rw [hsame, hout, hrest, hsh]
      · rw [if_neg (by omega)]
        have := ih (q - 1) (rhat + v1) (by rw [Nat.add_mul] at h1; omega) h2' (by rw [← hQ]; exact hle) (by omega) (by omega) k (by omega)
        rw [← hQ] at this
        exact this
    · rw [decide_eq_false c, if_neg (by decide), if_pos (by omega)]
      have hsame : q = Q := by
        rw [hQ]; refine Digit.same hy0 (by rw [← hQ]; exact h3) (Nat.le_of_not_lt fun h => c (Or.inr h))
      rw [hsame, hout, hrest, hsh]
/-- What stands behind the first loop. -/
theorem middle (y s v1 v0 u d un0 Q1 : Nat) (hy : y = v1 * 4294967296 + v0) (hv1 : 2147483648 ≤ v1) (hv1' : v1 < 4294967296) (hv0 : v0 < 4294967296) (hd : d < 4294967296) (h0 : un0 < 4294967296) (hu : u < y) (hs : s ≤ 63) (hQ1 : Q1 = (u * 4294967296 + d) / y) (k : Nat) (hk : 10 ≤ k) :
    bits_Div64.j2 k (y : Int) (s : Int) (v1 : Int) (v0 : Int) (u : Int) (d : Int) (un0 : Int) (Q1 : Int)
      = some (((Q1 * 4294967296 + ((u * 4294967296 + d) % y * 4294967296 + un0) / y : Nat) : Int), (((((u * 4294967296 + d) % y * 4294967296 + un0) % y) / 2 ^ s : Nat) : Int)) := by
  have hy0 : 0 < y := by omega
  have hyM : y < 18446744073709551616 := by omega
  obtain ⟨k, rfl⟩ : ∃ j, k = j + 1 := ⟨k - 1, by omega⟩
  have hr := left_of u d y Q1 hy0 hyM hQ1
  have hQlt : Q1 < 4294967296 := by rw [hQ1]; exact digit_lt hu hd
  have hru : (u * 4294967296 + d) % y < y := Nat.mod_lt _ hy0
  rw [bits_Div64.j2, if_neg (by omega), hr]
  obtain ⟨U, hU⟩ : ∃ U, U = (u * 4294967296 + d) % y := ⟨_, rfl⟩
  rw [← hU] at hru ⊢
  have hq : IntKind.u64.wrap (Int.tdiv (U : Int) (v1 : Int)) = ((U / v1 : Nat) : Int) := by
    rw [Base.tdiv_nn _ _ (by omega), ← Int.natCast_ediv]
    have : U / v1 ≤ U := Nat.div_le_self _ _
    exact Base.wu64_in _ (Int.natCast_nonneg _) (by omega)
  have hm : U / v1 * v1 + U % v1 = U := by rw [Nat.mul_comm]; exact Nat.div_add_mod U v1
  have hlt : U % v1 < v1 := Nat.mod_lt _ (by omega)
  have hrh : IntKind.u64.wrap ((U : Int) - IntKind.u64.wrap (((U / v1 : Nat) : Int) * (v1 : Int))) = ((U % v1 : Nat) : Int) := by
    rw [← Int.natCast_mul, Base.wu64_in (((U / v1 * v1 : Nat)) : Int) (by omega) (by omega), Base.wu64_in _ (by omega) (by omega)]
    omega
  rw [hq, hrh]
  refine second y s v1 v0 Q1 U un0 hy hv1 hv1' hv0 h0 hru hQlt hs 2 (U / v1) (U % v1) (by omega) hm ?_ (Digit.guess_max hy hv0 hv1 hru) (by omega) k (by omega)
  rcases Digit.guess (u := U) (d := un0) hy (by omega : 0 < v1) with h | h
  · exact h
  · omega
theorem first (y s v1 v0 u d un0 : Nat) (hy : y = v1 * 4294967296 + v0) (hv1 : 2147483648 ≤ v1) (hv1' : v1 < 4294967296) (hv0 : v0 < 4294967296) (hd : d < 4294967296) (h0 : un0 < 4294967296) (hu : u < y) (hs : s ≤ 63) :
    ∀ n q rhat : Nat, 4294967296 ≤ rhat + n * v1 → q * v1 + rhat = u → (u * 4294967296 + d) / y ≤ q → q ≤ 4294967297 → rhat < 4294967296 → ∀ k, 2 * n + 12 ≤ k →
      bits_Div64.l0 k (y : Int) (s : Int) (v1 : Int) (v0 : Int) (u : Int) (d : Int) (un0 : Int) (q : Int) (rhat : Int)
        = some ((((u * 4294967296 + d) / y * 4294967296 + ((u * 4294967296 + d) % y * 4294967296 + un0) / y : Nat) : Int), (((((u * 4294967296 + d) % y * 4294967296 + un0) % y) / 2 ^ s : Nat) : Int)) := by
  have hy0 : 0 < y := by omega
  obtain ⟨Q, hQ⟩ : ∃ Q, Q = (u * 4294967296 + d) / y := ⟨_, rfl⟩
  have hQlt : Q < 4294967296 := by rw [hQ]; exact digit_lt hu hd
  have hmid := middle y s v1 v0 u d un0 Q hy hv1 hv1' hv0 hd h0 hu hs hQ
  intro n
  induction n with
  | zero => intro q rhat h1 _ _ _ h5; omega
  | succ n ih =>
    intro q rhat h1 h2 h3 h4 h5 k hk
    rw [← hQ] at h3 ⊢
    obtain ⟨k, rfl⟩ : ∃ j, k = j + 1 + 1 := ⟨k - 2, by omega⟩
    have hti := @Digit.test_iff v1 v0 u d q rhat y hy h2
    have htest : bits_Div64.l0 (k + 1 + 1) (y : Int) (s : Int) (v1 : Int) (v0 : Int) (u : Int) (d : Int) (un0 : Int) (q : Int) (rhat : Int) = bits_Div64.j1 (k + 1) (y : Int) (s : Int) (v1 : Int) (v0 : Int) (u : Int) (d : Int) (un0 : Int) (q : Int) (rhat : Int) (decide (4294967296 ≤ q ∨ u * 4294967296 + d < q * y)) := by
      rw [bits_Div64.l0]
      by_cases c : 4294967296 ≤ q
      · rw [if_pos (by omega), decide_eq_true (Or.inl c)]
      · rw [if_neg (by omega)]
        have hp : q * v0 ≤ 4294967295 * 4294967295 := Nat.mul_le_mul (by omega) (by omega)
        rw [← Int.natCast_mul]
        rw [Base.wu64_in (((q * v0 : Nat)) : Int) (by omega) (by omega), Base.wu64_in (_ * _) (by omega) (by omega), Base.wu64_in _ (by omega) (by omega)]
        congr 1
        rw [decide_eq_decide, hti]
        omega
    rw [htest, bits_Div64.j1]
    by_cases c : 4294967296 ≤ q ∨ u * 4294967296 + d < q * y
    · rw [decide_eq_true c, if_pos rfl]
      have hle : Q ≤ q - 1 := by
        rcases c with c | c
        · omega
        · rw [hQ]; exact Digit.less c
      have hq0 : 1 ≤ q := by
        rcases c with c | c
        · omega
        · rcases Nat.eq_zero_or_pos q with e | e
          · subst e; omega
          · exact e
      have h2' : (q - 1) * v1 + (rhat + v1) = u := by
        obtain ⟨p, rfl⟩ : ∃ p, q = p + 1 := ⟨q - 1, by omega⟩
        rw [Nat.add_mul] at h2; rw [Nat.add_sub_cancel]; omega
      rw [Base.wu64_in ((rhat : Int) + (v1 : Int)) (by omega) (by omega), Base.wu64_in ((q : Int) - 1) (by omega) (by omega)]
      rw [show ((q : Int) - 1) = ((q - 1 : Nat) : Int) from by omega, show ((rhat : Int) + (v1 : Int)) = ((rhat + v1 : Nat) : Int) from by omega]
      by_cases c2 : 4294967296 ≤ rhat + v1
      · rw [if_pos (by omega)]
        have hti2 := @Digit.test_iff v1 v0 u d (q - 1) (rhat + v1) y hy h2'
        have hp : (q - 1) * v0 ≤ 4294967296 * 4294967295 := Nat.mul_le_mul (by omega) (by omega)
        have hsame : q - 1 = Q := by
          rw [hQ]; refine Digit.same hy0 (by rw [← hQ]; exact hle) (Nat.le_of_not_lt fun h => ?_)
          have := hti2.mp h
          omega
        rw [hsame]
        exact hmid k (by omega)
      · rw [if_neg (by omega)]
        have := ih (q - 1) (rhat + v1) (by rw [Nat.add_mul] at h1; omega) h2' (by rw [← hQ]; exact hle) (by omega) (by omega) k (by omega)
        rw [← hQ] at this
        exact this
    · rw [decide_eq_false c, if_neg (by decide)]
      have hsame : q = Q := by
        rw [hQ]; refine Digit.same hy0 (by rw [← hQ]; exact h3) (Nat.le_of_not_lt fun h => c (Or.inr h))
      rw [hsame]
      exact hmid k (by omega)
theorem shifted_of (hi lo y s : Nat) : (hi * 18446744073709551616 + lo) * 2 ^ s / (y * 2 ^ s) = (hi * 18446744073709551616 + lo) / y ∧ (hi * 18446744073709551616 + lo) * 2 ^ s % (y * 2 ^ s) / 2 ^ s = (hi * 18446744073709551616 + lo) % y := Digit.shifted _ y s
theorem div64_nat (hi lo y : Nat) (hhi : hi < y) (hlo : lo < 18446744073709551616) (hy : y < 18446744073709551616) (k : Nat) (hk : 20 ≤ k) :
    bits_Div64.f k (hi : Int) (lo : Int) (y : Int) = some ((((hi * 18446744073709551616 + lo) / y : Nat) : Int), (((hi * 18446744073709551616 + lo) % y : Nat) : Int)) := by
  have hy0 : y ≠ 0 := by omega
  unfold bits_Div64.f
  rw [if_neg (by omega), if_neg (by omega)]
  by_cases h0 : hi = 0
  · subst h0
    rw [if_pos (by rfl), Base.tdiv_nn _ _ (by omega), Base.tmod_nn _ _ (by omega), Nat.zero_mul, Nat.zero_add, ← Int.natCast_ediv, ← Int.natCast_emod]
    have : lo / y ≤ lo := Nat.div_le_self _ _
    rw [Base.wu64_in _ (Int.natCast_nonneg _) (by omega)]
  rw [if_neg (by omega)]
  obtain ⟨s, hs, hbl, hn1, hn2⟩ := Bits.normal y hy hy0
  have hlz : bits_LeadingZeros64.f (y : Int) = some (s : Int) := by
    unfold bits_LeadingZeros64.f bits_Len64.f
    rw [if_pos (by omega), Option.bind_some, Int.toNat_natCast, hbl, Base.w64_in _ (by omega) (by omega)]
    congr 1; omega
  have hp : 0 < 2 ^ s := Nat.two_pow_pos s
  have hps : 2 ^ s * 2 ^ (64 - s) = 18446744073709551616 := by rw [← Nat.pow_add, show s + (64 - s) = 64 from by omega]
  rw [hlz, Option.bind_some, Base.wu64_in (s : Int) (by omega) (by omega), if_pos (by omega), Base.wu64_in (64 - (s : Int)) (by omega) (by omega), if_pos (by omega)]
  -- the divisor, shifted
  have ey : shl .u64 (y : Int) (s : Int) = ((y * 2 ^ s : Nat) : Int) := by
    rw [Base.shl_u64 _ s (by omega), Int.natCast_mul, Int.natCast_pow]
    have : ((y * 2 ^ s : Nat) : Int) = (y : Int) * 2 ^ s := by rw [Int.natCast_mul, Int.natCast_pow]; rfl
    show (y : Int) * 2 ^ s % 18446744073709551616 = (y : Int) * 2 ^ s
    rw [← this]; omega
  have eh : shl .u64 (hi : Int) (s : Int) = ((hi * 2 ^ s : Nat) : Int) := by
    have h : hi * 2 ^ s < y * 2 ^ s := Nat.mul_lt_mul_of_pos_right hhi hp
    rw [Base.shl_u64 _ s (by omega), Int.natCast_mul, Int.natCast_pow]
    have : ((hi * 2 ^ s : Nat) : Int) = (hi : Int) * 2 ^ s := by rw [Int.natCast_mul, Int.natCast_pow]; rfl
    show (hi : Int) * 2 ^ s % 18446744073709551616 = (hi : Int) * 2 ^ s
    rw [← this]; omega
  have el : shr .u64 (lo : Int) (64 - (s : Int)) = ((lo / 2 ^ (64 - s) : Nat) : Int) := by
    rw [show (64 - (s : Int)) = ((64 - s : Nat) : Int) from by omega, Base.shr_u64 _ _ (by omega), Int.natCast_ediv, Int.natCast_pow]; rfl
  have el2 : shl .u64 (lo : Int) (s : Int) = ((lo * 2 ^ s % 18446744073709551616 : Nat) : Int) := by
    rw [Base.shl_u64 _ s (by omega), Int.natCast_emod, Int.natCast_mul, Int.natCast_pow]; rfl
  have hlq : lo / 2 ^ (64 - s) < 2 ^ s := by
    rw [Nat.div_lt_iff_lt_mul (Nat.two_pow_pos _), hps]; exact hlo
  have hhs : hi * 2 ^ s + 2 ^ s ≤ y * 2 ^ s := by
    have := Nat.mul_le_mul_right (2 ^ s) (show hi + 1 ≤ y from hhi)
    rw [Nat.add_mul, Nat.one_mul] at this; exact this
  have eor : Go.bits .or .u64 ((hi * 2 ^ s : Nat) : Int) ((lo / 2 ^ (64 - s) : Nat) : Int) = ((hi * 2 ^ s + lo / 2 ^ (64 - s) : Nat) : Int) := by
    have hm : ((hi * 2 ^ s : Nat) : Int) % 2 ^ s = 0 := by
      have : ((hi * 2 ^ s % 2 ^ s : Nat) : Int) = 0 := by rw [Nat.mul_mod_left]; rfl
      rw [Int.natCast_emod, Int.natCast_pow] at this; exact this
    have hlq' : ((lo / 2 ^ (64 - s) : Nat) : Int) < 2 ^ s := by
      have : ((lo / 2 ^ (64 - s) : Nat) : Int) < ((2 ^ s : Nat) : Int) := by exact_mod_cast hlq
      rw [Int.natCast_pow] at this; exact this
    clear el el2 eh ey hps
    obtain ⟨A, hA⟩ : ∃ A, A = hi * 2 ^ s := ⟨_, rfl⟩
    obtain ⟨B, hB⟩ : ∃ B, B = lo / 2 ^ (64 - s) := ⟨_, rfl⟩
    obtain ⟨C, hC⟩ : ∃ C, C = y * 2 ^ s := ⟨_, rfl⟩
    obtain ⟨D, hD⟩ : ∃ D, D = 2 ^ s := ⟨_, rfl⟩
    rw [← hA, ← hC, ← hD] at hhs
    rw [← hB, ← hD] at hlq
    rw [← hC] at hn2
    rw [← hA] at hm ⊢
    rw [← hB] at hlq' ⊢
    rw [Base.or_u64 s _ _ (Int.natCast_nonneg _) hm (by omega) (Int.natCast_nonneg _) hlq' (by omega)]; omega
  rw [ey, eh, el, el2, eor]
  -- names
  obtain ⟨Y, hY⟩ : ∃ Y, Y = y * 2 ^ s := ⟨_, rfl⟩
  obtain ⟨U, hU⟩ : ∃ U, U = hi * 2 ^ s + lo / 2 ^ (64 - s) := ⟨_, rfl⟩
  obtain ⟨L, hL⟩ : ∃ L, L = lo * 2 ^ s % 18446744073709551616 := ⟨_, rfl⟩
  have hsum : (hi * 18446744073709551616 + lo) * 2 ^ s = U * 18446744073709551616 + L / 4294967296 * 4294967296 + L % 4294967296 := by
    have e1 : lo * 2 ^ s / 18446744073709551616 = lo / 2 ^ (64 - s) := by
      rw [← hps, Nat.mul_comm (2 ^ s), Nat.mul_div_mul_right _ _ hp]
    have e2 := Nat.div_add_mod (lo * 2 ^ s) 18446744073709551616
    rw [e1, ← hL] at e2
    rw [hU, Nat.add_mul, Nat.mul_assoc, Nat.mul_comm 18446744073709551616, ← Nat.mul_assoc, Nat.add_mul]
    generalize hi * 2 ^ s = A
    omega
  have hLlt : L < 18446744073709551616 := by rw [hL]; exact Nat.mod_lt _ (by decide)
  have hUY : U < Y := by rw [hU, hY]; omega
  have hd := shifted_of hi lo y s
  rw [← hY] at hn1 hn2 hd ⊢
  rw [← hU, ← hL]
  obtain ⟨v1, hv1⟩ : ∃ v, v = Y / 4294967296 := ⟨_, rfl⟩
  obtain ⟨v0, hv0⟩ : ∃ v, v = Y % 4294967296 := ⟨_, rfl⟩
  obtain ⟨d1, hd1⟩ : ∃ v, v = L / 4294967296 := ⟨_, rfl⟩
  obtain ⟨d0, hd0⟩ : ∃ v, v = L % 4294967296 := ⟨_, rfl⟩
  have i1 : ((Y : Nat) : Int) / 4294967296 = (v1 : Int) := by omega
  have i2 : Go.bits .and .u64 ((Y : Nat) : Int) 4294967295 = (v0 : Int) := by rw [Base.and_u64 32 (by decide) _ _ (by decide)]; omega
  have i3 : ((L : Nat) : Int) / 4294967296 = (d1 : Int) := by omega
  have i4 : Go.bits .and .u64 ((L : Nat) : Int) 4294967295 = (d0 : Int) := by rw [Base.and_u64 32 (by decide) _ _ (by decide)]; omega
  rw [i1, i2, i3, i4, if_neg (by omega)]
  have hq : IntKind.u64.wrap (Int.tdiv (U : Int) (v1 : Int)) = ((U / v1 : Nat) : Int) := by
    rw [Base.tdiv_nn _ _ (by omega), ← Int.natCast_ediv]
    have : U / v1 ≤ U := Nat.div_le_self _ _
    exact Base.wu64_in _ (Int.natCast_nonneg _) (by omega)
  have hm : U / v1 * v1 + U % v1 = U := by rw [Nat.mul_comm]; exact Nat.div_add_mod U v1
  have hlt : U % v1 < v1 := Nat.mod_lt _ (by omega)
  have hrh : IntKind.u64.wrap ((U : Int) - IntKind.u64.wrap (((U / v1 : Nat) : Int) * (v1 : Int))) = ((U % v1 : Nat) : Int) := by
    rw [← Int.natCast_mul, Base.wu64_in (((U / v1 * v1 : Nat)) : Int) (by omega) (by omega), Base.wu64_in _ (by omega) (by omega)]
    omega
  have hyv : Y = v1 * 4294967296 + v0 := by omega
  rw [hq, hrh]
  have hfirst := first Y s v1 v0 U d1 d0 hyv (by omega) (by omega) (by omega) (by omega) (by omega) hUY hs 2 (U / v1) (U % v1) (by omega) hm (by
    rcases Digit.guess (u := U) (d := d1) hyv (by omega : 0 < v1) with h | h
    · exact h
    · omega) (Digit.guess_max hyv (by omega) (by omega) hUY) (by omega) k (by omega)
  rw [hfirst]
  obtain ⟨t1, t2⟩ := Digit.two (u := U) (d1 := d1) (d0 := d0) (y := Y) (by omega)
  rw [hd1, hd0, ← hsum] at t1 t2
  rw [hd.1] at t1
  rw [hd1, hd0] 
  rw [← t1, ← t2, hd.2]

/-! ### Quotients of products -/
theorem divide_nat (a b c : Nat) (ha : a < 18446744073709551616) (hb : b < 18446744073709551616) (hc : c < 18446744073709551616) (k : Nat) (hk : 20 ≤ k) :
    arith_divide.f k (a : Int) (b : Int) (c : Int) = if a * b / 18446744073709551616 < c then some (((a * b / c : Nat) : Int), ((a * b % c : Nat) : Int), true) else some (0, 0, false) := by
  unfold arith_divide.f
  rw [mul64_nat a b ha hb, Option.bind_some]
  by_cases h0 : c = 0
  · subst h0
    rw [if_pos (by rfl), if_neg (by omega)]
  rw [if_neg (by omega)]
  by_cases h : a * b / 18446744073709551616 < c
  · rw [if_neg (by omega), if_pos h, div64_nat _ _ _ h (Nat.mod_lt _ (by decide)) hc k hk, Option.bind_some, Nat.mul_comm (a * b / 18446744073709551616), Nat.div_add_mod]
  · rw [if_pos (by omega), if_neg h]
theorem quot_lt (N c : Nat) (h : N / 18446744073709551616 < c) : N / c < 18446744073709551616 := by
  rw [Nat.div_lt_iff_lt_mul (by omega)]
  rw [Nat.div_lt_iff_lt_mul (by decide)] at h
  rw [Nat.mul_comm]; exact h
theorem down_nat (a b c : Nat) (ha : a < 18446744073709551616) (hb : b < 18446744073709551616) (hc : c < 18446744073709551616) (k : Nat) (hk : 20 ≤ k) :
    arith_Down.f k (a : Int) (b : Int) (c : Int) = if a * b / 18446744073709551616 < c then some (((a * b / c : Nat) : Int), true) else some (0, false) := by
  unfold arith_Down.f
  rw [divide_nat a b c ha hb hc k hk]
  by_cases h : a * b / 18446744073709551616 < c
  · rw [if_pos h, if_pos h, Option.bind_some]
  · rw [if_neg h, if_neg h, Option.bind_some]
/-- The quotient to the next whole number up. -/
def upq (N c : Nat) : Nat := if N % c = 0 then N / c else N / c + 1
theorem up_nat (a b c : Nat) (ha : a < 18446744073709551616) (hb : b < 18446744073709551616) (hc : c < 18446744073709551616) (k : Nat) (hk : 20 ≤ k) :
    arith_Up.f k (a : Int) (b : Int) (c : Int) = if a * b / 18446744073709551616 < c ∧ upq (a * b) c < 18446744073709551616 then some (((upq (a * b) c : Nat) : Int), true) else some (0, false) := by
  unfold arith_Up.f
  rw [divide_nat a b c ha hb hc k hk]
  obtain ⟨k, rfl⟩ : ∃ j, k = j + 1 := ⟨k - 1, by omega⟩
  by_cases h : a * b / 18446744073709551616 < c
  · rw [if_pos h, Option.bind_some, if_pos rfl]
    have hq := quot_lt (a * b) c h
    obtain ⟨q, hq'⟩ : ∃ q, q = a * b / c := ⟨_, rfl⟩
    unfold upq
    rw [← hq'] at hq ⊢
    by_cases hr : a * b % c = 0
    · rw [hr, if_neg (fun x : (((0 : Nat) : Int)) > 0 => by omega), if_pos rfl, if_pos ⟨h, hq⟩, arith_Up.j0, if_neg (by decide), if_neg (fun x : (((0 : Nat) : Int)) > 0 => by omega)]
    · rw [if_pos (show ((a * b % c : Nat) : Int) > 0 from by omega), if_neg hr, arith_Up.j0]
      by_cases hm : q = 18446744073709551615
      · rw [if_pos (by rw [hm]; rfl), if_neg (by omega)]
      · rw [if_neg (by rw [beq_iff_eq]; omega), if_pos (show ((a * b % c : Nat) : Int) > 0 from by omega), if_pos ⟨h, by omega⟩, Base.wu64_in _ (by omega) (by omega)]
        rfl
  · rw [if_neg h, Option.bind_some, if_neg (by decide), arith_Up.j0, if_pos rfl, if_neg (fun x => h x.1)]
theorem fit_true (k : Nat) (hk : 20 ≤ k) : weighbridgelaw01_fit.f k = some true := by
  have h1 := up_nat 1 1 2 (by decide) (by decide) (by decide) k hk
  have h2 := down_nat 9223372036854775808 4 2 (by decide) (by decide) (by decide) k hk
  rw [if_pos (by decide), show upq (1 * 1) 2 = 1 from by decide] at h1
  rw [if_neg (by decide)] at h2
  have h1' : arith_Up.f k 1 1 2 = some (1, true) := h1
  have h2' : arith_Down.f k 9223372036854775808 4 2 = some (0, false) := h2
  unfold weighbridgelaw01_fit.f
  rw [h1', Option.bind_some, h2', Option.bind_some]
  rfl

theorem ArithParts : weighbridgelaw01_ArithParts.Pure := by
  intro x y z hx hy hz
  obtain ⟨hx0, hx1⟩ := Base.wf_u64 hx
  obtain ⟨hy0, hy1⟩ := Base.wf_u64 hy
  obtain ⟨hz0, hz1⟩ := Base.wf_u32 hz
  obtain ⟨a, ha⟩ : ∃ a : Nat, (a : Int) = x / 4294967296 := ⟨(x / 4294967296).toNat, by omega⟩
  obtain ⟨b, hb⟩ : ∃ b : Nat, (b : Int) = y / 4294967296 := ⟨(y / 4294967296).toNat, by omega⟩
  obtain ⟨d, hd⟩ : ∃ d : Nat, (d : Int) = z + 1 := ⟨(z + 1).toNat, by omega⟩
  have hw : IntKind.u64.wrap (IntKind.u64.wrap z + 1) = (d : Int) := by
    rw [Base.wu64_in z (by omega) (by omega), Base.wu64_in _ (by omega) (by omega), hd]
  have hmx : mx (b : Int) 1 = ((max b 1 : Nat) : Int) := by unfold mx; split <;> omega
  have hab : a * b ≤ 4294967295 * 4294967295 := Nat.mul_le_mul (by omega) (by omega)
  refine ⟨30, ?_⟩
  unfold weighbridgelaw01_ArithParts.f
  rw [fit_true 30 (by decide), Option.bind_some, if_pos rfl, ← ha, ← hb, hw, hmx]
  rw [down_nat a b d (by omega) (by omega) (by omega) 30 (by decide), up_nat a b d (by omega) (by omega) (by omega) 30 (by decide), down_nat a b (max b 1) (by omega) (by omega) (by omega) 30 (by decide)]
  have hN : ((a : Int) * (b : Int)) = ((a * b : Nat) : Int) := (Int.natCast_mul a b).symm
  rw [hN]
  have hback : b ≠ 0 → a * b / max b 1 = a := fun h => by rw [Nat.max_eq_left (by omega), Nat.mul_div_cancel a (by omega)]
  have h0 : a * b / 18446744073709551616 = 0 := Nat.div_eq_of_lt (by omega)
  have hq : a * b / d ≤ a * b := Nat.div_le_self _ _
  have hup : upq (a * b) d < 18446744073709551616 := by unfold upq; split <;> omega
  rw [if_pos (by omega), if_pos ⟨by omega, hup⟩, if_pos (by omega), Option.bind_some, Option.bind_some, Option.bind_some]
  dsimp only
  rw [if_pos rfl, if_pos rfl]
  have h1 := Nat.div_add_mod (a * b) d
  have h2 := Nat.mod_lt (a * b) (show d > 0 by omega)
  have hm : ((a * b / d : Nat) : Int) * (d : Int) = ((d * (a * b / d) : Nat) : Int) := by rw [Nat.mul_comm d, Int.natCast_mul]
  rw [hm]
  have hqq : (((upq (a * b) d : Nat) : Int) == ((a * b / d : Nat) : Int)) = (((d * (a * b / d) : Nat) : Int) == ((a * b : Nat) : Int)) := by
    rw [Bool.eq_iff_iff, beq_iff_eq, beq_iff_eq]
    unfold upq
    obtain ⟨P, hP⟩ : ∃ P, P = d * (a * b / d) := ⟨_, rfl⟩
    obtain ⟨r, hr⟩ : ∃ r, r = a * b % d := ⟨_, rfl⟩
    obtain ⟨q, hq'⟩ : ∃ q, q = a * b / d := ⟨_, rfl⟩
    obtain ⟨M, hM⟩ : ∃ M, M = a * b := ⟨_, rfl⟩
    rw [← hP, ← hr, ← hM] at h1
    rw [← hP, ← hr, ← hq', ← hM]
    split <;> omega
  have hw1 : IntKind.u64.wrap ((d * (a * b / d) : Nat) : Int) = ((d * (a * b / d) : Nat) : Int) := Base.wu64_in _ (by omega) (by omega)
  have hw2 : IntKind.u64.wrap ((a * b : Nat) : Int) = ((a * b : Nat) : Int) := Base.wu64_in _ (by omega) (by omega)
  rw [hw1, hw2, if_pos (by omega), Base.wu64_in _ (by omega) (by omega), if_pos (by omega), hqq, if_pos (beq_self_eq_true _), if_pos rfl]
  by_cases hb0 : b = 0
  · rw [if_pos (by omega)]
  · rw [if_neg (by omega), hback hb0, beq_self_eq_true]

end Go.Proofs.Ytebgkamefapfcaa.Pure
