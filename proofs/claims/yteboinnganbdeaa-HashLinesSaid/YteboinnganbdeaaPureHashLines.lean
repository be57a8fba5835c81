/- Proved: two rows with the same place put a key's numbers on a line. For every input; no condition. -/
import Derived.Test.YteboinnganbdeaaQHashLinesx3
import Derived.Test.YteboinnganbdeaaBase
import Derived.Test.YteboinnganbdeaaNum
import Derived.Test.YteboinnganbdeaaDigit
import Derived.Test.YteboinnganbdeaaBits
namespace Go.Proofs.Yteboinnganbdeaa.Pure
open Go Go.RowKit Go.Proofs.Yteboinnganbdeaa Go.Proofs.Yteboinnganbdeaa.QHashLines Go.Proofs.YteboinnganbdeaaW.PrintWords Go.Proofs.YteboinnganbdeaaW.PrintLast Go.Proofs.YteboinnganbdeaaW.PrintMore
/-! ### The field's functions, on numbers from 0 on -/
theorem of_nat (x : Nat) (h : x < 18446744073709551616) : field_Of.f (x : Int) = some ((x % Num.P : Nat) : Int) := by
  unfold field_Of.f Num.P
  rw [Base.and_u64 61 (by decide) (x : Int) _ (by decide), Base.wu64_in _ (by omega) (by omega)]
  split
  · rw [Base.wu64_in _ (by omega) (by omega)]; congr 1; omega
  · congr 1; omega
theorem add_nat (a b : Nat) (ha : a < Num.P) (hb : b < Num.P) : field_Add.f (a : Int) (b : Int) = some (((a + b) % Num.P : Nat) : Int) := by
  unfold field_Add.f
  unfold Num.P at ha hb
  rw [Base.wu64_in _ (by omega) (by omega), ← Int.natCast_add, of_nat _ (by omega)]; rw [Option.bind_some]

theorem mul64_nat (a b : Nat) (ha : a < 18446744073709551616) (hb : b < 18446744073709551616) : bits_Mul64.f (a : Int) (b : Int) = some (((a * b / 18446744073709551616 : Nat) : Int), ((a * b % 18446744073709551616 : Nat) : Int)) := by
  obtain ⟨p00, h00⟩ : ∃ p, p = ((a : Int) % 4294967296) * ((b : Int) % 4294967296) := ⟨_, rfl⟩
  obtain ⟨p01, h01⟩ : ∃ p, p = ((a : Int) % 4294967296) * ((b : Int) / 4294967296) := ⟨_, rfl⟩
  obtain ⟨p10, h10⟩ : ∃ p, p = ((a : Int) / 4294967296) * ((b : Int) % 4294967296) := ⟨_, rfl⟩
  obtain ⟨p11, h11⟩ : ∃ p, p = ((a : Int) / 4294967296) * ((b : Int) / 4294967296) := ⟨_, rfl⟩
  obtain ⟨e, b00, b01, b10, b11⟩ := Base.upper a b p00 p01 p10 p11 (by omega) (by omega) (by omega) (by omega) h00 h01 h10 h11
  have m1 : Go.bits .and .u64 (a : Int) 4294967295 = (a : Int) % 4294967296 := Base.and_u64 32 (by decide) _ _ (by decide)
  have m2 : Go.bits .and .u64 (b : Int) 4294967295 = (b : Int) % 4294967296 := Base.and_u64 32 (by decide) _ _ (by decide)
  unfold bits_Mul64.f
  rw [m1, m2, ← h00, ← h01, ← h10, ← h11]
  rw [Base.wu64_in p00 (by omega) (by omega), Base.wu64_in p01 (by omega) (by omega), Base.wu64_in p10 (by omega) (by omega), Base.wu64_in p11 (by omega) (by omega)]
  obtain ⟨t, ht⟩ : ∃ t, t = p10 + p00 / 4294967296 := ⟨_, rfl⟩
  rw [← ht, Base.wu64_in t (by omega) (by omega)]
  have m3 : Go.bits .and .u64 t 4294967295 = t % 4294967296 := Base.and_u64 32 (by decide) _ _ (by decide)
  rw [m3, Base.wu64_in (t % 4294967296 + p01) (by omega) (by omega)]
  rw [Base.wu64_in (p11 + t / 4294967296) (by omega) (by omega)]
  rw [Base.wu64, Base.wu64, e]
  have hn : ((a * b : Nat) : Int) = p11 * 18446744073709551616 + (p10 + p01) * 4294967296 + p00 := by rw [Int.natCast_mul]; exact e
  obtain ⟨N, hN⟩ : ∃ N, N = a * b := ⟨_, rfl⟩
  rw [← hN] at hn
  rw [← hN]
  have e1 : (p11 + t / 4294967296 + (t % 4294967296 + p01) / 4294967296) % 18446744073709551616 = ((N / 18446744073709551616 : Nat) : Int) := by omega
  have e2 : (p11 * 18446744073709551616 + (p10 + p01) * 4294967296 + p00) % 18446744073709551616 = ((N % 18446744073709551616 : Nat) : Int) := by omega
  rw [e1, e2]

theorem mul_nat (a b : Nat) (ha : a < Num.P) (hb : b < Num.P) : field_Mul.f (a : Int) (b : Int) = some ((a * b % Num.P : Nat) : Int) := by
  have hN : a * b ≤ 2305843009213693950 * 2305843009213693950 := by
    unfold Num.P at ha hb
    exact Nat.mul_le_mul (by omega) (by omega)
  unfold field_Mul.f
  rw [mul64_nat a b (by unfold Num.P at ha; omega) (by unfold Num.P at hb; omega)]
  generalize a * b = N at hN
  rw [Option.bind_some]
  rw [Base.wu64_in _ (by omega) (by omega), Base.or_u64 3 _ _ (by omega) (by omega) (by omega) (by omega) (by omega) (by omega)]
  have e1 : ((N / 18446744073709551616 : Nat) : Int) * 8 + ((N % 18446744073709551616 : Nat) : Int) / 2305843009213693952 = ((N / 2305843009213693952 : Nat) : Int) := by omega
  rw [e1, of_nat _ (by omega)]
  rw [Option.bind_some]
  rw [Base.and_u64 61 (by decide) _ _ (by decide), Base.tmod_nn _ _ (by omega)]
  have e2 : ((N % 18446744073709551616 : Nat) : Int) % 2 ^ 61 % 2305843009213693951 = ((N % 2305843009213693952 % Num.P : Nat) : Int) := by unfold Num.P; omega
  rw [e2, add_nat _ _ (Nat.mod_lt _ Num.P_pos) (Nat.mod_lt _ Num.P_pos)]
  rw [Option.bind_some]
  congr 2
  unfold Num.P
  omega

/-! ### The document's functions -/
theorem refmul_l (a b : Nat) (ha : a < Num.P) : ∀ d : Nat, d ≤ 61 → ∀ acc : Nat, acc = a * (b / 2 ^ d) % Num.P → ∀ m, d < m → weighbridgeref02_Mul.l0 m (a : Int) (b : Int) (acc : Int) ((d : Int) - 1) = some ((a * b % Num.P : Nat) : Int) := by
  intro d
  have hlt : ∀ x, x % Num.P < Num.P := fun x => Nat.mod_lt _ Num.P_pos
  induction d with
  | zero =>
    intro _ acc e m hm
    obtain ⟨m, rfl⟩ : ∃ j, m = j + 1 := ⟨m - 1, by omega⟩
    rw [Nat.pow_zero, Nat.div_one] at e
    rw [weighbridgeref02_Mul.l0, if_neg (by omega), e]
  | succ d ih =>
    intro hd acc e m hm
    obtain ⟨m, rfl⟩ : ∃ j, m = j + 1 := ⟨m - 1, by omega⟩
    have hacc : acc < Num.P := by rw [e]; exact hlt _
    have hx : ((d + 1 : Nat) : Int) - 1 = (d : Int) := by omega
    obtain ⟨q, hq⟩ : ∃ q, q = b / 2 ^ d := ⟨_, rfl⟩
    have hq2 : b / 2 ^ (d + 1) = q / 2 := by rw [hq, Nat.pow_succ, Nat.div_div_eq_div_mul]
    rw [hq2] at e
    have hs : shr .u64 (b : Int) (d : Int) = (q : Int) := by
      rw [Base.shr_u64 _ d (by omega), hq, Int.natCast_ediv, Int.natCast_pow]; rfl
    have h2 : Int.tmod (IntKind.u64.wrap ((acc : Int) * 2)) 2305843009213693951 = ((acc * 2 % Num.P : Nat) : Int) := by
      unfold Num.P at hacc ⊢
      rw [Base.wu64_in _ (by omega) (by omega), Base.tmod_nn _ _ (by omega)]; omega
    have h3 : Int.tmod (IntKind.u64.wrap (((acc * 2 % Num.P : Nat) : Int) + (a : Int))) 2305843009213693951 = (((acc * 2 % Num.P + a) % Num.P : Nat) : Int) := by
      have := hlt (acc * 2)
      unfold Num.P at ha this ⊢
      rw [Base.wu64_in _ (by omega) (by omega), Base.tmod_nn _ _ (by omega)]; omega
    rw [weighbridgeref02_Mul.l0, hx, if_pos (by omega), Base.wu64_in (d : Int) (by omega) (by omega), if_pos (by omega), hs, Base.and_u64 1 (by decide) _ _ (by decide), h2, h3, Base.w64_in _ (by omega) (by omega)]
    have e1 : a * q = a * (q / 2) * 2 + a * (q % 2) := by
      rw [Nat.mul_assoc, ← Nat.mul_add, Nat.mul_comm (q / 2) 2, Nat.div_add_mod]
    by_cases hb : q % 2 = 1
    · rw [if_pos (by omega)]
      refine ih (by omega) _ ?_ m (by omega)
      rw [← hq, e1, hb, Nat.mul_one, e, Nat.add_mod, Nat.mod_mod, ← Nat.add_mod]
      rw [Nat.add_mod, Nat.mul_mod, Nat.mod_mod, ← Nat.mul_mod, ← Nat.add_mod]
    · rw [if_neg (by omega)]
      refine ih (by omega) _ ?_ m (by omega)
      have hb0 : q % 2 = 0 := by omega
      rw [← hq, e1, hb0, Nat.mul_zero, Nat.add_zero, e, Nat.mul_mod, Nat.mod_mod, ← Nat.mul_mod]
theorem refmul_nat (a b : Nat) (ha : a < Num.P) (hb : b < Num.P) (m : Nat) (hm : 61 < m) : weighbridgeref02_Mul.f m (a : Int) (b : Int) = some ((a * b % Num.P : Nat) : Int) := by
  unfold weighbridgeref02_Mul.f
  refine refmul_l a b ha 61 (by decide) 0 ?_ m hm
  have : b / 2 ^ 61 = 0 := Nat.div_eq_of_lt (by unfold Num.P at hb; omega)
  rw [this, Nat.mul_zero, Nat.zero_mod]

/-! ### A key's number -/
/-- The first i bytes as a number. -/
def wv (s : ByteArray) : Nat → Nat
  | 0 => 0
  | i + 1 => wv s i * 256 + (bt s (i : Int)).toNat
theorem wv_lt (s : ByteArray) : ∀ i, wv s i < 256 ^ i
  | 0 => by rw [wv]; decide
  | i + 1 => by
    have := wv_lt s i
    have h := bt_range s (i : Int)
    rw [wv, Nat.pow_succ]; omega
theorem word_l (s : ByteArray) (hs : s.size ≤ 7) : ∀ d i : Nat, i + d = s.size → ∀ k, d < k → hash_word.l0 k s (wv s i : Int) (s.size : Int) (i : Int) = some (wv s s.size : Int) := by
  intro d
  induction d with
  | zero =>
    intro i hi k hk
    obtain ⟨k, rfl⟩ : ∃ j, k = j + 1 := ⟨k - 1, by omega⟩
    have : i = s.size := by omega
    subst this
    rw [hash_word.l0, if_neg (by omega)]
  | succ d ih =>
    intro i hi k hk
    obtain ⟨k, rfl⟩ : ∃ j, k = j + 1 := ⟨k - 1, by omega⟩
    have h1 := wv_lt s i
    have h2 : 256 ^ i ≤ 256 ^ 6 := Nat.pow_le_pow_right (by decide) (by omega)
    have h3 := bt_range s (i : Int)
    have h4 : wv s i < 281474976710656 := Nat.lt_of_lt_of_le h1 h2
    have e : Go.bits .or .u64 (IntKind.u64.wrap ((wv s i : Int) * 256)) (IntKind.u64.wrap (bt s (i : Int))) = (wv s (i + 1) : Int) := by
      rw [Base.wu64_in _ (by omega) (by omega), Base.wu64_in _ (by omega) (by omega), Base.or_u64 8 _ _ (by omega) (by omega) (by omega) (by omega) (by omega) (by omega), wv]; omega
    rw [hash_word.l0, if_pos (by omega), if_pos (by omega), if_pos (by omega), e, Base.w64_in _ (by omega) (by omega)]
    exact ih (i + 1) (by omega) k (by omega)
theorem word_nat (s : ByteArray) (hs : s.size ≤ 7) (k : Nat) (hk : 7 < k) : hash_word.f k s = some (wv s s.size : Int) := by
  unfold hash_word.f
  exact word_l s hs s.size 0 (by omega) k (by omega)
theorem word_P (s : ByteArray) (hs : s.size ≤ 7) : wv s s.size < Num.P := by
  have h1 := wv_lt s s.size
  have h2 : 256 ^ s.size ≤ 256 ^ 7 := Nat.pow_le_pow_right (by decide) hs
  have h3 : 256 ^ 7 < Num.P := by decide
  omega
theorem line_nat (a b h : Nat) (hh : h < Num.P) (ha : a < Num.P) (hb : b < Num.P) : ((field_Mul.f (h : Int) (a : Int)).bind fun t => ((field_Add.f t (b : Int)).bind fun t => (some t))) = some (((h * a % Num.P + b) % Num.P : Nat) : Int) := by
  rw [mul_nat h a hh ha, Option.bind_some, add_nat _ b (Nat.mod_lt _ Num.P_pos) hb, Option.bind_some]
/-- From any place on: one number below the prime, of which the answer is the line's. -/
theorem of_l (s : ByteArray) (hs : s.size ≤ 140737488351232) (x : Nat) (hx : x < Num.P) : ∀ d i h : Nat, s.size ≤ i + 7 * d → i ≤ s.size + 7 → h < Num.P →
    ∃ z : Nat, z < Num.P ∧ ∀ a b : Nat, a < Num.P → b < Num.P → ∀ k, d + 8 < k → hash_Row_Of.l0 k s (h : Int) (i : Int) (x : Int) (a : Int) (b : Int) = some (((z * a % Num.P + b) % Num.P : Nat) : Int) := by
  intro d
  induction d with
  | zero =>
    intro i h hi _ hh
    refine ⟨h, hh, fun a b ha hb k hk => ?_⟩
    obtain ⟨k, rfl⟩ : ∃ j, k = j + 1 := ⟨k - 1, by omega⟩
    rw [hash_Row_Of.l0, if_neg (by omega)]
    exact line_nat a b h hh ha hb
  | succ d ih =>
    intro i h hi hi2 hh
    by_cases c : i < s.size
    · obtain ⟨e, he⟩ : ∃ e : Nat, e = min (i + 7) s.size := ⟨_, rfl⟩
      have hm : mn (wrap64 ((i : Int) + 7)) (s.size : Int) = (e : Int) := by
        rw [Base.w64_in _ (by omega) (by omega)]; unfold mn; split <;> omega
      have hsz : (s.extract i e).size ≤ 7 := by rw [ByteArray.size_extract]; omega
      obtain ⟨z, hz, hall⟩ := ih (i + 7) ((h * x % Num.P + wv (s.extract i e) (s.extract i e).size) % Num.P) (by omega) (by omega) (Nat.mod_lt _ Num.P_pos)
      refine ⟨z, hz, fun a b ha hb k hk => ?_⟩
      obtain ⟨k, rfl⟩ : ∃ j, k = j + 1 := ⟨k - 1, by omega⟩
      rw [hash_Row_Of.l0, if_pos (by omega), mul_nat h x hh hx, Option.bind_some, if_pos (by omega), hm, if_pos (by omega), if_pos (by omega), Int.toNat_natCast, Int.toNat_natCast, word_nat _ hsz k (by omega), Option.bind_some, add_nat _ _ (Nat.mod_lt _ Num.P_pos) (word_P _ hsz), Option.bind_some, Base.w64_in _ (by omega) (by omega)]
      exact hall a b ha hb k (by omega)
    · refine ⟨h, hh, fun a b ha hb k hk => ?_⟩
      obtain ⟨k, rfl⟩ : ∃ j, k = j + 1 := ⟨k - 1, by omega⟩
      rw [hash_Row_Of.l0, if_neg (by omega)]
      exact line_nat a b h hh ha hb
/-- A key's number is on the line of a number below the prime that hangs on the polynomial's place alone. -/
theorem of_key (s : ByteArray) (hs : s.size ≤ 140737488351232) (x : Nat) (hx : x < Num.P) :
    ∃ z : Nat, z < Num.P ∧ ∀ a b : Nat, a < Num.P → b < Num.P → ∀ k, s.size + 8 < k → hash_Row_Of.f k (x : Int) (a : Int) (b : Int) s = some (((z * a % Num.P + b) % Num.P : Nat) : Int) := by
  obtain ⟨z, hz, h⟩ := of_l s hs x hx s.size 0 (s.size + 1) (by omega) (by omega) (by unfold Num.P; omega)
  refine ⟨z, hz, fun a b ha hb k hk => ?_⟩
  unfold hash_Row_Of.f
  rw [Base.wu64_in (s.size : Int) (by omega) (by omega), Base.wu64_in _ (by omega) (by omega)]
  exact h a b ha hb k (by omega)

/-- The number of a key of up to seven bytes. -/
theorem of_short (s : ByteArray) (hs : s.size ≤ 7) (x a b : Nat) (hx : x < Num.P) (ha : a < Num.P) (hb : b < Num.P) (k : Nat) (hk : 20 < k) :
    hash_Row_Of.f k (x : Int) (a : Int) (b : Int) s = some ((((if s.size = 0 then 1 else ((s.size + 1) * x % Num.P + wv s s.size) % Num.P) * a % Num.P + b) % Num.P : Nat) : Int) := by
  unfold hash_Row_Of.f
  rw [Base.wu64_in (s.size : Int) (by omega) (by omega), Base.wu64_in _ (by omega) (by omega)]
  obtain ⟨k, rfl⟩ : ∃ j, k = j + 1 + 1 := ⟨k - 2, by omega⟩
  by_cases h0 : s.size = 0
  · rw [if_pos h0, hash_Row_Of.l0, if_neg (by omega), h0]
    exact line_nat a b 1 (by decide) ha hb
  · rw [if_neg h0]
    have hm : mn (wrap64 (0 + 7)) (s.size : Int) = (s.size : Int) := by
      rw [Base.w64_in _ (by omega) (by omega)]; unfold mn; split <;> omega
    have he : s.extract (0 : Int).toNat ((s.size : Int)).toNat = s := by
      rw [Int.toNat_natCast]; exact ByteArray.extract_zero_size
    rw [hash_Row_Of.l0, if_pos (by omega), show ((s.size : Int) + 1) = ((s.size + 1 : Nat) : Int) from rfl, mul_nat (s.size + 1) x (by unfold Num.P; omega) hx, Option.bind_some, if_pos (by omega), hm, if_pos (by omega), if_pos (by omega), he, word_nat s hs (k + 1) (by omega), Option.bind_some, add_nat _ _ (Nat.mod_lt _ Num.P_pos) (word_P s hs), Option.bind_some, Base.w64_in _ (by omega) (by omega)]
    rw [hash_Row_Of.l0, if_neg (by omega)]
    exact line_nat a b _ (Nat.mod_lt _ Num.P_pos) ha hb

theorem fit_true (k : Nat) (hk : 30 < k) : weighbridgelaw03_fit.f k = some true := by
  have hrow : hash_Rows.f k [] 1 = some [⟨1, 1, 0⟩] := by
    unfold hash_Rows.f
    obtain ⟨k, rfl⟩ : ∃ j, k = j + 1 + 1 := ⟨k - 2, by omega⟩
    have hd : ∀ i : Int, 0 ≤ i → hash_draw.f [] i = some 0 := fun i hi => by unfold hash_draw.f; rw [if_pos (by simpa using hi)]
    have hwh : ∀ i : Int, 0 ≤ i → hash_whole.f [] i = some 1 := fun i hi => by unfold hash_whole.f; rw [hd i hi, Option.bind_some]; rfl
    have h0 := of_nat 0 (by decide)
    rw [Nat.zero_mod] at h0
    have h0' : field_Of.f 0 = some 0 := h0
    rw [show mn (mx 1 0) 9 = 1 from by decide, hash_Rows.l0, if_pos (by decide), hwh _ (by decide +kernel), Option.bind_some, hwh _ (by decide +kernel), Option.bind_some, hd _ (by decide +kernel), Option.bind_some, h0', Option.bind_some, if_pos (by decide)]
    rw [hash_Rows.l0, if_neg (by decide +kernel)]
    rfl
  unfold weighbridgelaw03_fit.f
  rw [hrow, Option.bind_some, if_pos (by rfl), if_pos (by decide)]
  have h := of_short ⟨#[97]⟩ (by decide) 1 1 0 (by decide) (by decide) (by decide) k (by omega)
  have e : hash_Row_Of.f k ((rd_T28 [(⟨1, 1, 0⟩ : S28)] 0).f0) ((rd_T28 [(⟨1, 1, 0⟩ : S28)] 0).f1) ((rd_T28 [(⟨1, 1, 0⟩ : S28)] 0).f2) (⟨#[97]⟩ : ByteArray) = some 99 := h.trans (by decide +kernel)
  rw [e, Option.bind_some]
  rfl

/-! ### Division of 128 by 64 bits -/
theorem digit_lt {u d y : Nat} (hu : u < y) (hd : d < 4294967296) : (u * 4294967296 + d) / y < 4294967296 := by
  rw [Nat.div_lt_iff_lt_mul (by omega)]
  have := Nat.mul_le_mul_left 4294967296 (show u + 1 ≤ y from hu)
  omega
/-- What is left behind a digit, as the machine reckons it. -/
theorem left_of (u d y q : Nat) (hy0 : 0 < y) (hy : y < 18446744073709551616) (hq : q = (u * 4294967296 + d) / y) :
    IntKind.u64.wrap (IntKind.u64.wrap (IntKind.u64.wrap ((u : Int) * 4294967296) + (d : Int)) - IntKind.u64.wrap ((q : Int) * (y : Int))) = (((u * 4294967296 + d) % y : Nat) : Int) := by
  have h1 := Nat.div_add_mod (u * 4294967296 + d) y
  have h2 := Nat.mod_lt (u * 4294967296 + d) hy0
  rw [← hq] at h1
  rw [← Int.natCast_mul, Nat.mul_comm q y]
  obtain ⟨B, hB⟩ : ∃ B, B = y * q := ⟨_, rfl⟩
  obtain ⟨r, hr⟩ : ∃ r, r = (u * 4294967296 + d) % y := ⟨_, rfl⟩
  rw [← hB] at h1 ⊢
  rw [← hr] at h1 h2 ⊢
  simp only [Base.wu64]
  omega
/-- What the last loop and what stands behind it tell. -/
theorem second (y s v1 v0 q1 u d : Nat) (hy : y = v1 * 4294967296 + v0) (hv1 : 2147483648 ≤ v1) (hv1' : v1 < 4294967296) (hv0 : v0 < 4294967296) (hd : d < 4294967296) (hu : u < y) (hq1 : q1 < 4294967296) (hs : s ≤ 63) :
    ∀ n q rhat : Nat, 4294967296 ≤ rhat + n * v1 → q * v1 + rhat = u → (u * 4294967296 + d) / y ≤ q → q ≤ 4294967297 → rhat < 4294967296 → ∀ k, 2 * n + 2 ≤ k →
      bits_Div64.l1 k (y : Int) (s : Int) (v1 : Int) (v0 : Int) (d : Int) (q1 : Int) (rhat : Int) (u : Int) (q : Int)
        = some (((q1 * 4294967296 + (u * 4294967296 + d) / y : Nat) : Int), ((((u * 4294967296 + d) % y) / 2 ^ s : Nat) : Int)) := by
  have hy0 : 0 < y := by omega
  have hyM : y < 18446744073709551616 := by omega
  obtain ⟨Q, hQ⟩ : ∃ Q, Q = (u * 4294967296 + d) / y := ⟨_, rfl⟩
  have hQlt : Q < 4294967296 := by rw [hQ]; exact digit_lt hu hd
  have hrest := left_of u d y Q hy0 hyM hQ
  have hsh : shr .u64 (((u * 4294967296 + d) % y : Nat) : Int) (s : Int) = ((((u * 4294967296 + d) % y) / 2 ^ s : Nat) : Int) := by
    rw [Base.shr_u64 _ s (by omega), Int.natCast_ediv, Int.natCast_pow]; rfl
  have hout : IntKind.u64.wrap (IntKind.u64.wrap ((q1 : Int) * 4294967296) + (Q : Int)) = ((q1 * 4294967296 + Q : Nat) : Int) := by
    rw [Base.wu64_in (_ * _) (by omega) (by omega), Base.wu64_in _ (by omega) (by omega)]; omega
  intro n
  induction n with
  | zero => intro q rhat h1 _ _ _ h5; omega
  | succ n ih =>
    intro q rhat h1 h2 h3 h4 h5 k hk
    rw [← hQ] at h3 ⊢
    obtain ⟨k, rfl⟩ : ∃ j, k = j + 1 + 1 := ⟨k - 2, by omega⟩
    have hti := @Digit.test_iff v1 v0 u d q rhat y hy h2
    have htest : bits_Div64.l1 (k + 1 + 1) (y : Int) (s : Int) (v1 : Int) (v0 : Int) (d : Int) (q1 : Int) (rhat : Int) (u : Int) (q : Int) = bits_Div64.j4 (k + 1) (y : Int) (s : Int) (v1 : Int) (v0 : Int) (d : Int) (q1 : Int) (rhat : Int) (u : Int) (q : Int) (decide (4294967296 ≤ q ∨ u * 4294967296 + d < q * y)) := by
      rw [bits_Div64.l1]
      by_cases c : 4294967296 ≤ q
      · rw [if_pos (by omega), decide_eq_true (Or.inl c)]
      · rw [if_neg (by omega)]
        have hp : q * v0 ≤ 4294967295 * 4294967295 := Nat.mul_le_mul (by omega) (by omega)
        rw [← Int.natCast_mul]
        rw [Base.wu64_in (((q * v0 : Nat)) : Int) (by omega) (by omega), Base.wu64_in (_ * _) (by omega) (by omega), Base.wu64_in _ (by omega) (by omega)]
        congr 1
        rw [decide_eq_decide, hti]
        omega
    rw [htest, bits_Div64.j4]
    by_cases c : 4294967296 ≤ q ∨ u * 4294967296 + d < q * y
    · rw [decide_eq_true c, if_pos rfl]
      have hle : Q ≤ q - 1 := by
        rcases c with c | c
        · omega
        · rw [hQ]; exact Digit.less c
      have hq0 : 1 ≤ q := by
        rcases c with c | c
        · omega
        · rcases Nat.eq_zero_or_pos q with e | e
          · subst e; omega
          · exact e
      have h2' : (q - 1) * v1 + (rhat + v1) = u := by
        obtain ⟨p, rfl⟩ : ∃ p, q = p + 1 := ⟨q - 1, by omega⟩
        rw [Nat.add_mul] at h2; rw [Nat.add_sub_cancel]; omega
      rw [Base.wu64_in ((rhat : Int) + (v1 : Int)) (by omega) (by omega), Base.wu64_in ((q : Int) - 1) (by omega) (by omega)]
      rw [show ((q : Int) - 1) = ((q - 1 : Nat) : Int) from by omega, show ((rhat : Int) + (v1 : Int)) = ((rhat + v1 : Nat) : Int) from by omega]
      by_cases c2 : 4294967296 ≤ rhat + v1
      · rw [if_pos (by omega), if_pos (by omega)]
        have hti2 := @Digit.test_iff v1 v0 u d (q - 1) (rhat + v1) y hy h2'
        have hp : (q - 1) * v0 ≤ 4294967296 * 4294967295 := Nat.mul_le_mul (by omega) (by omega)
        have hsame : q - 1 = Q := by
          rw [hQ]; refine Digit.same hy0 (by rw [← hQ]; exact hle) (Nat.le_of_not_lt fun h => ?_)
          have := hti2.mp h
          omega
        rw [hsame, hout, hrest, hsh]
      · rw [if_neg (by omega)]
        have := ih (q - 1) (rhat + v1) (by rw [Nat.add_mul] at h1; omega) h2' (by rw [← hQ]; exact hle) (by omega) (by omega) k (by omega)
        rw [← hQ] at this
        exact this
    · rw [decide_eq_false c, if_neg (by decide), if_pos (by omega)]
      have hsame : q = Q := by
        rw [hQ]; refine Digit.same hy0 (by rw [← hQ]; exact h3) (Nat.le_of_not_lt fun h => c (Or.inr h))
      rw [hsame, hout, hrest, hsh]
/-- What stands behind the first loop. -/
theorem middle (y s v1 v0 u d un0 Q1 : Nat) (hy : y = v1 * 4294967296 + v0) (hv1 : 2147483648 ≤ v1) (hv1' : v1 < 4294967296) (hv0 : v0 < 4294967296) (hd : d < 4294967296) (h0 : un0 < 4294967296) (hu : u < y) (hs : s ≤ 63) (hQ1 : Q1 = (u * 4294967296 + d) / y) (k : Nat) (hk : 10 ≤ k) :
    bits_Div64.j2 k (y : Int) (s : Int) (v1 : Int) (v0 : Int) (u : Int) (d : Int) (un0 : Int) (Q1 : Int)
      = some (((Q1 * 4294967296 + ((u * 4294967296 + d) % y * 4294967296 + un0) / y : Nat) : Int), (((((u * 4294967296 + d) % y * 4294967296 + un0) % y) / 2 ^ s : Nat) : Int)) := by
  have hy0 : 0 < y := by omega
  have hyM : y < 18446744073709551616 := by omega
  obtain ⟨k, rfl⟩ : ∃ j, k = j + 1 := ⟨k - 1, by omega⟩
  have hr := left_of u d y Q1 hy0 hyM hQ1
  have hQlt : Q1 < 4294967296 := by rw [hQ1]; exact digit_lt hu hd
  have hru : (u * 4294967296 + d) % y < y := Nat.mod_lt _ hy0
  rw [bits_Div64.j2, if_neg (by omega), hr]
  obtain ⟨U, hU⟩ : ∃ U, U = (u * 4294967296 + d) % y := ⟨_, rfl⟩
  rw [← hU] at hru ⊢
  have hq : IntKind.u64.wrap (Int.tdiv (U : Int) (v1 : Int)) = ((U / v1 : Nat) : Int) := by
    rw [Base.tdiv_nn _ _ (by omega), ← Int.natCast_ediv]
    have : U / v1 ≤ U := Nat.div_le_self _ _
    exact Base.wu64_in _ (Int.natCast_nonneg _) (by omega)
  have hm : U / v1 * v1 + U % v1 = U := by rw [Nat.mul_comm]; exact Nat.div_add_mod U v1
  have hlt : U % v1 < v1 := Nat.mod_lt _ (by omega)
  have hrh : IntKind.u64.wrap ((U : Int) - IntKind.u64.wrap (((U / v1 : Nat) : Int) * (v1 : Int))) = ((U % v1 : Nat) : Int) := by
    rw [← Int.natCast_mul, Base.wu64_in (((U / v1 * v1 : Nat)) : Int) (by omega) (by omega), Base.wu64_in _ (by omega) (by omega)]
    omega
  rw [hq, hrh]
  refine second y s v1 v0 Q1 U un0 hy hv1 hv1' hv0 h0 hru hQlt hs 2 (U / v1) (U % v1) (by omega) hm ?_ (Digit.guess_max hy hv0 hv1 hru) (by omega) k (by omega)
  rcases Digit.guess (u := U) (d := un0) hy (by omega : 0 < v1) with h | h
  · exact h
  · omega
theorem first (y s v1 v0 u d un0 : Nat) (hy : y = v1 * 4294967296 + v0) (hv1 : 2147483648 ≤ v1) (hv1' : v1 < 4294967296) (hv0 : v0 < 4294967296) (hd : d < 4294967296) (h0 : un0 < 4294967296) (hu : u < y) (hs : s ≤ 63) :
    ∀ n q rhat : Nat, 4294967296 ≤ rhat + n * v1 → q * v1 + rhat = u → (u * 4294967296 + d) / y ≤ q → q ≤ 4294967297 → rhat < 4294967296 → ∀ k, 2 * n + 12 ≤ k →
      bits_Div64.l0 k (y : Int) (s : Int) (v1 : Int) (v0 : Int) (u : Int) (d : Int) (un0 : Int) (q : Int) (rhat : Int)
        = some ((((u * 4294967296 + d) / y * 4294967296 + ((u * 4294967296 + d) % y * 4294967296 + un0) / y : Nat) : Int), (((((u * 4294967296 + d) % y * 4294967296 + un0) % y) / 2 ^ s : Nat) : Int)) := by
  have hy0 : 0 < y := by omega
  obtain ⟨Q, hQ⟩ : ∃ Q, Q = (u * 4294967296 + d) / y := ⟨_, rfl⟩
  have hQlt : Q < 4294967296 := by rw [hQ]; exact digit_lt hu hd
  have hmid := middle y s v1 v0 u d un0 Q hy hv1 hv1' hv0 hd h0 hu hs hQ
  intro n
  induction n with
  | zero => intro q rhat h1 _ _ _ h5; omega
  | succ n ih =>
    intro q rhat h1 h2 h3 h4 h5 k hk
    rw [← hQ] at h3 ⊢
    obtain ⟨k, rfl⟩ : ∃ j, k = j + 1 + 1 := ⟨k - 2, by omega⟩
    have hti := @Digit.test_iff v1 v0 u d q rhat y hy h2
    have htest : bits_Div64.l0 (k + 1 + 1) (y : Int) (s : Int) (v1 : Int) (v0 : Int) (u : Int) (d : Int) (un0 : Int) (q : Int) (rhat : Int) = bits_Div64.j1 (k + 1) (y : Int) (s : Int) (v1 : Int) (v0 : Int) (u : Int) (d : Int) (un0 : Int) (q : Int) (rhat : Int) (decide (4294967296 ≤ q ∨ u * 4294967296 + d < q * y)) := by
      rw [bits_Div64.l0]
      by_cases c : 4294967296 ≤ q
      · rw [if_pos (by omega), decide_eq_true (Or.inl c)]
      · rw [if_neg (by omega)]
        have hp : q * v0 ≤ 4294967295 * 4294967295 := Nat.mul_le_mul (by omega) (by omega)
        rw [← Int.natCast_mul]
        rw [Base.wu64_in (((q * v0 : Nat)) : Int) (by omega) (by omega), Base.wu64_in (_ * _) (by omega) (by omega), Base.wu64_in _ (by omega) (by omega)]
        congr 1
        rw [decide_eq_decide, hti]
        omega
    rw [htest, bits_Div64.j1]
    by_cases c : 4294967296 ≤ q ∨ u * 4294967296 + d < q * y
    · rw [decide_eq_true c, if_pos rfl]
      have hle : Q ≤ q - 1 := by
        rcases c with c | c
        · omega
        · rw [hQ]; exact Digit.less c
      have hq0 : 1 ≤ q := by
        rcases c with c | c
        · omega
        · rcases Nat.eq_zero_or_pos q with e | e
          · subst e; omega
          · exact e
      have h2' : (q - 1) * v1 + (rhat + v1) = u := by
        obtain ⟨p, rfl⟩ : ∃ p, q = p + 1 := ⟨q - 1, by omega⟩
        rw [Nat.add_mul] at h2; rw [Nat.add_sub_cancel]; omega
      rw [Base.wu64_in ((rhat : Int) + (v1 : Int)) (by omega) (by omega), Base.wu64_in ((q : Int) - 1) (by omega) (by omega)]
      rw [show ((q : Int) - 1) = ((q - 1 : Nat) : Int) from by omega, show ((rhat : Int) + (v1 : Int)) = ((rhat + v1 : Nat) : Int) from by omega]
      by_cases c2 : 4294967296 ≤ rhat + v1
      · rw [if_pos (by omega)]
        have hti2 := @Digit.test_iff v1 v0 u d (q - 1) (rhat + v1) y hy h2'
        have hp : (q - 1) * v0 ≤ 4294967296 * 4294967295 := Nat.mul_le_mul (by omega) (by omega)
        have hsame : q - 1 = Q := by
          rw [hQ]; refine Digit.same hy0 (by rw [← hQ]; exact hle) (Nat.le_of_not_lt fun h => ?_)
          have := hti2.mp h
          omega
        rw [hsame]
        exact hmid k (by omega)
      · rw [if_neg (by omega)]
        have := ih (q - 1) (rhat + v1) (by rw [Nat.add_mul] at h1; omega) h2' (by rw [← hQ]; exact hle) (by omega) (by omega) k (by omega)
        rw [← hQ] at this
        exact this
    · rw [decide_eq_false c, if_neg (by decide)]
      have hsame : q = Q := by
        rw [hQ]; refine Digit.same hy0 (by rw [← hQ]; exact h3) (Nat.le_of_not_lt fun h => c (Or.inr h))
      rw [hsame]
      exact hmid k (by omega)
theorem shifted_of (hi lo y s : Nat) : (hi * 18446744073709551616 + lo) * 2 ^ s / (y * 2 ^ s) = (hi * 18446744073709551616 + lo) / y ∧ (hi * 18446744073709551616 + lo) * 2 ^ s % (y * 2 ^ s) / 2 ^ s = (hi * 18446744073709551616 + lo) % y := Digit.shifted _ y s
theorem div64_nat (hi lo y : Nat) (hhi : hi < y) (hlo : lo < 18446744073709551616) (hy : y < 18446744073709551616) (k : Nat) (hk : 20 ≤ k) :
    bits_Div64.f k (hi : Int) (lo : Int) (y : Int) = some ((((hi * 18446744073709551616 + lo) / y : Nat) : Int), (((hi * 18446744073709551616 + lo) % y : Nat) : Int)) := by
  have hy0 : y ≠ 0 := by omega
  unfold bits_Div64.f
  rw [if_neg (by omega), if_neg (by omega)]
  by_cases h0 : hi = 0
  · subst h0
    rw [if_pos (by rfl), Base.tdiv_nn _ _ (by omega), Base.tmod_nn _ _ (by omega), Nat.zero_mul, Nat.zero_add, ← Int.natCast_ediv, ← Int.natCast_emod]
    have : lo / y ≤ lo := Nat.div_le_self _ _
    rw [Base.wu64_in _ (Int.natCast_nonneg _) (by omega)]
  rw [if_neg (by omega)]
  obtain ⟨s, hs, hbl, hn1, hn2⟩ := Bits.normal y hy hy0
  have hlz : bits_LeadingZeros64.f (y : Int) = some (s : Int) := by
    unfold bits_LeadingZeros64.f bits_Len64.f
    rw [if_pos (by omega), Option.bind_some, Int.toNat_natCast, hbl, Base.w64_in _ (by omega) (by omega)]
    congr 1; omega
  have hp : 0 < 2 ^ s := Nat.two_pow_pos s
  have hps : 2 ^ s * 2 ^ (64 - s) = 18446744073709551616 := by rw [← Nat.pow_add, show s + (64 - s) = 64 from by omega]
  rw [hlz, Option.bind_some, Base.wu64_in (s : Int) (by omega) (by omega), if_pos (by omega), Base.wu64_in (64 - (s : Int)) (by omega) (by omega), if_pos (by omega)]
  -- the divisor, shifted
  have ey : shl .u64 (y : Int) (s : Int) = ((y * 2 ^ s : Nat) : Int) := by
    rw [Base.shl_u64 _ s (by omega), Int.natCast_mul, Int.natCast_pow]
    have : ((y * 2 ^ s : Nat) : Int) = (y : Int) * 2 ^ s := by rw [Int.natCast_mul, Int.natCast_pow]; rfl
    show (y : Int) * 2 ^ s % 18446744073709551616 = (y : Int) * 2 ^ s
    rw [← this]; omega
  have eh : shl .u64 (hi : Int) (s : Int) = ((hi * 2 ^ s : Nat) : Int) := by
    have h : hi * 2 ^ s < y * 2 ^ s := Nat.mul_lt_mul_of_pos_right hhi hp
    rw [Base.shl_u64 _ s (by omega), Int.natCast_mul, Int.natCast_pow]
    have : ((hi * 2 ^ s : Nat) : Int) = (hi : Int) * 2 ^ s := by rw [Int.natCast_mul, Int.natCast_pow]; rfl
    show (hi : Int) * 2 ^ s % 18446744073709551616 = (hi : Int) * 2 ^ s
    rw [← this]; omega
  have el : shr .u64 (lo : Int) (64 - (s : Int)) = ((lo / 2 ^ (64 - s) : Nat) : Int) := by
    rw [show (64 - (s : Int)) = ((64 - s : Nat) : Int) from by omega, Base.shr_u64 _ _ (by omega), Int.natCast_ediv, Int.natCast_pow]; rfl
  have el2 : shl .u64 (lo : Int) (s : Int) = ((lo * 2 ^ s % 18446744073709551616 : Nat) : Int) := by
    rw [Base.shl_u64 _ s (by omega), Int.natCast_emod, Int.natCast_mul, Int.natCast_pow]; rfl
  have hlq : lo / 2 ^ (64 - s) < 2 ^ s := by
    rw [Nat.div_lt_iff_lt_mul (Nat.two_pow_pos _), hps]; exact hlo
  have hhs : hi * 2 ^ s + 2 ^ s ≤ y * 2 ^ s := by
    have := Nat.mul_le_mul_right (2 ^ s) (show hi + 1 ≤ y from hhi)
    rw [Nat.add_mul, Nat.one_mul] at this; exact this
  have eor : Go.bits .or .u64 ((hi * 2 ^ s : Nat) : Int) ((lo / 2 ^ (64 - s) : Nat) : Int) = ((hi * 2 ^ s + lo / 2 ^ (64 - s) : Nat) : Int) := by
    have hm : ((hi * 2 ^ s : Nat) : Int) % 2 ^ s = 0 := by
      have : ((hi * 2 ^ s % 2 ^ s : Nat) : Int) = 0 := by rw [Nat.mul_mod_left]; rfl
      rw [Int.natCast_emod, Int.natCast_pow] at this; exact this
    have hlq' : ((lo / 2 ^ (64 - s) : Nat) : Int) < 2 ^ s := by
      have : ((lo / 2 ^ (64 - s) : Nat) : Int) < ((2 ^ s : Nat) : Int) := by exact_mod_cast hlq
      rw [Int.natCast_pow] at this; exact this
    clear el el2 eh ey hps
    obtain ⟨A, hA⟩ : ∃ A, A = hi * 2 ^ s := ⟨_, rfl⟩
    obtain ⟨B, hB⟩ : ∃ B, B = lo / 2 ^ (64 - s) := ⟨_, rfl⟩
    obtain ⟨C, hC⟩ : ∃ C, C = y * 2 ^ s := ⟨_, rfl⟩
    obtain ⟨D, hD⟩ : ∃ D, D = 2 ^ s := ⟨_, rfl⟩
    rw [← hA, ← hC, ← hD] at hhs
    rw [← hB, ← hD] at hlq
    rw [← hC] at hn2
    rw [← hA] at hm ⊢
    rw [← hB] at hlq' ⊢
    rw [Base.or_u64 s _ _ (Int.natCast_nonneg _) hm (by omega) (Int.natCast_nonneg _) hlq' (by omega)]; omega
  rw [ey, eh, el, el2, eor]
  -- names
  obtain ⟨Y, hY⟩ : ∃ Y, Y = y * 2 ^ s := ⟨_, rfl⟩
  obtain ⟨U, hU⟩ : ∃ U, U = hi * 2 ^ s + lo / 2 ^ (64 - s) := ⟨_, rfl⟩
  obtain ⟨L, hL⟩ : ∃ L, L = lo * 2 ^ s % 18446744073709551616 := ⟨_, rfl⟩
  have hsum : (hi * 18446744073709551616 + lo) * 2 ^ s = U * 18446744073709551616 + L / 4294967296 * 4294967296 + L % 4294967296 := by
    have e1 : lo * 2 ^ s / 18446744073709551616 = lo / 2 ^ (64 - s) := by
      rw [← hps, Nat.mul_comm (2 ^ s), Nat.mul_div_mul_right _ _ hp]
    have e2 := Nat.div_add_mod (lo * 2 ^ s) 18446744073709551616
    rw [e1, ← hL] at e2
    rw [hU, Nat.add_mul, Nat.mul_assoc, Nat.mul_comm 18446744073709551616, ← Nat.mul_assoc, Nat.add_mul]
    generalize hi * 2 ^ s = A
    omega
  have hLlt : L < 18446744073709551616 := by rw [hL]; exact Nat.mod_lt _ (by decide)
  have hUY : U < Y := by rw [hU, hY]; omega
  have hd := shifted_of hi lo y s
  rw [← hY] at hn1 hn2 hd ⊢
  rw [← hU, ← hL]
  obtain ⟨v1, hv1⟩ : ∃ v, v = Y / 4294967296 := ⟨_, rfl⟩
  obtain ⟨v0, hv0⟩ : ∃ v, v = Y % 4294967296 := ⟨_, rfl⟩
  obtain ⟨d1, hd1⟩ : ∃ v, v = L / 4294967296 := ⟨_, rfl⟩
  obtain ⟨d0, hd0⟩ : ∃ v, v = L % 4294967296 := ⟨_, rfl⟩
  have i1 : ((Y : Nat) : Int) / 4294967296 = (v1 : Int) := by omega
  have i2 : Go.bits .and .u64 ((Y : Nat) : Int) 4294967295 = (v0 : Int) := by rw [Base.and_u64 32 (by decide) _ _ (by decide)]; omega
  have i3 : ((L : Nat) : Int) / 4294967296 = (d1 : Int) := by omega
  have i4 : Go.bits .and .u64 ((L : Nat) : Int) 4294967295 = (d0 : Int) := by rw [Base.and_u64 32 (by decide) _ _ (by decide)]; omega
  rw [i1, i2, i3, i4, if_neg (by omega)]
  have hq : IntKind.u64.wrap (Int.tdiv (U : Int) (v1 : Int)) = ((U / v1 : Nat) : Int) := by
    rw [Base.tdiv_nn _ _ (by omega), ← Int.natCast_ediv]
    have : U / v1 ≤ U := Nat.div_le_self _ _
    exact Base.wu64_in _ (Int.natCast_nonneg _) (by omega)
  have hm : U / v1 * v1 + U % v1 = U := by rw [Nat.mul_comm]; exact Nat.div_add_mod U v1
  have hlt : U % v1 < v1 := Nat.mod_lt _ (by omega)
  have hrh : IntKind.u64.wrap ((U : Int) - IntKind.u64.wrap (((U / v1 : Nat) : Int) * (v1 : Int))) = ((U % v1 : Nat) : Int) := by
    rw [← Int.natCast_mul, Base.wu64_in (((U / v1 * v1 : Nat)) : Int) (by omega) (by omega), Base.wu64_in _ (by omega) (by omega)]
    omega
  have hyv : Y = v1 * 4294967296 + v0 := by omega
  rw [hq, hrh]
  have hfirst := first Y s v1 v0 U d1 d0 hyv (by omega) (by omega) (by omega) (by omega) (by omega) hUY hs 2 (U / v1) (U % v1) (by omega) hm (by
    rcases Digit.guess (u := U) (d := d1) hyv (by omega : 0 < v1) with h | h
    · exact h
    · omega) (Digit.guess_max hyv (by omega) (by omega) hUY) (by omega) k (by omega)
  rw [hfirst]
  obtain ⟨t1, t2⟩ := Digit.two (u := U) (d1 := d1) (d0 := d0) (y := Y) (by omega)
  rw [hd1, hd0, ← hsum] at t1 t2
  rw [hd.1] at t1
  rw [hd1, hd0] 
  rw [← t1, ← t2, hd.2]

/-! ### Quotients of products -/
theorem divide_nat (a b c : Nat) (ha : a < 18446744073709551616) (hb : b < 18446744073709551616) (hc : c < 18446744073709551616) (k : Nat) (hk : 20 ≤ k) :
    arith_divide.f k (a : Int) (b : Int) (c : Int) = if a * b / 18446744073709551616 < c then some (((a * b / c : Nat) : Int), ((a * b % c : Nat) : Int), true) else some (0, 0, false) := by
  unfold arith_divide.f
  rw [mul64_nat a b ha hb, Option.bind_some]
  by_cases h0 : c = 0
  · subst h0
    rw [if_pos (by rfl), if_neg (by omega)]
  rw [if_neg (by omega)]
  by_cases h : a * b / 18446744073709551616 < c
  · rw [if_neg (by omega), if_pos h, div64_nat _ _ _ h (Nat.mod_lt _ (by decide)) hc k hk, Option.bind_some, Nat.mul_comm (a * b / 18446744073709551616), Nat.div_add_mod]
  · rw [if_pos (by omega), if_neg h]
theorem quot_lt (N c : Nat) (h : N / 18446744073709551616 < c) : N / c < 18446744073709551616 := by
  rw [Nat.div_lt_iff_lt_mul (by omega)]
  rw [Nat.div_lt_iff_lt_mul (by decide)] at h
  rw [Nat.mul_comm]; exact h
theorem down_nat (a b c : Nat) (ha : a < 18446744073709551616) (hb : b < 18446744073709551616) (hc : c < 18446744073709551616) (k : Nat) (hk : 20 ≤ k) :
    arith_Down.f k (a : Int) (b : Int) (c : Int) = if a * b / 18446744073709551616 < c then some (((a * b / c : Nat) : Int), true) else some (0, false) := by
  unfold arith_Down.f
  rw [divide_nat a b c ha hb hc k hk]
  by_cases h : a * b / 18446744073709551616 < c
  · rw [if_pos h, if_pos h, Option.bind_some]
  · rw [if_neg h, if_neg h, Option.bind_some]

/-! ### Places -/
theorem place_nat (h n : Nat) (hh : h < Num.P) (hn : 1 ≤ n) (hn2 : n < 4294967296) (k : Nat) (hk : 20 ≤ k) : hash_Place.f k (h : Int) (n : Int) = some ((h * n / Num.P : Nat) : Int) := by
  unfold hash_Place.f
  have hq : h * n / Num.P < n := by
    rw [Nat.div_lt_iff_lt_mul Num.P_pos, Nat.mul_comm]
    exact Nat.mul_lt_mul_of_pos_left hh (by omega)
  have hhi : h * n / 18446744073709551616 < Num.P := by
    rw [Nat.div_lt_iff_lt_mul (by decide)]
    have h1 : h * n ≤ Num.P * 4294967296 := Nat.mul_le_mul (by omega) (by omega)
    have h2 : Num.P * 4294967296 < Num.P * 18446744073709551616 := by decide
    omega
  have hd := down_nat h n Num.P (by unfold Num.P at hh; omega) (by omega) (by decide) k hk
  rw [if_pos hhi] at hd
  have hd' : arith_Down.f k (h : Int) (n : Int) 2305843009213693951 = some (((h * n / Num.P : Nat) : Int), true) := hd
  have h0 : (0 : Int) ≤ ((h * n / Num.P : Nat) : Int) := Int.natCast_nonneg _
  rw [if_neg (by omega), Base.wu64_in (n : Int) (by omega) (by omega), hd', Option.bind_some]
  dsimp only
  rw [Base.w64_in _ (by omega) (by omega)]
theorem place_none (h n : Int) (hn : n < 1) (k : Nat) : hash_Place.f k h n = some 0 := by
  unfold hash_Place.f; rw [if_pos hn]
theorem place_lt (h n : Nat) (hh : h < Num.P) (hn : 1 ≤ n) : h * n / Num.P < n := by
  rw [Nat.div_lt_iff_lt_mul Num.P_pos, Nat.mul_comm]
  exact Nat.mul_lt_mul_of_pos_left hh (by omega)

theorem HashLines : weighbridgelaw03_HashLines.Pure := by
  intro x a b s hx ha hb hs
  obtain ⟨hx0, hx1⟩ := Base.wf_u64 hx
  obtain ⟨ha0, ha1⟩ := Base.wf_u64 ha
  obtain ⟨hb0, hb1⟩ := Base.wf_u64 hb
  obtain ⟨X, hX⟩ : ∃ X : Nat, (X : Int) = x % 2305843009213693950 + 1 := ⟨(x % 2305843009213693950 + 1).toNat, by omega⟩
  obtain ⟨A, hA⟩ : ∃ A : Nat, (A : Int) = a % 2305843009213693950 + 1 := ⟨(a % 2305843009213693950 + 1).toNat, by omega⟩
  obtain ⟨B, hB⟩ : ∃ B : Nat, (B : Int) = b % 2305843009213693951 := ⟨(b % 2305843009213693951).toNat, by omega⟩
  have hXP : X < Num.P := by unfold Num.P; omega
  have hAP : A < Num.P := by unfold Num.P; omega
  have hBP : B < Num.P := by unfold Num.P; omega
  refine ⟨300, ?_⟩
  unfold weighbridgelaw03_HashLines.f
  rw [fit_true 300 (by decide), Option.bind_some, if_pos rfl]
  by_cases hlen : (s.size : Int) > 200
  · rw [if_pos hlen]
  obtain ⟨z, hz, hall⟩ := of_key s hs X hXP
  have h1 : hash_Row_Of.f 300 (X : Int) 1 0 s = some (((z * 1 % Num.P + 0) % Num.P : Nat) : Int) := hall 1 0 (by unfold Num.P; omega) Num.P_pos 300 (by omega)
  rw [Nat.mul_one, Nat.mod_eq_of_lt hz, Nat.add_zero, Nat.mod_eq_of_lt hz] at h1
  have h2 := hall A B hAP hBP 300 (by omega)
  have hm : z * A % Num.P < Num.P := Nat.mod_lt _ Num.P_pos
  obtain ⟨m, hme⟩ : ∃ m, m = z * A % Num.P := ⟨_, rfl⟩
  rw [← hme] at h2 hm
  have hh : (m + B) % Num.P < Num.P := Nat.mod_lt _ Num.P_pos
  have e : Int.tmod (IntKind.u64.wrap ((m : Int) + (B : Int))) 2305843009213693951 = (((m + B) % Num.P : Nat) : Int) := by
    unfold Num.P at hm hBP ⊢
    rw [Base.wu64_in _ (by omega) (by omega), Base.tmod_nn _ _ (by omega)]
    omega
  obtain ⟨h, hhe⟩ : ∃ h, h = (m + B) % Num.P := ⟨_, rfl⟩
  rw [← hhe] at h2 hh e
  have p1 : hash_Place.f 300 (h : Int) 100 = some ((h * 100 / Num.P : Nat) : Int) := place_nat h 100 hh (by decide) (by decide) 300 (by decide)
  have p2 : hash_Place.f 300 (h : Int) 1 = some ((h * 1 / Num.P : Nat) : Int) := place_nat h 1 hh (by decide) (by decide) 300 (by decide)
  rw [Nat.mul_one, Nat.div_eq_of_lt hh] at p2
  rw [if_neg hlen, Base.tmod_nn x _ hx0, Base.tmod_nn a _ ha0, Base.tmod_nn b _ hb0, Base.wu64_in _ (by omega) (by omega), Base.wu64_in _ (by omega) (by omega), ← hX, ← hA, ← hB, h2, Option.bind_some, h1, Option.bind_some, refmul_nat z A hz hAP 300 (by decide), Option.bind_some, ← hme, e, if_pos rfl]
  unfold hash_Row_Bucket.f
  rw [h2, Option.bind_some, p1, Option.bind_some, Option.bind_some, Option.bind_some, p1, Option.bind_some, if_pos rfl, Option.bind_some, p2, Option.bind_some, Option.bind_some]
  rfl

end Go.Proofs.Yteboinnganbdeaa.Pure
