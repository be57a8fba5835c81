/- Proved: twice a number is it and itself; sixty-one times doubled it is itself. For every input; no condition. -/
import Derived.Test.YtdeonoekalicjaaPFieldDoublesx1
import Derived.Test.YtdeonoekalicjaaBase
import Derived.Test.YtdeonoekalicjaaNum
namespace Go.Proofs.Ytdeonoekalicjaa.Pure
open Go Go.RowKit Go.Proofs.Ytdeonoekalicjaa Go.Proofs.Ytdeonoekalicjaa.PFieldDoubles Go.Proofs.YtdeonoekalicjaaW.PrintWords Go.Proofs.YtdeonoekalicjaaW.PrintLast 
/-! ### The field's functions, on numbers from 0 on -/
theorem of_nat (x : Nat) (h : x < 18446744073709551616) : field_Of.f (x : Int) = some ((x % Num.P : Nat) : Int) := by
  unfold field_Of.f Num.P
  rw [Base.and_u64 61 (by decide) (x : Int) _ (by decide), Base.wu64_in _ (by omega) (by omega)]
  split
  · rw [Base.wu64_in _ (by omega) (by omega)]; congr 1; omega
  · congr 1; omega
theorem add_nat (a b : Nat) (ha : a < Num.P) (hb : b < Num.P) : field_Add.f (a : Int) (b : Int) = some (((a + b) % Num.P : Nat) : Int) := by
  unfold field_Add.f
  unfold Num.P at ha hb
  rw [Base.wu64_in _ (by omega) (by omega), ← Int.natCast_add, of_nat _ (by omega)]; rw [Option.bind_some]
theorem mul64_nat (a b : Nat) (ha : a < 18446744073709551616) (hb : b < 18446744073709551616) : bits_Mul64.f (a : Int) (b : Int) = some (((a * b / 18446744073709551616 : Nat) : Int), ((a * b % 18446744073709551616 : Nat) : Int)) := by
  obtain ⟨p00, h00⟩ : ∃ p, p = ((a : Int) % 4294967296) * ((b : Int) % 4294967296) := ⟨_, rfl⟩
  obtain ⟨p01, h01⟩ : ∃ p, p = ((a : Int) % 4294967296) * ((b : Int) / 4294967296) := ⟨_, rfl⟩
  obtain ⟨p10, h10⟩ : ∃ p, p = ((a : Int) / 4294967296) * ((b : Int) % 4294967296) := ⟨_, rfl⟩
  obtain ⟨p11, h11⟩ : ∃ p, p = ((a : Int) / 4294967296) * ((b : Int) / 4294967296) := ⟨_, rfl⟩
  obtain ⟨e, b00, b01, b10, b11⟩ := Base.upper a b p00 p01 p10 p11 (by omega) (by omega) (by omega) (by omega) h00 h01 h10 h11
  have m1 : Go.bits .and .u64 (a : Int) 4294967295 = (a : Int) % 4294967296 := Base.and_u64 32 (by decide) _ _ (by decide)
  have m2 : Go.bits .and .u64 (b : Int) 4294967295 = (b : Int) % 4294967296 := Base.and_u64 32 (by decide) _ _ (by decide)
  unfold bits_Mul64.f
  rw [m1, m2, ← h00, ← h01, ← h10, ← h11]
  rw [Base.wu64_in p00 (by omega) (by omega), Base.wu64_in p01 (by omega) (by omega), Base.wu64_in p10 (by omega) (by omega), Base.wu64_in p11 (by omega) (by omega)]
  obtain ⟨t, ht⟩ : ∃ t, t = p10 + p00 / 4294967296 := ⟨_, rfl⟩
  rw [← ht, Base.wu64_in t (by omega) (by omega)]
  have m3 : Go.bits .and .u64 t 4294967295 = t % 4294967296 := Base.and_u64 32 (by decide) _ _ (by decide)
  rw [m3, Base.wu64_in (t % 4294967296 + p01) (by omega) (by omega)]
  rw [Base.wu64_in (p11 + t / 4294967296) (by omega) (by omega)]
  rw [Base.wu64, Base.wu64, e]
  have hn : ((a * b : Nat) : Int) = p11 * 18446744073709551616 + (p10 + p01) * 4294967296 + p00 := by rw [Int.natCast_mul]; exact e
  obtain ⟨N, hN⟩ : ∃ N, N = a * b := ⟨_, rfl⟩
  rw [← hN] at hn
  rw [← hN]
  have e1 : (p11 + t / 4294967296 + (t % 4294967296 + p01) / 4294967296) % 18446744073709551616 = ((N / 18446744073709551616 : Nat) : Int) := by omega
  have e2 : (p11 * 18446744073709551616 + (p10 + p01) * 4294967296 + p00) % 18446744073709551616 = ((N % 18446744073709551616 : Nat) : Int) := by omega
  rw [e1, e2]
theorem mul_nat (a b : Nat) (ha : a < Num.P) (hb : b < Num.P) : field_Mul.f (a : Int) (b : Int) = some ((a * b % Num.P : Nat) : Int) := by
  have hN : a * b ≤ 2305843009213693950 * 2305843009213693950 := by
    unfold Num.P at ha hb
    exact Nat.mul_le_mul (by omega) (by omega)
  unfold field_Mul.f
  rw [mul64_nat a b (by unfold Num.P at ha; omega) (by unfold Num.P at hb; omega)]
  generalize a * b = N at hN
  rw [Option.bind_some]
  rw [Base.wu64_in _ (by omega) (by omega), Base.or_u64 3 _ _ (by omega) (by omega) (by omega) (by omega) (by omega) (by omega)]
  have e1 : ((N / 18446744073709551616 : Nat) : Int) * 8 + ((N % 18446744073709551616 : Nat) : Int) / 2305843009213693952 = ((N / 2305843009213693952 : Nat) : Int) := by omega
  rw [e1, of_nat _ (by omega)]
  rw [Option.bind_some]
  rw [Base.and_u64 61 (by decide) _ _ (by decide), Base.tmod_nn _ _ (by omega)]
  have e2 : ((N % 18446744073709551616 : Nat) : Int) % 2 ^ 61 % 2305843009213693951 = ((N % 2305843009213693952 % Num.P : Nat) : Int) := by unfold Num.P; omega
  rw [e2, add_nat _ _ (Nat.mod_lt _ Num.P_pos) (Nat.mod_lt _ Num.P_pos)]
  rw [Option.bind_some]
  congr 2
  unfold Num.P
  omega
theorem fit_true : weighbridgelaw02_fit.f = some true := by
  have h1 := mul_nat 1152921504606846976 2 (by decide) (by decide)
  have h2 := of_nat 2305843009213693951 (by decide)
  rw [show 1152921504606846976 * 2 % Num.P = 1 from by decide] at h1
  rw [show 2305843009213693951 % Num.P = 0 from by decide] at h2
  have h1' : field_Mul.f 1152921504606846976 2 = some 1 := h1
  have h2' : field_Of.f 2305843009213693951 = some 0 := h2
  unfold weighbridgelaw02_fit.f
  rw [h1']
  rw [Option.bind_some]; simp only [if_true]
  rw [h2']
  rfl

theorem power_l (k : Nat) : ∀ (a n acc : Nat), a < Num.P → acc < Num.P → n < 2 ^ k → ∀ m, k < m → field_Power.l0 m (a : Int) (n : Int) (acc : Int) = some ((acc * a ^ n % Num.P : Nat) : Int) := by
  induction k with
  | zero =>
    intro a n acc ha hc hn m hm
    obtain ⟨m, rfl⟩ : ∃ j, m = j + 1 := ⟨m - 1, by omega⟩
    have h0 : n = 0 := by simpa using hn
    subst h0
    simp only [field_Power.l0]
    rw [if_neg (by omega), Nat.pow_zero, Nat.mul_one, Nat.mod_eq_of_lt hc]
  | succ k ih =>
    intro a n acc ha hc hn m hm
    obtain ⟨m, rfl⟩ : ∃ j, m = j + 1 := ⟨m - 1, by omega⟩
    rw [Nat.pow_succ] at hn
    simp only [field_Power.l0]
    by_cases h0 : n = 0
    · subst h0
      rw [if_neg (by omega), Nat.pow_zero, Nat.mul_one, Nat.mod_eq_of_lt hc]
    have hsq : (a * a % Num.P) ^ (n / 2) % Num.P = a ^ (2 * (n / 2)) % Num.P := by
      rw [Num.pow_mod', Nat.pow_mul, Nat.pow_two]
    have hlt : ∀ x, x % Num.P < Num.P := fun x => Nat.mod_lt _ Num.P_pos
    have hd : (n : Int) / 2 = ((n / 2 : Nat) : Int) := by omega
    rw [if_pos (by omega), Base.and_u64 1 (by decide) _ _ (by decide), hd]
    by_cases h1 : n % 2 = 1
    · rw [if_pos (by omega), mul_nat _ _ hc ha, Option.bind_some, mul_nat _ _ ha ha, Option.bind_some]
      rw [ih _ _ _ (hlt _) (hlt _) (by omega) m (by omega)]
      congr 2
      have : n = 2 * (n / 2) + 1 := by omega
      conv => rhs; rw [this, Nat.pow_succ, Nat.mul_comm (a ^ _) a, ← Nat.mul_assoc, Nat.mul_mod, ← hsq, ← Nat.mul_mod]
      rw [Nat.mul_mod, Nat.mod_mod, ← Nat.mul_mod]
    · rw [if_neg (by omega), mul_nat _ _ ha ha, Option.bind_some]
      rw [ih _ _ _ (hlt _) hc (by omega) m (by omega)]
      congr 2
      have : n = 2 * (n / 2) := by omega
      conv => rhs; rw [this, Nat.mul_mod, ← hsq, ← Nat.mul_mod]
theorem power_nat (a n : Nat) (ha : a < Num.P) (hn : n < 18446744073709551616) (m : Nat) (hm : 64 < m) : field_Power.f m (a : Int) (n : Int) = some ((a ^ n % Num.P : Nat) : Int) := by
  unfold field_Power.f
  have h := power_l 64 a n 1 ha (by decide) (by omega) m hm
  rw [Nat.one_mul] at h
  exact h

theorem rounds (a : Nat) (ha : a < Num.P) (k : Nat) (hk : 65 ≤ k) : ∀ d b, d ≤ 61 → b < Num.P → b * 2 ^ d % Num.P = a → weighbridgelaw02_FieldDoubles.l0 (d + 1 + k) (a : Int) (b : Int) (61 - d : Int) = some true := by
  intro d
  have hlt : ∀ x, x % Num.P < Num.P := fun x => Nat.mod_lt _ Num.P_pos
  induction d with
  | zero =>
    intro b _ hb e
    rw [Nat.pow_zero, Nat.mul_one, Nat.mod_eq_of_lt hb] at e
    subst e
    obtain ⟨m, hm, hm2⟩ : ∃ m, 0 + 1 + k = m + 1 ∧ 64 < m := ⟨k, by omega, by omega⟩
    have hp := power_nat 2 61 (by decide) (by decide) m hm2
    rw [show 2 ^ 61 % Num.P = 1 from by decide] at hp
    have hp' : field_Power.f m 2 61 = some 1 := hp
    have h1 := mul_nat b 1 ha (by decide)
    rw [Nat.mul_one, Nat.mod_eq_of_lt ha] at h1
    have h1' : field_Mul.f (b : Int) 1 = some (b : Int) := h1
    rw [hm]
    rw [weighbridgelaw02_FieldDoubles.l0, if_neg (by omega), if_pos rfl, hp', Option.bind_some, h1', Option.bind_some]
    simp
  | succ d ih =>
    intro b hd hb e
    rw [show d + 1 + 1 + k = (d + 1 + k) + 1 from by omega]
    have h2 := mul_nat b 2 hb (by decide)
    have h2' : field_Mul.f (b : Int) 2 = some ((b * 2 % Num.P : Nat) : Int) := h2
    have e2 : b * 2 % Num.P = (b + b) % Num.P := by rw [Nat.mul_two]
    rw [weighbridgelaw02_FieldDoubles.l0, if_pos (by omega), h2', Option.bind_some, add_nat _ _ hb hb, Option.bind_some, e2, if_pos rfl, Option.bind_some]
    rw [Base.w64_in _ (by omega) (by omega)]
    rw [show (61 - ((d + 1 : Nat) : Int) + 1) = 61 - (d : Int) from by omega]
    refine ih _ (by omega) (hlt _) ?_
    rw [Nat.mul_mod, Nat.mod_mod, ← Nat.mul_mod, ← e, ← Nat.mul_two, Nat.pow_succ, Nat.mul_assoc, Nat.mul_comm 2]

theorem FieldDoubles : weighbridgelaw02_FieldDoubles.Pure := by
  intro x hx
  obtain ⟨hx0, hx1⟩ := Base.wf_u64 hx
  obtain ⟨a, ha⟩ : ∃ a : Nat, (a : Int) = x % 2305843009213693951 := ⟨(x % 2305843009213693951).toNat, by omega⟩
  have haP : a < Num.P := by unfold Num.P; omega
  refine ⟨61 + 1 + 65, ?_⟩
  unfold weighbridgelaw02_FieldDoubles.f
  rw [fit_true, Option.bind_some, if_pos rfl, Base.tmod_nn x _ hx0, ← ha]
  refine rounds a haP 65 (by decide) 61 a (by decide) haP ?_
  have : a * 2 ^ 61 % Num.P = (a % Num.P) * (2 ^ 61 % Num.P) % Num.P := Nat.mul_mod ..
  rw [this, show 2 ^ 61 % Num.P = 1 from by decide, Nat.mul_one, Nat.mod_mod, Nat.mod_eq_of_lt haP]

end Go.Proofs.Ytdeonoekalicjaa.Pure
