/- Plain facts on whole numbers for the prime 2^61-1: each number that isn't a multiple of it has the power 1 by the prime less one (Fermat), by a primitive root and a pigeonhole. No condition beyond those stated in each theorem. -/
namespace Go.Proofs.Yteboinnganbdeaa.Num

/-- The prime 2^61-1. -/
def P : Nat := 2305843009213693951

theorem P_eq : P = 2305843009213693951 := rfl
theorem P_pos : 0 < P := by unfold P; decide

theorem pigeon : ∀ (n : Nat) (f : Nat → Nat), (∀ i, i < n → f i < n) → (∀ i j, i < n → j < n → f i = f j → i = j) → ∀ y, y < n → ∃ x, x < n ∧ f x = y
  | 0, _, _, _, y, hy => absurd hy (Nat.not_lt_zero y)
  | n + 1, f, hf, hi, y, hy => by
    have hvn : f n < n + 1 := hf n (Nat.lt_succ_self n)
    have hne : ∀ i, i < n → f i ≠ f n := fun i h e => by have := hi i n (by omega) (by omega) e; omega
    let g : Nat → Nat := fun i => if f i = n then f n else f i
    have gs : ∀ i, f i = n → g i = f n := fun i h => if_pos h
    have gn : ∀ i, f i ≠ n → g i = f i := fun i h => if_neg h
    have hg : ∀ i, i < n → g i < n := fun i h => by
      by_cases e : f i = n
      · rw [gs i e]; have := hne i h; omega
      · rw [gn i e]; have := hf i (by omega); omega
    have hgi : ∀ i j, i < n → j < n → g i = g j → i = j := fun i j h1 h2 e => by
      by_cases e1 : f i = n
      · by_cases e2 : f j = n
        · exact hi i j (by omega) (by omega) (by rw [e1, e2])
        · rw [gs i e1, gn j e2] at e; exact absurd e.symm (hne j h2)
      · by_cases e2 : f j = n
        · rw [gn i e1, gs j e2] at e; exact absurd e (hne i h1)
        · rw [gn i e1, gn j e2] at e; exact hi i j (by omega) (by omega) e
    by_cases hyv : y = f n
    · exact ⟨n, Nat.lt_succ_self n, hyv.symm⟩
    by_cases hyn : y = n
    · have hv : f n < n := by omega
      obtain ⟨x, hx, e⟩ := pigeon n g hg hgi (f n) hv
      by_cases e1 : f x = n
      · exact ⟨x, by omega, by rw [e1, hyn]⟩
      · rw [gn x e1] at e; exact absurd e (hne x hx)
    · obtain ⟨x, hx, e⟩ := pigeon n g hg hgi y (by omega)
      by_cases e1 : f x = n
      · rw [gs x e1] at e; exact absurd e.symm hyv
      · rw [gn x e1] at e; exact ⟨x, by omega, e⟩

/-- A power modulo the prime, by squaring. -/
def pm : Nat → Nat → Nat → Nat
  | 0, _, _ => 1
  | k + 1, a, n => if n % 2 = 1 then a * pm k (a * a % P) (n / 2) % P else pm k (a * a % P) (n / 2)

theorem pow_mod' (a n m : Nat) : (a % m) ^ n % m = a ^ n % m := (Nat.pow_mod a n m).symm

theorem pm_eq : ∀ (k a n : Nat), n < 2 ^ k → pm k a n % P = a ^ n % P
  | 0, a, n, h => by
    have : n = 0 := by simpa using h
    subst this; rfl
  | k + 1, a, n, h => by
    have h2 : n / 2 < 2 ^ k := by rw [Nat.pow_succ] at h; omega
    have ih := pm_eq k (a * a % P) (n / 2) h2
    have e2 : (a * a % P) ^ (n / 2) % P = a ^ (2 * (n / 2)) % P := by
      rw [pow_mod', Nat.pow_mul, Nat.pow_two]
    unfold pm
    by_cases hn : n % 2 = 1
    · rw [if_pos hn, Nat.mod_mod, Nat.mul_mod, ih, e2, ← Nat.mul_mod]
      have : n = 2 * (n / 2) + 1 := by omega
      conv => rhs; rw [this, Nat.pow_succ, Nat.mul_comm]
    · rw [if_neg hn, ih, e2]
      have : n = 2 * (n / 2) := by omega
      rw [← this]

/-- One number is one modulo the prime. -/
abbrev One (x : Nat) : Prop := x % P = 1

theorem one_mul {x y : Nat} (hx : One x) (hy : One y) : One (x * y) := by
  unfold One; rw [Nat.mul_mod, hx, hy]; decide

theorem one_pow {x : Nat} (hx : One x) (n : Nat) : One (x ^ n) := by
  unfold One; rw [← pow_mod', hx, Nat.one_pow]; decide

theorem one_cancel {x y : Nat} (hx : One x) (hxy : One (x * y)) : One y := by
  unfold One at *; rw [Nat.mul_mod, hx, Nat.one_mul, Nat.mod_mod] at hxy; exact hxy

theorem one_gcd (g a b : Nat) (ha : One (g ^ a)) (hb : One (g ^ b)) : One (g ^ Nat.gcd a b) := by
  induction a, b using Nat.gcd.induction with
  | H0 n => rw [Nat.gcd_zero_left]; exact hb
  | H1 m n hm ih =>
    rw [Nat.gcd_rec]
    refine ih ?_ ha
    have e : g ^ n = (g ^ m) ^ (n / m) * g ^ (n % m) := by
      rw [← Nat.pow_mul, ← Nat.pow_add, Nat.div_add_mod]
    rw [e] at hb
    exact one_cancel (one_pow ha _) hb

theorem cop {q m : Nat} (hq : ∀ d, d < q + 1 → d ∣ q → d = 1 ∨ d = q) (hq0 : 0 < q) (h : ¬ q ∣ m) : Nat.Coprime m q := by
  have h1 : Nat.gcd m q ∣ q := Nat.gcd_dvd_right m q
  have h2 : Nat.gcd m q ∣ m := Nat.gcd_dvd_left m q
  rcases hq _ (Nat.lt_succ_of_le (Nat.le_of_dvd hq0 h1)) h1 with e | e
  · exact e
  · rw [e] at h2; exact absurd h2 h

theorem strip {q m r : Nat} (hq : ∀ d, d < q + 1 → d ∣ q → d = 1 ∨ d = q) (hq0 : 0 < q) (h : ¬ q ∣ m) (hd : m ∣ q * r) : m ∣ r :=
  (cop hq hq0 h).dvd_of_dvd_mul_left hd

/-- The root's order is no proper divisor of the prime less one. -/
theorem root_order {e : Nat} (he : e ∣ P - 1) (ho : One (37 ^ e)) : e = P - 1 := by
  obtain ⟨m, hm⟩ := he
  by_cases m1 : m = 1
  · rw [m1, Nat.mul_one] at hm; exact hm.symm
  exfalso
  have key : ∀ q k, P - 1 = q * k → 0 < q → pm 61 37 k % P ≠ 1 → k < 2 ^ 61 → ¬ q ∣ m := by
    intro q k hk hq hne hlt hd
    obtain ⟨t, rfl⟩ := hd
    have : k = e * t := by
      rw [hk] at hm
      have : q * k = q * (e * t) := by rw [hm]; simp [Nat.mul_left_comm]
      exact Nat.eq_of_mul_eq_mul_left hq this
    apply hne
    rw [pm_eq 61 37 k hlt, this, Nat.pow_mul]
    exact one_pow ho t
  have d0 : m ∣ 2 * (3 * (3 * (5 * (5 * (7 * (11 * (13 * (31 * (41 * (61 * (151 * (331 * (1321 * 1))))))))))))) := ⟨e, by rw [Nat.mul_comm m e, ← hm]; decide⟩
  have n2 := key 2 1152921504606846975 (by decide) (by decide) (by decide +kernel) (by decide)
  have n3 := key 3 768614336404564650 (by decide) (by decide) (by decide +kernel) (by decide)
  have n5 := key 5 461168601842738790 (by decide) (by decide) (by decide +kernel) (by decide)
  have n7 := key 7 329406144173384850 (by decide) (by decide) (by decide +kernel) (by decide)
  have n11 := key 11 209622091746699450 (by decide) (by decide) (by decide +kernel) (by decide)
  have n13 := key 13 177372539170284150 (by decide) (by decide) (by decide +kernel) (by decide)
  have n31 := key 31 74382032555280450 (by decide) (by decide) (by decide +kernel) (by decide)
  have n41 := key 41 56240073395455950 (by decide) (by decide) (by decide +kernel) (by decide)
  have n61 := key 61 37800705069076950 (by decide) (by decide) (by decide +kernel) (by decide)
  have n151 := key 151 15270483504726450 (by decide) (by decide) (by decide +kernel) (by decide)
  have n331 := key 331 6966293079195450 (by decide) (by decide) (by decide +kernel) (by decide)
  have n1321 := key 1321 1745528394559950 (by decide) (by decide) (by decide +kernel) (by decide)
  have p2 : ∀ d, d < 2 + 1 → d ∣ 2 → d = 1 ∨ d = 2 := by decide +kernel
  have p3 : ∀ d, d < 3 + 1 → d ∣ 3 → d = 1 ∨ d = 3 := by decide +kernel
  have p5 : ∀ d, d < 5 + 1 → d ∣ 5 → d = 1 ∨ d = 5 := by decide +kernel
  have p7 : ∀ d, d < 7 + 1 → d ∣ 7 → d = 1 ∨ d = 7 := by decide +kernel
  have p11 : ∀ d, d < 11 + 1 → d ∣ 11 → d = 1 ∨ d = 11 := by decide +kernel
  have p13 : ∀ d, d < 13 + 1 → d ∣ 13 → d = 1 ∨ d = 13 := by decide +kernel
  have p31 : ∀ d, d < 31 + 1 → d ∣ 31 → d = 1 ∨ d = 31 := by decide +kernel
  have p41 : ∀ d, d < 41 + 1 → d ∣ 41 → d = 1 ∨ d = 41 := by decide +kernel
  have p61 : ∀ d, d < 61 + 1 → d ∣ 61 → d = 1 ∨ d = 61 := by decide +kernel
  have p151 : ∀ d, d < 151 + 1 → d ∣ 151 → d = 1 ∨ d = 151 := by decide +kernel
  have p331 : ∀ d, d < 331 + 1 → d ∣ 331 → d = 1 ∨ d = 331 := by decide +kernel
  have p1321 : ∀ d, d < 1321 + 1 → d ∣ 1321 → d = 1 ∨ d = 1321 := by decide +kernel
  have d1 := strip p2 (by decide) n2 d0
  have d2 := strip p3 (by decide) n3 d1
  have d3 := strip p3 (by decide) n3 d2
  have d4 := strip p5 (by decide) n5 d3
  have d5 := strip p5 (by decide) n5 d4
  have d6 := strip p7 (by decide) n7 d5
  have d7 := strip p11 (by decide) n11 d6
  have d8 := strip p13 (by decide) n13 d7
  have d9 := strip p31 (by decide) n31 d8
  have d10 := strip p41 (by decide) n41 d9
  have d11 := strip p61 (by decide) n61 d10
  have d12 := strip p151 (by decide) n151 d11
  have d13 := strip p331 (by decide) n331 d12
  have d14 := strip p1321 (by decide) n1321 d13
  exact m1 (Nat.dvd_one.mp d14)

theorem of_pm (k a n : Nat) (h : n < 2 ^ k) (h2 : pm k a n % P = 1) : One (a ^ n) := by
  unfold One; rw [← pm_eq k a n h, h2]

theorem root_one : One (37 ^ (P - 1)) := of_pm 61 37 (P - 1) (by decide) (by decide +kernel)

theorem root_one' : One (37 ^ (P - 2 + 1)) := of_pm 61 37 (P - 2 + 1) (by decide) (by decide +kernel)

theorem root_inv (m : Nat) (h : One (37 ^ (m + 1))) (i : Nat) : One ((37 ^ m) ^ i * 37 ^ i) := by
  rw [← Nat.mul_pow, ← Nat.pow_succ]; exact one_pow h i

/-- Fermat: the power of a number that is no multiple of the prime by the prime less one is 1. -/
theorem fermat (a : Nat) (ha : a % P ≠ 0) : a ^ (P - 1) % P = 1 := by
  let f : Nat → Nat := fun i => 37 ^ i % P - 1
  have hinv : ∀ i, ∃ z, One (z * 37 ^ i) := fun i => ⟨(37 ^ (P - 2)) ^ i, root_inv (P - 2) root_one' i⟩
  have hpos : ∀ i, 0 < 37 ^ i % P := fun i => by
    rcases Nat.eq_zero_or_pos (37 ^ i % P) with e | e
    · obtain ⟨z, hz⟩ := hinv i
      unfold One at hz; rw [Nat.mul_mod, e, Nat.mul_zero] at hz; exact absurd hz (by decide)
    · exact e
  have hlt : ∀ i, 37 ^ i % P < P := fun i => Nat.mod_lt _ P_pos
  have hin : ∀ i j, i < j → j < P - 1 → 37 ^ i % P = 37 ^ j % P → False := fun i j h1 h2 e => by
    obtain ⟨z, hz⟩ := hinv i
    have e1 : One (37 ^ (j - i)) := by
      refine one_cancel hz ?_
      rw [Nat.mul_assoc, ← Nat.pow_add, Nat.add_sub_cancel' (by omega)]
      unfold One at hz ⊢
      rw [Nat.mul_mod, ← e, ← Nat.mul_mod]; exact hz
    have hg := one_gcd 37 (j - i) (P - 1) e1 root_one
    have h3 := root_order (Nat.gcd_dvd_right _ _) hg
    have h4 : Nat.gcd (j - i) (P - 1) ≤ j - i := Nat.gcd_le_left _ (by omega)
    omega
  obtain ⟨x, _, hx⟩ := pigeon (P - 1) f (fun i _ => by
      show 37 ^ i % P - 1 < P - 1
      have := hpos i; have := hlt i; omega) (fun i j h1 h2 e => by
      have e' : 37 ^ i % P = 37 ^ j % P := by
        have e0 : 37 ^ i % P - 1 = 37 ^ j % P - 1 := e
        have := hpos i; have := hpos j; omega
      rcases Nat.lt_trichotomy i j with h | h | h
      · exact (hin i j h h2 e').elim
      · exact h
      · exact (hin j i h h1 e'.symm).elim) (a % P - 1) (by have := Nat.mod_lt a P_pos; omega)
  have hx' : 37 ^ x % P = a % P := by
    have e0 : 37 ^ x % P - 1 = a % P - 1 := hx
    have := hpos x; omega
  rw [← pow_mod', ← hx', pow_mod', ← Nat.pow_mul, Nat.mul_comm, Nat.pow_mul]
  exact one_pow root_one x

/-- With its power by the prime less two a number makes 1. -/
theorem mul_pow_mod (a n : Nat) : a * (a ^ n % P) % P = a ^ (n + 1) % P := by
  rw [Nat.mul_mod, Nat.mod_mod, ← Nat.mul_mod, Nat.mul_comm, ← Nat.pow_succ]
theorem inv_one (a : Nat) (ha : a % P ≠ 0) : a * (a ^ (P - 2) % P) % P = 1 := (mul_pow_mod a (P - 2)).trans (fermat a ha)

theorem zero_pow_mod (n : Nat) (h : 0 < n) : 0 ^ n % P = 0 := by
  rw [Nat.zero_pow h, Nat.zero_mod]

theorem inv_zero : 0 ^ (P - 2) % P = 0 := zero_pow_mod (P - 2) (by decide)

/-- The inverse's inverse. -/
theorem inv_inv (a : Nat) (ha : a < P) : (a ^ (P - 2) % P) ^ (P - 2) % P = a := by
  by_cases h0 : a = 0
  · subst h0; rw [inv_zero, inv_zero]
  have ha' : a % P ≠ 0 := by rw [Nat.mod_eq_of_lt ha]; exact h0
  rw [pow_mod', ← Nat.pow_mul]
  have e : (P - 2) * (P - 2) = (P - 1) * (P - 3) + 1 := by decide
  rw [e, Nat.pow_succ, Nat.pow_mul, Nat.mul_mod]
  have : One ((a ^ (P - 1)) ^ (P - 3)) := one_pow (fermat a ha') _
  rw [show (a ^ (P - 1)) ^ (P - 3) % P = 1 from this, Nat.one_mul, Nat.mod_mod, Nat.mod_eq_of_lt ha]

end Go.Proofs.Yteboinnganbdeaa.Num
