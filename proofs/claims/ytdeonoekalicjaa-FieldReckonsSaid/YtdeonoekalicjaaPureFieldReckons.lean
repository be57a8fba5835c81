/- Proved: numbers modulo the prime are reckoned as whole numbers are: Of, Add, Sub, Mul and Power are the reference's. For every input; no condition. -/
import Derived.Test.YtdeonoekalicjaaPFieldReckonsx1
import Derived.Test.YtdeonoekalicjaaBase
import Derived.Test.YtdeonoekalicjaaNum
namespace Go.Proofs.Ytdeonoekalicjaa.Pure
open Go Go.RowKit Go.Proofs.Ytdeonoekalicjaa Go.Proofs.Ytdeonoekalicjaa.PFieldReckons Go.Proofs.YtdeonoekalicjaaW.PrintWords Go.Proofs.YtdeonoekalicjaaW.PrintLast 
/-! ### The field's functions, on numbers from 0 on -/
theorem of_nat (x : Nat) (h : x < 18446744073709551616) : field_Of.f (x : Int) = some ((x % Num.P : Nat) : Int) := by
  unfold field_Of.f Num.P
  rw [Base.and_u64 61 (by decide) (x : Int) _ (by decide), Base.wu64_in _ (by omega) (by omega)]
  split
  · rw [Base.wu64_in _ (by omega) (by omega)]; congr 1; omega
  · congr 1; omega
theorem add_nat (a b : Nat) (ha : a < Num.P) (hb : b < Num.P) : field_Add.f (a : Int) (b : Int) = some (((a + b) % Num.P : Nat) : Int) := by
  unfold field_Add.f
  unfold Num.P at ha hb
  rw [Base.wu64_in _ (by omega) (by omega), ← Int.natCast_add, of_nat _ (by omega)]; rw [Option.bind_some]
theorem mul64_nat (a b : Nat) (ha : a < 18446744073709551616) (hb : b < 18446744073709551616) : bits_Mul64.f (a : Int) (b : Int) = some (((a * b / 18446744073709551616 : Nat) : Int), ((a * b % 18446744073709551616 : Nat) : Int)) := by
  obtain ⟨p00, h00⟩ : ∃ p, p = ((a : Int) % 4294967296) * ((b : Int) % 4294967296) := ⟨_, rfl⟩
  obtain ⟨p01, h01⟩ : ∃ p, p = ((a : Int) % 4294967296) * ((b : Int) / 4294967296) := ⟨_, rfl⟩
  obtain ⟨p10, h10⟩ : ∃ p, p = ((a : Int) / 4294967296) * ((b : Int) % 4294967296) := ⟨_, rfl⟩
  obtain ⟨p11, h11⟩ : ∃ p, p = ((a : Int) / 4294967296) * ((b : Int) / 4294967296) := ⟨_, rfl⟩
  obtain ⟨e, b00, b01, b10, b11⟩ := Base.upper a b p00 p01 p10 p11 (by omega) (by omega) (by omega) (by omega) h00 h01 h10 h11
  have m1 : Go.bits .and .u64 (a : Int) 4294967295 = (a : Int) % 4294967296 := Base.and_u64 32 (by decide) _ _ (by decide)
  have m2 : Go.bits .and .u64 (b : Int) 4294967295 = (b : Int) % 4294967296 := Base.and_u64 32 (by decide) _ _ (by decide)
  unfold bits_Mul64.f
  rw [m1, m2, ← h00, ← h01, ← h10, ← h11]
  rw [Base.wu64_in p00 (by omega) (by omega), Base.wu64_in p01 (by omega) (by omega), Base.wu64_in p10 (by omega) (by omega), Base.wu64_in p11 (by omega) (by omega)]
  obtain ⟨t, ht⟩ : ∃ t, t = p10 + p00 / 4294967296 := ⟨_, rfl⟩
  rw [← ht, Base.wu64_in t (by omega) (by omega)]
  have m3 : Go.bits .and .u64 t 4294967295 = t % 4294967296 := Base.and_u64 32 (by decide) _ _ (by decide)
  rw [m3, Base.wu64_in (t % 4294967296 + p01) (by omega) (by omega)]
  rw [Base.wu64_in (p11 + t / 4294967296) (by omega) (by omega)]
  rw [Base.wu64, Base.wu64, e]
  have hn : ((a * b : Nat) : Int) = p11 * 18446744073709551616 + (p10 + p01) * 4294967296 + p00 := by rw [Int.natCast_mul]; exact e
  obtain ⟨N, hN⟩ : ∃ N, N = a * b := ⟨_, rfl⟩
  rw [← hN] at hn
  rw [← hN]
  have e1 : (p11 + t / 4294967296 + (t % 4294967296 + p01) / 4294967296) % 18446744073709551616 = ((N / 18446744073709551616 : Nat) : Int) := by omega
  have e2 : (p11 * 18446744073709551616 + (p10 + p01) * 4294967296 + p00) % 18446744073709551616 = ((N % 18446744073709551616 : Nat) : Int) := by omega
  rw [e1, e2]
theorem mul_nat (a b : Nat) (ha : a < Num.P) (hb : b < Num.P) : field_Mul.f (a : Int) (b : Int) = some ((a * b % Num.P : Nat) : Int) := by
  have hN : a * b ≤ 2305843009213693950 * 2305843009213693950 := by
    unfold Num.P at ha hb
    exact Nat.mul_le_mul (by omega) (by omega)
  unfold field_Mul.f
  rw [mul64_nat a b (by unfold Num.P at ha; omega) (by unfold Num.P at hb; omega)]
  generalize a * b = N at hN
  rw [Option.bind_some]
  rw [Base.wu64_in _ (by omega) (by omega), Base.or_u64 3 _ _ (by omega) (by omega) (by omega) (by omega) (by omega) (by omega)]
  have e1 : ((N / 18446744073709551616 : Nat) : Int) * 8 + ((N % 18446744073709551616 : Nat) : Int) / 2305843009213693952 = ((N / 2305843009213693952 : Nat) : Int) := by omega
  rw [e1, of_nat _ (by omega)]
  rw [Option.bind_some]
  rw [Base.and_u64 61 (by decide) _ _ (by decide), Base.tmod_nn _ _ (by omega)]
  have e2 : ((N % 18446744073709551616 : Nat) : Int) % 2 ^ 61 % 2305843009213693951 = ((N % 2305843009213693952 % Num.P : Nat) : Int) := by unfold Num.P; omega
  rw [e2, add_nat _ _ (Nat.mod_lt _ Num.P_pos) (Nat.mod_lt _ Num.P_pos)]
  rw [Option.bind_some]
  congr 2
  unfold Num.P
  omega
theorem fit_true : weighbridgelaw02_fit.f = some true := by
  have h1 := mul_nat 1152921504606846976 2 (by decide) (by decide)
  have h2 := of_nat 2305843009213693951 (by decide)
  rw [show 1152921504606846976 * 2 % Num.P = 1 from by decide] at h1
  rw [show 2305843009213693951 % Num.P = 0 from by decide] at h2
  have h1' : field_Mul.f 1152921504606846976 2 = some 1 := h1
  have h2' : field_Of.f 2305843009213693951 = some 0 := h2
  unfold weighbridgelaw02_fit.f
  rw [h1']
  rw [Option.bind_some]; simp only [if_true]
  rw [h2']
  rfl

theorem sub_nat (a b : Nat) (ha : a < Num.P) (hb : b < Num.P) : field_Sub.f (a : Int) (b : Int) = some (((a + Num.P - b) % Num.P : Nat) : Int) := by
  have e : IntKind.u64.wrap (IntKind.u64.wrap ((a : Int) + 2305843009213693951) - (b : Int)) = ((a + Num.P - b : Nat) : Int) := by
    unfold Num.P at ha hb ⊢
    rw [Base.wu64_in (_ + _) (by omega) (by omega), Base.wu64_in _ (by omega) (by omega)]
    omega
  have h : a + Num.P - b < 18446744073709551616 := by unfold Num.P at *; omega
  unfold field_Sub.f
  rw [e, of_nat _ h]; rw [Option.bind_some]

theorem power_l (k : Nat) : ∀ (a n acc : Nat), a < Num.P → acc < Num.P → n < 2 ^ k → ∀ m, k < m → field_Power.l0 m (a : Int) (n : Int) (acc : Int) = some ((acc * a ^ n % Num.P : Nat) : Int) := by
  induction k with
  | zero =>
    intro a n acc ha hc hn m hm
    obtain ⟨m, rfl⟩ : ∃ j, m = j + 1 := ⟨m - 1, by omega⟩
    have h0 : n = 0 := by simpa using hn
    subst h0
    simp only [field_Power.l0]
    rw [if_neg (by omega), Nat.pow_zero, Nat.mul_one, Nat.mod_eq_of_lt hc]
  | succ k ih =>
    intro a n acc ha hc hn m hm
    obtain ⟨m, rfl⟩ : ∃ j, m = j + 1 := ⟨m - 1, by omega⟩
    rw [Nat.pow_succ] at hn
    simp only [field_Power.l0]
    by_cases h0 : n = 0
    · subst h0
      rw [if_neg (by omega), Nat.pow_zero, Nat.mul_one, Nat.mod_eq_of_lt hc]
    have hsq : (a * a % Num.P) ^ (n / 2) % Num.P = a ^ (2 * (n / 2)) % Num.P := by
      rw [Num.pow_mod', Nat.pow_mul, Nat.pow_two]
    have hlt : ∀ x, x % Num.P < Num.P := fun x => Nat.mod_lt _ Num.P_pos
    have hd : (n : Int) / 2 = ((n / 2 : Nat) : Int) := by omega
    rw [if_pos (by omega), Base.and_u64 1 (by decide) _ _ (by decide), hd]
    by_cases h1 : n % 2 = 1
    · rw [if_pos (by omega), mul_nat _ _ hc ha, Option.bind_some, mul_nat _ _ ha ha, Option.bind_some]
      rw [ih _ _ _ (hlt _) (hlt _) (by omega) m (by omega)]
      congr 2
      have : n = 2 * (n / 2) + 1 := by omega
      conv => rhs; rw [this, Nat.pow_succ, Nat.mul_comm (a ^ _) a, ← Nat.mul_assoc, Nat.mul_mod, ← hsq, ← Nat.mul_mod]
      rw [Nat.mul_mod, Nat.mod_mod, ← Nat.mul_mod]
    · rw [if_neg (by omega), mul_nat _ _ ha ha, Option.bind_some]
      rw [ih _ _ _ (hlt _) hc (by omega) m (by omega)]
      congr 2
      have : n = 2 * (n / 2) := by omega
      conv => rhs; rw [this, Nat.mul_mod, ← hsq, ← Nat.mul_mod]
theorem power_nat (a n : Nat) (ha : a < Num.P) (hn : n < 18446744073709551616) (m : Nat) (hm : 64 < m) : field_Power.f m (a : Int) (n : Int) = some ((a ^ n % Num.P : Nat) : Int) := by
  unfold field_Power.f
  have h := power_l 64 a n 1 ha (by decide) (by omega) m hm
  rw [Nat.one_mul] at h
  exact h

/-! ### The document's functions -/
theorem refmul_l (a b : Nat) (ha : a < Num.P) : ∀ d : Nat, d ≤ 61 → ∀ acc : Nat, acc = a * (b / 2 ^ d) % Num.P → ∀ m, d < m → weighbridgeref02_Mul.l0 m (a : Int) (b : Int) (acc : Int) ((d : Int) - 1) = some ((a * b % Num.P : Nat) : Int) := by
  intro d
  have hlt : ∀ x, x % Num.P < Num.P := fun x => Nat.mod_lt _ Num.P_pos
  induction d with
  | zero =>
    intro _ acc e m hm
    obtain ⟨m, rfl⟩ : ∃ j, m = j + 1 := ⟨m - 1, by omega⟩
    rw [Nat.pow_zero, Nat.div_one] at e
    rw [weighbridgeref02_Mul.l0, if_neg (by omega), e]
  | succ d ih =>
    intro hd acc e m hm
    obtain ⟨m, rfl⟩ : ∃ j, m = j + 1 := ⟨m - 1, by omega⟩
    have hacc : acc < Num.P := by rw [e]; exact hlt _
    have hx : ((d + 1 : Nat) : Int) - 1 = (d : Int) := by omega
    obtain ⟨q, hq⟩ : ∃ q, q = b / 2 ^ d := ⟨_, rfl⟩
    have hq2 : b / 2 ^ (d + 1) = q / 2 := by rw [hq, Nat.pow_succ, Nat.div_div_eq_div_mul]
    rw [hq2] at e
    have hs : shr .u64 (b : Int) (d : Int) = (q : Int) := by
      rw [Base.shr_u64 _ d (by omega), hq, Int.natCast_ediv, Int.natCast_pow]; rfl
    have h2 : Int.tmod (IntKind.u64.wrap ((acc : Int) * 2)) 2305843009213693951 = ((acc * 2 % Num.P : Nat) : Int) := by
      unfold Num.P at hacc ⊢
      rw [Base.wu64_in _ (by omega) (by omega), Base.tmod_nn _ _ (by omega)]; omega
    have h3 : Int.tmod (IntKind.u64.wrap (((acc * 2 % Num.P : Nat) : Int) + (a : Int))) 2305843009213693951 = (((acc * 2 % Num.P + a) % Num.P : Nat) : Int) := by
      have := hlt (acc * 2)
      unfold Num.P at ha this ⊢
      rw [Base.wu64_in _ (by omega) (by omega), Base.tmod_nn _ _ (by omega)]; omega
    rw [weighbridgeref02_Mul.l0, hx, if_pos (by omega), Base.wu64_in (d : Int) (by omega) (by omega), if_pos (by omega), hs, Base.and_u64 1 (by decide) _ _ (by decide), h2, h3, Base.w64_in _ (by omega) (by omega)]
    have e1 : a * q = a * (q / 2) * 2 + a * (q % 2) := by
      rw [Nat.mul_assoc, ← Nat.mul_add, Nat.mul_comm (q / 2) 2, Nat.div_add_mod]
    by_cases hb : q % 2 = 1
    · rw [if_pos (by omega)]
      refine ih (by omega) _ ?_ m (by omega)
      rw [← hq, e1, hb, Nat.mul_one, e, Nat.add_mod, Nat.mod_mod, ← Nat.add_mod]
      rw [Nat.add_mod, Nat.mul_mod, Nat.mod_mod, ← Nat.mul_mod, ← Nat.add_mod]
    · rw [if_neg (by omega)]
      refine ih (by omega) _ ?_ m (by omega)
      have hb0 : q % 2 = 0 := by omega
      rw [← hq, e1, hb0, Nat.mul_zero, Nat.add_zero, e, Nat.mul_mod, Nat.mod_mod, ← Nat.mul_mod]
theorem refmul_nat (a b : Nat) (ha : a < Num.P) (hb : b < Num.P) (m : Nat) (hm : 61 < m) : weighbridgeref02_Mul.f m (a : Int) (b : Int) = some ((a * b % Num.P : Nat) : Int) := by
  unfold weighbridgeref02_Mul.f
  refine refmul_l a b ha 61 (by decide) 0 ?_ m hm
  have : b / 2 ^ 61 = 0 := Nat.div_eq_of_lt (by unfold Num.P at hb; omega)
  rw [this, Nat.mul_zero, Nat.zero_mod]
theorem refpow_l (a n : Nat) (ha : a < Num.P) : ∀ d : Nat, d ≤ 64 → ∀ acc : Nat, acc = a ^ (n / 2 ^ d) % Num.P → ∀ m, d + 62 < m → weighbridgeref02_Power.l0 m (a : Int) (n : Int) (acc : Int) ((d : Int) - 1) = some ((a ^ n % Num.P : Nat) : Int) := by
  intro d
  have hlt : ∀ x, x % Num.P < Num.P := fun x => Nat.mod_lt _ Num.P_pos
  induction d with
  | zero =>
    intro _ acc e m hm
    obtain ⟨m, rfl⟩ : ∃ j, m = j + 1 := ⟨m - 1, by omega⟩
    rw [Nat.pow_zero, Nat.div_one] at e
    rw [weighbridgeref02_Power.l0, if_neg (by omega), e]
  | succ d ih =>
    intro hd acc e m hm
    obtain ⟨m, rfl⟩ : ∃ j, m = j + 1 := ⟨m - 1, by omega⟩
    have hacc : acc < Num.P := by rw [e]; exact hlt _
    have hx : ((d + 1 : Nat) : Int) - 1 = (d : Int) := by omega
    obtain ⟨q, hq⟩ : ∃ q, q = n / 2 ^ d := ⟨_, rfl⟩
    have hq2 : n / 2 ^ (d + 1) = q / 2 := by rw [hq, Nat.pow_succ, Nat.div_div_eq_div_mul]
    rw [hq2] at e
    have hs : shr .u64 (n : Int) (d : Int) = (q : Int) := by
      rw [Base.shr_u64 _ d (by omega), hq, Int.natCast_ediv, Int.natCast_pow]; rfl
    rw [weighbridgeref02_Power.l0, hx, if_pos (by omega), refmul_nat _ _ hacc hacc m (by omega), Option.bind_some, Base.wu64_in (d : Int) (by omega) (by omega), if_pos (by omega), hs, Base.and_u64 1 (by decide) _ _ (by decide), Base.w64_in _ (by omega) (by omega)]
    have e1 : acc * acc % Num.P = a ^ (2 * (q / 2)) % Num.P := by
      rw [e, ← Nat.mul_mod, ← Nat.pow_add, Nat.two_mul]
    by_cases hb : q % 2 = 1
    · rw [if_pos (by omega), refmul_nat _ _ (hlt _) ha m (by omega), Option.bind_some]
      refine ih (by omega) _ ?_ m (by omega)
      rw [e1, ← hq]
      have : q = 2 * (q / 2) + 1 := by omega
      conv => rhs; rw [this, Nat.pow_succ]
      rw [Nat.mul_mod, Nat.mod_mod, ← Nat.mul_mod]
    · rw [if_neg (by omega)]
      refine ih (by omega) _ ?_ m (by omega)
      have : q = 2 * (q / 2) := by omega
      rw [e1, ← hq, ← this]
theorem refpow_nat (a n : Nat) (ha : a < Num.P) (hn : n < 18446744073709551616) (m : Nat) (hm : 126 < m) : weighbridgeref02_Power.f m (a : Int) (n : Int) = some ((a ^ n % Num.P : Nat) : Int) := by
  unfold weighbridgeref02_Power.f
  refine refpow_l a n ha 64 (by decide) 1 ?_ m hm
  have : n / 2 ^ 64 = 0 := Nat.div_eq_of_lt (by omega)
  rw [this, Nat.pow_zero]; decide

theorem FieldReckons : weighbridgelaw02_FieldReckons.Pure := by
  intro x y n hx hy hn
  obtain ⟨hx0, hx1⟩ := Base.wf_u64 hx
  obtain ⟨hy0, hy1⟩ := Base.wf_u64 hy
  obtain ⟨hn0, hn1⟩ := Base.wf_u64 hn
  obtain ⟨a, ha⟩ : ∃ a : Nat, (a : Int) = x % 2305843009213693951 := ⟨(x % 2305843009213693951).toNat, by omega⟩
  obtain ⟨b, hb⟩ : ∃ b : Nat, (b : Int) = y % 2305843009213693951 := ⟨(y % 2305843009213693951).toNat, by omega⟩
  obtain ⟨i, hi⟩ : ∃ i : Nat, (i : Int) = n % 1000 := ⟨(n % 1000).toNat, by omega⟩
  obtain ⟨z, hz⟩ : ∃ z : Nat, (z : Int) = x := ⟨x.toNat, by omega⟩
  have haP : a < Num.P := by unfold Num.P; omega
  have hbP : b < Num.P := by unfold Num.P; omega
  have hza : z % Num.P = a := by unfold Num.P; omega
  have hof : field_Of.f x = some (a : Int) := by rw [← hz, of_nat z (by omega), hza]
  have hadd : Int.tmod (IntKind.u64.wrap ((a : Int) + (b : Int))) 2305843009213693951 = (((a + b) % Num.P : Nat) : Int) := by
    unfold Num.P at haP hbP ⊢
    rw [Base.wu64_in _ (by omega) (by omega), Base.tmod_nn _ _ (by omega)]; omega
  have hsub : Int.tmod (IntKind.u64.wrap ((IntKind.u64.wrap ((a : Int) + 2305843009213693951)) - (b : Int))) 2305843009213693951 = (((a + Num.P - b) % Num.P : Nat) : Int) := by
    unfold Num.P at haP hbP ⊢
    rw [Base.wu64_in (_ + _) (by omega) (by omega), Base.wu64_in _ (by omega) (by omega), Base.tmod_nn _ _ (by omega)]; omega
  refine ⟨200, ?_⟩
  unfold weighbridgelaw02_FieldReckons.f weighbridgeref02_Of.f
  rw [fit_true, Option.bind_some, if_pos rfl, hof, Option.bind_some, Option.bind_some, Base.tmod_nn x _ hx0, Base.tmod_nn y _ hy0, Base.tmod_nn n _ hn0, ← ha, ← hb, ← hi, if_pos rfl]
  rw [add_nat a b haP hbP, Option.bind_some, hadd, if_pos rfl]
  rw [sub_nat a b haP hbP, Option.bind_some, hsub, if_pos rfl]
  rw [mul_nat a b haP hbP, Option.bind_some, refmul_nat a b haP hbP 200 (by decide), Option.bind_some, if_pos rfl]
  rw [power_nat a i haP (by omega) 200 (by decide), Option.bind_some, refpow_nat a i haP (by omega) 200 (by decide), Option.bind_some]
  simp

end Go.Proofs.Ytdeonoekalicjaa.Pure
