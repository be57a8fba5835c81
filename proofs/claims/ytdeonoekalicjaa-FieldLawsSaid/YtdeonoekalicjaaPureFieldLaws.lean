/- Proved: products spread over sums, whatever order they stand in; a number and its inverse make 1 (of 0 the inverse is 0). For every input; no condition. -/
import Derived.Test.YtdeonoekalicjaaPFieldInversex1
import Derived.Test.YtdeonoekalicjaaBase
import Derived.Test.YtdeonoekalicjaaNum
import Derived.Test.YtdeonoekalicjaaWayFieldLaws
namespace Go.Proofs.Ytdeonoekalicjaa.Pure
open Go Go.RowKit Go.Proofs.Ytdeonoekalicjaa Go.Proofs.Ytdeonoekalicjaa.PFieldInverse Go.Proofs.YtdeonoekalicjaaW.PrintWords Go.Proofs.YtdeonoekalicjaaW.PrintLast 
/-! ### The field's functions, on numbers from 0 on -/
theorem of_nat (x : Nat) (h : x < 18446744073709551616) : field_Of.f (x : Int) = some ((x % Num.P : Nat) : Int) := by
  unfold field_Of.f Num.P
  rw [Base.and_u64 61 (by decide) (x : Int) _ (by decide), Base.wu64_in _ (by omega) (by omega)]
  split
  · rw [Base.wu64_in _ (by omega) (by omega)]; congr 1; omega
  · congr 1; omega
theorem add_nat (a b : Nat) (ha : a < Num.P) (hb : b < Num.P) : field_Add.f (a : Int) (b : Int) = some (((a + b) % Num.P : Nat) : Int) := by
  unfold field_Add.f
  unfold Num.P at ha hb
  rw [Base.wu64_in _ (by omega) (by omega), ← Int.natCast_add, of_nat _ (by omega)]; rw [Option.bind_some]
theorem mul64_nat (a b : Nat) (ha : a < 18446744073709551616) (hb : b < 18446744073709551616) : bits_Mul64.f (a : Int) (b : Int) = some (((a * b / 18446744073709551616 : Nat) : Int), ((a * b % 18446744073709551616 : Nat) : Int)) := by
  obtain ⟨p00, h00⟩ : ∃ p, p = ((a : Int) % 4294967296) * ((b : Int) % 4294967296) := ⟨_, rfl⟩
  obtain ⟨p01, h01⟩ : ∃ p, p = ((a : Int) % 4294967296) * ((b : Int) / 4294967296) := ⟨_, rfl⟩
  obtain ⟨p10, h10⟩ : ∃ p, p = ((a : Int) / 4294967296) * ((b : Int) % 4294967296) := ⟨_, rfl⟩
  obtain ⟨p11, h11⟩ : ∃ p, p = ((a : Int) / 4294967296) * ((b : Int) / 4294967296) := ⟨_, rfl⟩
  obtain ⟨e, b00, b01, b10, b11⟩ := Base.upper a b p00 p01 p10 p11 (by omega) (by omega) (by omega) (by omega) h00 h01 h10 h11
  have m1 : Go.bits .and .u64 (a : Int) 4294967295 = (a : Int) % 4294967296 := Base.and_u64 32 (by decide) _ _ (by decide)
  have m2 : Go.bits .and .u64 (b : Int) 4294967295 = (b : Int) % 4294967296 := Base.and_u64 32 (by decide) _ _ (by decide)
  unfold bits_Mul64.f
  rw [m1, m2, ← h00, ← h01, ← h10, ← h11]
  rw [Base.wu64_in p00 (by omega) (by omega), Base.wu64_in p01 (by omega) (by omega), Base.wu64_in p10 (by omega) (by omega), Base.wu64_in p11 (by omega) (by omega)]
  obtain ⟨t, ht⟩ : ∃ t, t = p10 + p00 / 4294967296 := ⟨_, rfl⟩
  rw [← ht, Base.wu64_in t (by omega) (by omega)]
  have m3 : Go.bits .and .u64 t 4294967295 = t % 4294967296 := Base.and_u64 32 (by decide) _ _ (by decide)
  rw [m3, Base.wu64_in (t % 4294967296 + p01) (by omega) (by omega)]
  rw [Base.wu64_in (p11 + t / 4294967296) (by omega) (by omega)]
  rw [Base.wu64, Base.wu64, e]
  have hn : ((a * b : Nat) : Int) = p11 * 18446744073709551616 + (p10 + p01) * 4294967296 + p00 := by rw [Int.natCast_mul]; exact e
  obtain ⟨N, hN⟩ : ∃ N, N = a * b := ⟨_, rfl⟩
  rw [← hN] at hn
  rw [← hN]
  have e1 : (p11 + t / 4294967296 + (t % 4294967296 + p01) / 4294967296) % 18446744073709551616 = ((N / 18446744073709551616 : Nat) : Int) := by omega
  have e2 : (p11 * 18446744073709551616 + (p10 + p01) * 4294967296 + p00) % 18446744073709551616 = ((N % 18446744073709551616 : Nat) : Int) := by omega
  rw [e1, e2]
theorem mul_nat (a b : Nat) (ha : a < Num.P) (hb : b < Num.P) : field_Mul.f (a : Int) (b : Int) = some ((a * b % Num.P : Nat) : Int) := by
  have hN : a * b ≤ 2305843009213693950 * 2305843009213693950 := by
    unfold Num.P at ha hb
    exact Nat.mul_le_mul (by omega) (by omega)
  unfold field_Mul.f
  rw [mul64_nat a b (by unfold Num.P at ha; omega) (by unfold Num.P at hb; omega)]
  generalize a * b = N at hN
  rw [Option.bind_some]
  rw [Base.wu64_in _ (by omega) (by omega), Base.or_u64 3 _ _ (by omega) (by omega) (by omega) (by omega) (by omega) (by omega)]
  have e1 : ((N / 18446744073709551616 : Nat) : Int) * 8 + ((N % 18446744073709551616 : Nat) : Int) / 2305843009213693952 = ((N / 2305843009213693952 : Nat) : Int) := by omega
  rw [e1, of_nat _ (by omega)]
  rw [Option.bind_some]
  rw [Base.and_u64 61 (by decide) _ _ (by decide), Base.tmod_nn _ _ (by omega)]
  have e2 : ((N % 18446744073709551616 : Nat) : Int) % 2 ^ 61 % 2305843009213693951 = ((N % 2305843009213693952 % Num.P : Nat) : Int) := by unfold Num.P; omega
  rw [e2, add_nat _ _ (Nat.mod_lt _ Num.P_pos) (Nat.mod_lt _ Num.P_pos)]
  rw [Option.bind_some]
  congr 2
  unfold Num.P
  omega
theorem fit_true : weighbridgelaw02_fit.f = some true := by
  have h1 := mul_nat 1152921504606846976 2 (by decide) (by decide)
  have h2 := of_nat 2305843009213693951 (by decide)
  rw [show 1152921504606846976 * 2 % Num.P = 1 from by decide] at h1
  rw [show 2305843009213693951 % Num.P = 0 from by decide] at h2
  have h1' : field_Mul.f 1152921504606846976 2 = some 1 := h1
  have h2' : field_Of.f 2305843009213693951 = some 0 := h2
  unfold weighbridgelaw02_fit.f
  rw [h1']
  rw [Option.bind_some]; simp only [if_true]
  rw [h2']
  rfl

theorem sub_nat (a b : Nat) (ha : a < Num.P) (hb : b < Num.P) : field_Sub.f (a : Int) (b : Int) = some (((a + Num.P - b) % Num.P : Nat) : Int) := by
  have e : IntKind.u64.wrap (IntKind.u64.wrap ((a : Int) + 2305843009213693951) - (b : Int)) = ((a + Num.P - b : Nat) : Int) := by
    unfold Num.P at ha hb ⊢
    rw [Base.wu64_in (_ + _) (by omega) (by omega), Base.wu64_in _ (by omega) (by omega)]
    omega
  have h : a + Num.P - b < 18446744073709551616 := by unfold Num.P at *; omega
  unfold field_Sub.f
  rw [e, of_nat _ h]; rw [Option.bind_some]

theorem power_l (k : Nat) : ∀ (a n acc : Nat), a < Num.P → acc < Num.P → n < 2 ^ k → ∀ m, k < m → field_Power.l0 m (a : Int) (n : Int) (acc : Int) = some ((acc * a ^ n % Num.P : Nat) : Int) := by
  induction k with
  | zero =>
    intro a n acc ha hc hn m hm
    obtain ⟨m, rfl⟩ : ∃ j, m = j + 1 := ⟨m - 1, by omega⟩
    have h0 : n = 0 := by simpa using hn
    subst h0
    simp only [field_Power.l0]
    rw [if_neg (by omega), Nat.pow_zero, Nat.mul_one, Nat.mod_eq_of_lt hc]
  | succ k ih =>
    intro a n acc ha hc hn m hm
    obtain ⟨m, rfl⟩ : ∃ j, m = j + 1 := ⟨m - 1, by omega⟩
    rw [Nat.pow_succ] at hn
    simp only [field_Power.l0]
    by_cases h0 : n = 0
    · subst h0
      rw [if_neg (by omega), Nat.pow_zero, Nat.mul_one, Nat.mod_eq_of_lt hc]
    have hsq : (a * a % Num.P) ^ (n / 2) % Num.P = a ^ (2 * (n / 2)) % Num.P := by
      rw [Num.pow_mod', Nat.pow_mul, Nat.pow_two]
    have hlt : ∀ x, x % Num.P < Num.P := fun x => Nat.mod_lt _ Num.P_pos
    have hd : (n : Int) / 2 = ((n / 2 : Nat) : Int) := by omega
    rw [if_pos (by omega), Base.and_u64 1 (by decide) _ _ (by decide), hd]
    by_cases h1 : n % 2 = 1
    · rw [if_pos (by omega), mul_nat _ _ hc ha, Option.bind_some, mul_nat _ _ ha ha, Option.bind_some]
      rw [ih _ _ _ (hlt _) (hlt _) (by omega) m (by omega)]
      congr 2
      have : n = 2 * (n / 2) + 1 := by omega
      conv => rhs; rw [this, Nat.pow_succ, Nat.mul_comm (a ^ _) a, ← Nat.mul_assoc, Nat.mul_mod, ← hsq, ← Nat.mul_mod]
      rw [Nat.mul_mod, Nat.mod_mod, ← Nat.mul_mod]
    · rw [if_neg (by omega), mul_nat _ _ ha ha, Option.bind_some]
      rw [ih _ _ _ (hlt _) hc (by omega) m (by omega)]
      congr 2
      have : n = 2 * (n / 2) := by omega
      conv => rhs; rw [this, Nat.mul_mod, ← hsq, ← Nat.mul_mod]
theorem power_nat (a n : Nat) (ha : a < Num.P) (hn : n < 18446744073709551616) (m : Nat) (hm : 64 < m) : field_Power.f m (a : Int) (n : Int) = some ((a ^ n % Num.P : Nat) : Int) := by
  unfold field_Power.f
  have h := power_l 64 a n 1 ha (by decide) (by omega) m hm
  rw [Nat.one_mul] at h
  exact h

theorem inverse_nat (a : Nat) (ha : a < Num.P) (m : Nat) (hm : 64 < m) : field_Inverse.f m (a : Int) = some ((a ^ (Num.P - 2) % Num.P : Nat) : Int) := by
  unfold field_Inverse.f
  have h := power_nat a (Num.P - 2) ha (by decide) m hm
  rw [show (2305843009213693949 : Int) = ((Num.P - 2 : Nat) : Int) from by decide, h]
  rfl

theorem back (a b : Nat) (ha : a < Num.P) : ((a + b) % Num.P + Num.P - b % Num.P) % Num.P = a := by
  unfold Num.P at *; omega

theorem walk (x y z : Int) (w : World) (hx : (Lit.int .u64 x).wf = true) (hy : (Lit.int .u64 y).wf = true) (hz : (Lit.int .u64 z).wf = true) :
    Calls Try.prog 8 #[.int .u64 x, .int .u64 y, .int .u64 z] w fun e w' => e = .returned (.bool true) ∧ Below w.heap.size w w' := by
  obtain ⟨hx0, hx1⟩ := Base.wf_u64 hx
  obtain ⟨hy0, hy1⟩ := Base.wf_u64 hy
  obtain ⟨hz0, hz1⟩ := Base.wf_u64 hz
  obtain ⟨a, ha⟩ : ∃ a : Nat, (a : Int) = Int.tmod x 2305843009213693951 := ⟨(x % 2305843009213693951).toNat, by rw [Base.tmod_nn x _ hx0]; omega⟩
  obtain ⟨b, hb⟩ : ∃ b : Nat, (b : Int) = Int.tmod y 2305843009213693951 := ⟨(y % 2305843009213693951).toNat, by rw [Base.tmod_nn y _ hy0]; omega⟩
  obtain ⟨c, hc⟩ : ∃ c : Nat, (c : Int) = Int.tmod z 2305843009213693951 := ⟨(z % 2305843009213693951).toNat, by rw [Base.tmod_nn z _ hz0]; omega⟩
  have haP : a < Num.P := by rw [Base.tmod_nn x _ hx0] at ha; unfold Num.P; omega
  have hbP : b < Num.P := by rw [Base.tmod_nn y _ hy0] at hb; unfold Num.P; omega
  have hcP : c < Num.P := by rw [Base.tmod_nn z _ hz0] at hc; unfold Num.P; omega
  have hlt : ∀ x, x % Num.P < Num.P := fun x => Nat.mod_lt _ Num.P_pos
  have hltI : ∀ x : Nat, ((x % Num.P : Nat) : Int) < 2305843009213693951 := fun x => by unfold Num.P; omega
  have e1 : a * ((b + c) % Num.P) % Num.P = (a * b % Num.P + a * c % Num.P) % Num.P := by
    rw [Nat.mul_mod, Nat.mod_mod, ← Nat.mul_mod, Nat.mul_add, Nat.add_mod]
  have e2 : a * b % Num.P * c % Num.P = a * (b * c % Num.P) % Num.P := by
    rw [Nat.mul_mod a (b * c % Num.P), Nat.mod_mod, ← Nat.mul_mod, ← Nat.mul_assoc, Nat.mul_mod (a * b % Num.P) c, Nat.mod_mod, ← Nat.mul_mod]
  have e3 : ((a + b) % Num.P + Num.P - b) % Num.P = a := by
    have := back a b haP
    rw [Nat.mod_eq_of_lt hbP] at this; exact this
  have f1 := add_nat b c hbP hcP
  have f2 := mul_nat a _ haP (hlt (b + c))
  have f3 := mul_nat a b haP hbP
  have f4 := mul_nat a c haP hcP
  have f5 := add_nat _ _ (hlt (a * b)) (hlt (a * c))
  have f6 := mul_nat b c hbP hcP
  have f7 := mul_nat a _ haP (hlt (b * c))
  have f8 := mul_nat _ c (hlt (a * b)) hcP
  have f9 := mul_nat b a hbP haP
  have f10 := add_nat a b haP hbP
  have f11 := sub_nat _ b (hlt (a + b)) hbP
  have f12 := inverse_nat a haP 65 (by decide)
  rw [← e1] at f5
  rw [e2] at f8
  rw [Nat.mul_comm b a] at f9
  rw [e3] at f11
  have hend : ∀ (e : Ending) (w' : World), (e = .returned (.bool true) ∧ Drawn0 w w') → (e = .returned (.bool true) ∧ Below w.heap.size w w') := fun e w' h => ⟨h.1, h.2.below⟩
  have hf := fit_true
  by_cases h0 : a = 0
  · have h0' : (((a : Int)) == 0) = true := by rw [beq_iff_eq]; omega
    have g8 : ((((a ^ (Num.P - 2) % Num.P : Nat) : Int)) == 0) = true := by rw [h0, Num.inv_zero]; rfl
    have hc0 := hltI (a ^ (Num.P - 2))
    generalize ((a ^ (Num.P - 2) % Num.P : Nat) : Int) = t8 at *
    rw [ha] at f2 f3 f4 f7 f9 f10 f11 f12 h0'
    rw [hb] at f1 f3 f6 f9 f10 f11
    rw [hc] at f1 f4 f6 f8
    exact (laws_calls0 x y z _ _ _ _ _ _ _ _ w ⟨hf⟩ ⟨f1⟩ ⟨f2⟩ ⟨f3⟩ ⟨f4⟩ ⟨f5⟩ ⟨f6⟩ ⟨f7⟩ ⟨f8⟩ ⟨f9⟩ ⟨f10⟩ ⟨f11⟩ ⟨f12⟩ (decide_eq_true hc0) h0' g8).mono hend
  · have h0' : (((a : Int)) == 0) = false := by rw [beq_eq_false_iff_ne]; omega
    have h1' : (((a : Int)) != 0) = true := by rw [bne_iff_ne]; omega
    have f13 := mul_nat a _ haP (hlt (a ^ (Num.P - 2)))
    rw [Num.inv_one a (by rw [Nat.mod_eq_of_lt haP]; exact h0)] at f13
    have hc0 := hltI (a ^ (Num.P - 2))
    generalize ((a ^ (Num.P - 2) % Num.P : Nat) : Int) = t8 at *
    rw [ha] at f2 f3 f4 f7 f9 f10 f11 f12 f13 h0' h1'
    rw [hb] at f1 f3 f6 f9 f10 f11
    rw [hc] at f1 f4 f6 f8
    exact (laws_calls x y z _ _ _ _ _ _ _ _ w ⟨hf⟩ ⟨f1⟩ ⟨f2⟩ ⟨f3⟩ ⟨f4⟩ ⟨f5⟩ ⟨f6⟩ ⟨f7⟩ ⟨f8⟩ ⟨f9⟩ ⟨f10⟩ ⟨f11⟩ ⟨f12⟩ ⟨f13⟩ (decide_eq_true hc0) h0' h1').mono hend

end Go.Proofs.Ytdeonoekalicjaa.Pure
