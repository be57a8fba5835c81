/- Proved: numbers that part by the prime are the same to Of, and what Add, Mul and Sub of numbers below the prime answer is below it. For every input; no condition. -/
import Derived.Test.YtdeonoekalicjaaPFieldOfx1
import Derived.Test.YtdeonoekalicjaaBase
import Derived.Test.YtdeonoekalicjaaNum
namespace Go.Proofs.Ytdeonoekalicjaa.Pure
open Go Go.RowKit Go.Proofs.Ytdeonoekalicjaa Go.Proofs.Ytdeonoekalicjaa.PFieldOf Go.Proofs.YtdeonoekalicjaaW.PrintWords Go.Proofs.YtdeonoekalicjaaW.PrintLast 
/-! ### The field's functions, on numbers from 0 on -/
theorem of_nat (x : Nat) (h : x < 18446744073709551616) : field_Of.f (x : Int) = some ((x % Num.P : Nat) : Int) := by
  unfold field_Of.f Num.P
  rw [Base.and_u64 61 (by decide) (x : Int) _ (by decide), Base.wu64_in _ (by omega) (by omega)]
  split
  · rw [Base.wu64_in _ (by omega) (by omega)]; congr 1; omega
  · congr 1; omega
theorem add_nat (a b : Nat) (ha : a < Num.P) (hb : b < Num.P) : field_Add.f (a : Int) (b : Int) = some (((a + b) % Num.P : Nat) : Int) := by
  unfold field_Add.f
  unfold Num.P at ha hb
  rw [Base.wu64_in _ (by omega) (by omega), ← Int.natCast_add, of_nat _ (by omega)]; rw [Option.bind_some]
theorem mul64_nat (a b : Nat) (ha : a < 18446744073709551616) (hb : b < 18446744073709551616) : bits_Mul64.f (a : Int) (b : Int) = some (((a * b / 18446744073709551616 : Nat) : Int), ((a * b % 18446744073709551616 : Nat) : Int)) := by
  obtain ⟨p00, h00⟩ : ∃ p, p = ((a : Int) % 4294967296) * ((b : Int) % 4294967296) := ⟨_, rfl⟩
  obtain ⟨p01, h01⟩ : ∃ p, p = ((a : Int) % 4294967296) * ((b : Int) / 4294967296) := ⟨_, rfl⟩
  obtain ⟨p10, h10⟩ : ∃ p, p = ((a : Int) / 4294967296) * ((b : Int) % 4294967296) := ⟨_, rfl⟩
  obtain ⟨p11, h11⟩ : ∃ p, p = ((a : Int) / 4294967296) * ((b : Int) / 4294967296) := ⟨_, rfl⟩
  obtain ⟨e, b00, b01, b10, b11⟩ := Base.upper a b p00 p01 p10 p11 (by omega) (by omega) (by omega) (by omega) h00 h01 h10 h11
  have m1 : Go.bits .and .u64 (a : Int) 4294967295 = (a : Int) % 4294967296 := Base.and_u64 32 (by decide) _ _ (by decide)
  have m2 : Go.bits .and .u64 (b : Int) 4294967295 = (b : Int) % 4294967296 := Base.and_u64 32 (by decide) _ _ (by decide)
  unfold bits_Mul64.f
  rw [m1, m2, ← h00, ← h01, ← h10, ← h11]
  rw [Base.wu64_in p00 (by omega) (by omega), Base.wu64_in p01 (by omega) (by omega), Base.wu64_in p10 (by omega) (by omega), Base.wu64_in p11 (by omega) (by omega)]
  obtain ⟨t, ht⟩ : ∃ t, t = p10 + p00 / 4294967296 := ⟨_, rfl⟩
  rw [← ht, Base.wu64_in t (by omega) (by omega)]
  have m3 : Go.bits .and .u64 t 4294967295 = t % 4294967296 := Base.and_u64 32 (by decide) _ _ (by decide)
  rw [m3, Base.wu64_in (t % 4294967296 + p01) (by omega) (by omega)]
  rw [Base.wu64_in (p11 + t / 4294967296) (by omega) (by omega)]
  rw [Base.wu64, Base.wu64, e]
  have hn : ((a * b : Nat) : Int) = p11 * 18446744073709551616 + (p10 + p01) * 4294967296 + p00 := by rw [Int.natCast_mul]; exact e
  obtain ⟨N, hN⟩ : ∃ N, N = a * b := ⟨_, rfl⟩
  rw [← hN] at hn
  rw [← hN]
  have e1 : (p11 + t / 4294967296 + (t % 4294967296 + p01) / 4294967296) % 18446744073709551616 = ((N / 18446744073709551616 : Nat) : Int) := by omega
  have e2 : (p11 * 18446744073709551616 + (p10 + p01) * 4294967296 + p00) % 18446744073709551616 = ((N % 18446744073709551616 : Nat) : Int) := by omega
  rw [e1, e2]
theorem mul_nat (a b : Nat) (ha : a < Num.P) (hb : b < Num.P) : field_Mul.f (a : Int) (b : Int) = some ((a * b % Num.P : Nat) : Int) := by
  have hN : a * b ≤ 2305843009213693950 * 2305843009213693950 := by
    unfold Num.P at ha hb
    exact Nat.mul_le_mul (by omega) (by omega)
  unfold field_Mul.f
  rw [mul64_nat a b (by unfold Num.P at ha; omega) (by unfold Num.P at hb; omega)]
  generalize a * b = N at hN
  rw [Option.bind_some]
  rw [Base.wu64_in _ (by omega) (by omega), Base.or_u64 3 _ _ (by omega) (by omega) (by omega) (by omega) (by omega) (by omega)]
  have e1 : ((N / 18446744073709551616 : Nat) : Int) * 8 + ((N % 18446744073709551616 : Nat) : Int) / 2305843009213693952 = ((N / 2305843009213693952 : Nat) : Int) := by omega
  rw [e1, of_nat _ (by omega)]
  rw [Option.bind_some]
  rw [Base.and_u64 61 (by decide) _ _ (by decide), Base.tmod_nn _ _ (by omega)]
  have e2 : ((N % 18446744073709551616 : Nat) : Int) % 2 ^ 61 % 2305843009213693951 = ((N % 2305843009213693952 % Num.P : Nat) : Int) := by unfold Num.P; omega
  rw [e2, add_nat _ _ (Nat.mod_lt _ Num.P_pos) (Nat.mod_lt _ Num.P_pos)]
  rw [Option.bind_some]
  congr 2
  unfold Num.P
  omega
theorem fit_true : weighbridgelaw02_fit.f = some true := by
  have h1 := mul_nat 1152921504606846976 2 (by decide) (by decide)
  have h2 := of_nat 2305843009213693951 (by decide)
  rw [show 1152921504606846976 * 2 % Num.P = 1 from by decide] at h1
  rw [show 2305843009213693951 % Num.P = 0 from by decide] at h2
  have h1' : field_Mul.f 1152921504606846976 2 = some 1 := h1
  have h2' : field_Of.f 2305843009213693951 = some 0 := h2
  unfold weighbridgelaw02_fit.f
  rw [h1']
  rw [Option.bind_some]; simp only [if_true]
  rw [h2']
  rfl

theorem sub_nat (a b : Nat) (ha : a < Num.P) (hb : b < Num.P) : field_Sub.f (a : Int) (b : Int) = some (((a + Num.P - b) % Num.P : Nat) : Int) := by
  have e : IntKind.u64.wrap (IntKind.u64.wrap ((a : Int) + 2305843009213693951) - (b : Int)) = ((a + Num.P - b : Nat) : Int) := by
    unfold Num.P at ha hb ⊢
    rw [Base.wu64_in (_ + _) (by omega) (by omega), Base.wu64_in _ (by omega) (by omega)]
    omega
  have h : a + Num.P - b < 18446744073709551616 := by unfold Num.P at *; omega
  unfold field_Sub.f
  rw [e, of_nat _ h]; rw [Option.bind_some]

theorem rounds (a b : Nat) (ha : a < Num.P) (hb : b < Num.P) (y : Int) (hy : Int.tmod y 2305843009213693951 = (b : Int)) : ∀ d, d ≤ 8 → weighbridgelaw02_FieldOf.l0 (d + 1) y (a : Int) (8 - d : Int) = some true := by
  intro d
  induction d with
  | zero =>
    intro _
    simp only [weighbridgelaw02_FieldOf.l0]
    rw [if_neg (by decide), hy, add_nat _ _ ha hb]
    have hlt : ∀ x : Nat, ((x % Num.P : Nat) : Int) < 2305843009213693951 := fun x => by unfold Num.P; omega
    rw [Option.bind_some]
    rw [if_pos (hlt _), mul_nat _ _ ha hb]
    rw [Option.bind_some]
    rw [if_pos (hlt _), sub_nat _ _ ha hb]
    rw [Option.bind_some]
    rw [if_pos (hlt _), sub_nat _ _ ha ha]
    rw [Option.bind_some]
    rw [Nat.add_sub_cancel_left, Nat.mod_self]
    rfl
  | succ d ih =>
    intro hd
    have ih := ih (by omega)
    rw [weighbridgelaw02_FieldOf.l0, if_pos (by omega)]
    rw [Base.wu64_in (_ * _) (by omega) (by omega)]
    unfold Num.P at ha
    rw [Base.wu64_in (_ + _) (by omega) (by omega)]
    obtain ⟨x, hx⟩ : ∃ x : Nat, x = a + (7 - d) * 2305843009213693951 := ⟨_, rfl⟩
    have e : (a : Int) + (8 - ((d + 1 : Nat) : Int)) * 2305843009213693951 = (x : Int) := by omega
    rw [e, of_nat _ (by omega)]
    rw [Option.bind_some]
    have e2 : x % Num.P = a := by unfold Num.P; omega
    rw [e2, if_pos rfl, Base.wu64_in _ (by omega) (by omega)]
    rw [show (8 - ((d + 1 : Nat) : Int) + 1) = 8 - (d : Int) from by omega]
    exact ih

theorem FieldOf : weighbridgelaw02_FieldOf.Pure := by
  intro x y hx hy
  obtain ⟨hx0, hx1⟩ := Base.wf_u64 hx
  obtain ⟨hy0, hy1⟩ := Base.wf_u64 hy
  refine ⟨9, ?_⟩
  unfold weighbridgelaw02_FieldOf.f
  rw [fit_true]
  rw [Option.bind_some]; simp only [if_true]
  rw [Base.tmod_nn x _ hx0]
  obtain ⟨a, ha⟩ : ∃ a : Nat, (a : Int) = x % 2305843009213693951 := ⟨(x % 2305843009213693951).toNat, by omega⟩
  obtain ⟨b, hb⟩ : ∃ b : Nat, (b : Int) = y % 2305843009213693951 := ⟨(y % 2305843009213693951).toNat, by omega⟩
  rw [← ha]
  have h := rounds a b (by unfold Num.P; omega) (by unfold Num.P; omega) y (by rw [Base.tmod_nn y _ hy0, hb]) 8 (by decide)
  exact h

end Go.Proofs.Ytdeonoekalicjaa.Pure
