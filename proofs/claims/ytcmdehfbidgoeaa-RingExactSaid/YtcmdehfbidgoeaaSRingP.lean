/- Plain laws on what a ring tells. No condition. -/
import Derived.Test.YtcmdehfbidgoeaaSLaw07
namespace Go.Proofs.Ytcmdehfbidgoeaa.Can
open Go
set_option linter.unusedSimpArgs false
set_option linter.unusedVariables false

def sumT (f : Nat → Int) : Nat → Int
  | 0 => 0
  | k + 1 => sumT f k + f k
theorem sumT_le {f g : Nat → Int} : ∀ K, (∀ k, k < K → f k ≤ g k) → sumT f K ≤ sumT g K
  | 0, _ => Int.le_refl 0
  | K + 1, h => by have h1 := sumT_le K fun k hk => h k (by omega); have h2 := h K (by omega); simp only [sumT]; omega
theorem sumT_congr {f g : Nat → Int} (K : Nat) (h : ∀ k, k < K → f k = g k) : sumT f K = sumT g K :=
  Int.le_antisymm (sumT_le K fun k hk => Int.le_of_eq (h k hk)) (sumT_le K fun k hk => Int.le_of_eq (h k hk).symm)
theorem sumT_shift (f : Nat → Int) : ∀ K, sumT f (K + 1) = f 0 + sumT (fun k => f (k + 1)) K
  | 0 => by simp only [sumT]; omega
  | K + 1 => by rw [sumT, sumT_shift f K, sumT]; omega
theorem sumT_in {f : Nat → Int} {M : Int} (hM : 0 ≤ M) : ∀ K : Nat, (∀ k, k < K → 0 ≤ f k ∧ f k ≤ M) → 0 ≤ sumT f K ∧ sumT f K ≤ K * M
  | 0, _ => by simp [sumT]
  | K + 1, h => by
    have h1 := sumT_in hM K fun k hk => h k (by omega)
    have h2 := h K (by omega)
    have e : ((K + 1 : Nat) : Int) * M = K * M + M := by rw [Int.natCast_add, Int.add_mul]; simp
    simp only [sumT]; rw [e]; omega
theorem sumT_zero {f : Nat → Int} : ∀ K, (∀ k, k < K → f k = 0) → sumT f K = 0
  | 0, _ => rfl
  | K + 1, h => by rw [sumT, sumT_zero K fun k hk => h k (by omega), h K (by omega)]; rfl
theorem fromN_sum (r : RP) (st : List Int) (cs : Nat → List Int) (key : ByteArray) (n : Int) (into : Nat) {M : Int} (hM : 0 ≤ M) : ∀ K : Nat, K * M ≤ 9223372036854775807 → (∀ k, k < K → 0 ≤ termN r st cs key n into k ∧ termN r st cs key n into k ≤ M) → fromN r st cs key n into K = sumT (termN r st cs key n into) K
  | 0, _, _ => rfl
  | K + 1, hK, h => by
    have e : ((K + 1 : Nat) : Int) * M = K * M + M := by rw [Int.natCast_add, Int.add_mul]; simp
    have ih := fromN_sum r st cs key n into hM K (by omega) fun k hk => h k (by omega)
    have h1 := sumT_in hM K fun k hk => h k (by omega)
    have h2 := h K (by omega)
    simp only [fromN, sumT]
    rw [ih, near_eq (by unfold I64; omega)]
theorem ceilN_le (m w W : Nat) (hw : w ≤ W) (hW : 1 ≤ W) : ceilN (m * w) W ≤ m := by
  have hmul : m * w ≤ m * W := Nat.mul_le_mul_left m hw
  have hq : m * w / W ≤ m := Nat.div_le_of_le_mul (by rw [Nat.mul_comm W]; exact hmul)
  unfold ceilN
  split
  · exact hq
  · rename_i hne
    have h1 := Nat.div_add_mod (m * w) W
    have h2 : W * (m * w / W) < W * m := by rw [Nat.mul_comm W m]; omega
    have := Nat.lt_of_mul_lt_mul_left h2
    omega
theorem ceilN_mono {a b c : Nat} (h : a ≤ b) : ceilN a c ≤ ceilN b c := by
  have h1 := Nat.div_le_div_right (c := c) h
  unfold ceilN
  split
  · split <;> omega
  · split
    · rename_i h2 h3
      have h4 := Nat.div_add_mod a c
      have h5 := Nat.div_add_mod b c
      by_cases e : a / c = b / c
      · rw [e] at h4; omega
      · omega
    · omega
theorem eldN_le' (r : RP) (hW : 1 ≤ r.W) (m into : Nat) : eldN r m into ≤ m := by
  unfold eldN
  split
  · exact ceilN_le _ _ _ (by omega) (by omega)
  · omega
theorem eldN_mono (r : RP) (m : Nat) {i j : Nat} (h : i ≤ j) : eldN r m j ≤ eldN r m i := by
  unfold eldN
  split
  · exact ceilN_mono (Nat.mul_le_mul_left m (by omega))
  · omega
/-- No counter is above this. -/
def Bd (cs : Nat → List Int) (M : Int) : Prop := ∀ i j, ctr (cs i) j ≤ M
theorem Bd.zero (n : Nat) {M : Int} (hM : 0 ≤ M) : Bd (fun _ => List.replicate n 0) M := fun i j => by rw [ctr_zero]; exact hM
theorem Bd.least {cs : Nat → List Int} {M : Int} (hM : 0 ≤ M) (b : Bd cs M) (r : RP) (st : List Int) (key : ByteArray) (n : Int) : leastAt r st cs key n ≤ M := by
  unfold leastAt
  split
  · obtain ⟨k, _, e⟩ := leastN_is (cs (pl r n)) (ix r.rows r.w key) (r.rows.length - 1)
    rw [e]; exact b _ _
  · exact hM
theorem Bd.add {cs : Nat → List Int} {M : Int} (hM : 0 ≤ M) (b : Bd cs M) (r : RP) (st : List Int) (n : Int) (f : Nat → Nat) (cost : Int) (hc : 0 ≤ cost ∧ M + cost ≤ 9223372036854775807) : Bd (putC cs (pl r n) (addC (baseC r st cs n) f r.rows.length cost)) (M + cost) := fun i j => by
  have hb : ∀ j, ctr (baseC r st cs n) j ≤ M := fun j => by
    unfold baseC
    split
    · exact b _ _
    · rw [ctr_zero]; exact hM
  unfold putC
  split
  · unfold addC
    split
    · have := hb j; omega
    · have h2 := addN_top (baseC r st cs n) f (near (leastN (baseC r st cs n) f (r.rows.length - 1) + cost)) r.rows.length j
      obtain ⟨k, _, e⟩ := leastN_is (baseC r st cs n) f (r.rows.length - 1)
      have h3 := hb (f k)
      have h4 := hb j
      have h5 := near_mono (show leastN (baseC r st cs n) f (r.rows.length - 1) + cost ≤ M + cost by omega)
      rw [near_eq (show I64 (M + cost) by unfold I64; omega)] at h5
      omega
  · have := b i j; omega
theorem Bd.mono {cs : Nat → List Int} {M M' : Int} (b : Bd cs M) (h : M ≤ M') : Bd cs M' := fun i j => Int.le_trans (b i j) h
section
variable {r : RP} {now : Int} {st : List Int} {cs : Nat → List Int}
theorem term_in (hW : 1 ≤ r.W) (k0 : Pos cs) {M : Int} (hM : 0 ≤ M) (b : Bd cs M) (key : ByteArray) (n : Int) (into k : Nat) : 0 ≤ termN r st cs key n into k ∧ termN r st cs key n into k ≤ M := by
  have h1 := (k0.least r st key (n - r.N + 1 + k)).1
  have h2 := b.least hM r st key (n - r.N + 1 + k)
  have h3 := eldN_le' r hW (leastAt r st cs key (n - r.N + 1 + k)).toNat into
  unfold termN
  split <;> omega
theorem est_sum (hW : 1 ≤ r.W) (hN : r.N ≤ 65) (k0 : Pos cs) {M : Int} (hM : 0 ≤ M ∧ M ≤ 141898031336227320) (b : Bd cs M) (key : ByteArray) (n : Int) (into : Nat) :
    fromN r st cs key n into r.N = sumT (termN r st cs key n into) r.N ∧ 0 ≤ fromN r st cs key n into r.N ∧ fromN r st cs key n into r.N ≤ 65 * M := by
  have h1 : (r.N : Int) * M ≤ 65 * M := Int.mul_le_mul_of_nonneg_right (by omega) hM.1
  have e := fromN_sum r st cs key n into hM.1 r.N (by omega) fun k _ => term_in hW k0 hM.1 b key n into k
  have h2 := sumT_in hM.1 r.N fun k _ => term_in hW k0 hM.1 b key n into k (r := r) (st := st)
  rw [e]; exact ⟨rfl, h2.1, by omega⟩
/-- A moment later an estimate is no more. -/
theorem est_fades (hW : 1 ≤ r.W) (hN : 2 ≤ r.N ∧ r.N ≤ 65) (K : OkR r now st cs) {M : Int} (hM : 0 ≤ M ∧ M ≤ 141898031336227320) (b : Bd cs M) (key : ByteArray) : estN r (now + 1) st cs key ≤ estN r now st cs key := by
  have now0 := K.now0
  have h1 := Int.ediv_mul_add_emod now r.W
  have h2 := Int.emod_nonneg now (show r.W ≠ 0 by omega)
  have h3 := Int.emod_lt_of_pos now (show 0 < r.W by omega)
  have p := fun i => K.pos.least r st key i
  unfold estN
  rw [(est_sum hW hN.2 K.pos hM b key _ _).1, (est_sum hW hN.2 K.pos hM b key _ _).1]
  obtain ⟨n, hn⟩ : ∃ n, n = now / r.W := ⟨_, rfl⟩
  have ah := fun m (h : now / r.W < m) => K.ahead hW key h
  by_cases c : now % r.W + 1 < r.W
  · have e1 : (now + 1) / r.W = n := by
      rw [show now + 1 = (now % r.W + 1) + now / r.W * r.W by omega, Int.add_mul_ediv_right _ _ (by omega), Int.ediv_eq_zero_of_lt (by omega) c, hn]; omega
    have e2 : (now + 1) % r.W = now % r.W + 1 := by
      rw [show now + 1 = (now % r.W + 1) + now / r.W * r.W by omega, Int.add_mul_emod_self_right, Int.emod_eq_of_lt (by omega) c]
    rw [e1, e2, ← hn]
    apply sumT_le
    intro k _
    unfold termN
    split
    · have := eldN_mono r (leastAt r st cs key (n - r.N + 1 + k)).toNat (show (now % r.W).toNat ≤ (now % r.W + 1).toNat by omega)
      omega
    · omega
  · have e0 : now + 1 = (n + 1) * r.W := by rw [Int.add_mul, hn]; omega
    have e1 : (now + 1) / r.W = n + 1 := by rw [e0, Int.mul_ediv_cancel _ (by omega)]
    have e2 : (now + 1) % r.W = 0 := by rw [e0, Int.mul_emod_left]
    rw [e1, e2, ← hn]
    obtain ⟨N, hN'⟩ : ∃ N, r.N = N + 1 := ⟨r.N - 1, by omega⟩
    have t2 : sumT (termN r st cs key n (now % r.W).toNat) r.N = termN r st cs key n (now % r.W).toNat 0 + sumT (fun k => termN r st cs key n (now % r.W).toNat (k + 1)) N := by rw [hN', sumT_shift]
    have t1 : sumT (termN r st cs key (n + 1) (Int.toNat 0)) r.N = sumT (termN r st cs key (n + 1) (Int.toNat 0)) N + termN r st cs key (n + 1) (Int.toNat 0) N := by rw [hN', sumT]
    rw [t1, t2]
    have z : termN r st cs key (n + 1) (Int.toNat 0) N = 0 := by
      unfold termN
      rw [if_neg (by omega)]
      exact ah _ (by omega)
    have le : sumT (termN r st cs key (n + 1) (Int.toNat 0)) N ≤ sumT (fun k => termN r st cs key n (now % r.W).toNat (k + 1)) N := by
      apply sumT_le
      intro k _
      unfold termN
      rw [if_neg (Nat.succ_ne_zero k), show n - (r.N : Int) + 1 + ((k + 1 : Nat) : Int) = n + 1 - r.N + 1 + k by omega]
      split
      · have := eldN_le' r hW (leastAt r st cs key (n + 1 - r.N + 1 + k)).toNat (Int.toNat 0)
        have := p (n + 1 - r.N + 1 + k)
        omega
      · omega
    have := (term_in hW K.pos hM.1 b key n (now % r.W).toNat 0 (st := st)).1
    omega
/-- An estimate is not above the mass of a row. -/
theorem from_mass (hW : 1 ≤ r.W) (k0 : Pos cs) (row : Nat) (hr : row < r.rows.length) (key : ByteArray) (n : Int) (into : Nat) : ∀ K, fromN r st cs key n into K ≤ massN r st cs row key n K
  | 0 => Int.le_refl _
  | K + 1 => by
    have ih := from_mass hW k0 row hr key n into K
    have e : leastAt r st cs key (n - r.N + 1 + K) ≤ countAt r st cs row key (n - r.N + 1 + K) := by
      unfold leastAt countAt
      split
      · rw [if_pos ⟨by omega, by omega⟩, Int.toNat_natCast]
        exact leastN_le _ _ _ _ (by omega)
      · omega
    have h1 := (k0.least r st key (n - r.N + 1 + K)).1
    have h3 := eldN_le' r hW (leastAt r st cs key (n - r.N + 1 + K)).toNat into
    have t : termN r st cs key n into K ≤ leastAt r st cs key (n - r.N + 1 + K) := by
      unfold termN
      split <;> omega
    simp only [fromN, massN]
    exact near_mono (by omega)
/-- Behind all slots there is nothing. -/
theorem from_none (hW : 1 ≤ r.W) (key : ByteArray) (n : Int) (into : Nat) (h : ∀ i, n - r.N + 1 ≤ i → leastAt r st cs key i = 0) : ∀ K, fromN r st cs key n into K = 0
  | 0 => rfl
  | K + 1 => by
    have ih := from_none hW key n into h K
    have t : termN r st cs key n into K = 0 := by
      have e := h (n - r.N + 1 + K) (by omega)
      have h3 := eldN_le' r hW (leastAt r st cs key (n - r.N + 1 + K)).toNat into
      unfold termN
      rw [e] at *
      split
      · simp only [Int.toNat_zero] at *; omega
      · rfl
    simp only [fromN]
    rw [ih, t]; rfl
end
end Go.Proofs.Ytcmdehfbidgoeaa.Can
