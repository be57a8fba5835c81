/- Cells, in plain numbers. No condition. -/
import Derived.Test.YtdnimnlnicnjnaaSArith
namespace Go.Proofs.Ytdnimnlnicnjnaa.Can
open Go
set_option linter.unusedSimpArgs false
set_option linter.unusedVariables false

/-- Numbers as they come up: none is near the end of the range. -/
def Small (z : Int) : Prop := 0 ≤ z ∧ z ≤ 2306000000000000000
/-- A pace of small numbers. -/
structure PaceOk (T W B L : Int) : Prop where
  t1 : 1 ≤ T
  t2 : T ≤ 256
  w1 : 1 ≤ W
  w2 : W ≤ 256
  b1 : 1 ≤ B
  bl : B ≤ L
  l2 : L ≤ 32
  unit : W ≤ T * (L + 1 - B)
  least : (T - 1) * (L + 1 - B) < W
theorem bt_le {T W B L : Int} (h : PaceOk T W B L) : 1 ≤ B * T ∧ B * T ≤ 8192 := by
  obtain ⟨t1, t2, w1, w2, b1, bl, l2, _, _⟩ := h
  refine ⟨?_, ?_⟩
  · have := Int.mul_le_mul b1 t1 (by omega) (by omega); omega
  · have := Int.mul_le_mul (show B ≤ 32 by omega) t2 (by omega) (by omega); omega
/-- Room by the pace alone. -/
def base (F T B now : Int) : Int := if 0 < F - now then (if B * T < F - now then 0 else (B * T - (F - now)) / T) else B
def room (F S C U T W B L now : Int) : Int := if now < S + W then min (base F T B now) (max (L - (C + U)) 0) else base F T B now
theorem base_range {F T B now W L : Int} (h : PaceOk T W B L) : 0 ≤ base F T B now ∧ base F T B now ≤ B := by
  have hbt := bt_le h
  have ht := h.t1
  have hb := h.b1
  unfold base
  split
  · split
    · omega
    · refine ⟨Int.ediv_nonneg (by omega) (by omega), ?_⟩
      have : (B * T - (F - now)) / T ≤ B * T / T := Int.ediv_le_ediv (by omega) (by omega)
      rw [Int.mul_ediv_cancel B (by omega)] at this
      exact this
  · omega
theorem room_range {F S C U T W B L now : Int} (h : PaceOk T W B L) : 0 ≤ room F S C U T W B L now ∧ room F S C U T W B L now ≤ B := by
  have := @base_range F T B now W L h
  unfold room
  split <;> omega
theorem base_mono {F T B now d W L : Int} (hd : 0 ≤ d) (h : PaceOk T W B L) : base F T B now ≤ base F T B (now + d) := by
  have r1 := @base_range F T B now W L h
  have r2 := @base_range F T B (now + d) W L h
  have ht := h.t1
  by_cases c2 : 0 < F - (now + d)
  · by_cases c3 : B * T < F - now
    · have : base F T B now = 0 := by unfold base; rw [if_pos (by omega), if_pos c3]
      omega
    · unfold base
      rw [if_pos (by omega), if_neg c3, if_pos c2, if_neg (by omega)]
      exact Int.ediv_le_ediv (by omega) (by omega)
  · have : base F T B (now + d) = B := by unfold base; rw [if_neg c2]
    omega
theorem room_mono {F S C U T W B L now d : Int} (hd : 0 ≤ d) (h : PaceOk T W B L) : room F S C U T W B L now ≤ room F S C U T W B L (now + d) := by
  have hm := @base_mono F T B now d W L hd h
  unfold room
  split <;> split <;> omega
/-- A cost that there is room for shrinks the base by itself. -/
theorem base_take {F T B now c W L : Int} (h : PaceOk T W B L) (hc : 1 ≤ c) (hle : c ≤ base F T B now) : base (max F now + c * T) T B now = base F T B now - c ∧ max F now + c * T ≤ now + B * T := by
  have ht := h.t1
  have hbt := bt_le h
  have hcT : 1 ≤ c * T := by have := Int.mul_le_mul hc ht (by omega) (by omega); omega
  have key : ∀ a : Int, 0 ≤ a → a ≤ B * T → c ≤ (B * T - a) / T → c * T ≤ B * T - a ∧ (B * T - (a + c * T)) / T = (B * T - a) / T - c := by
    intro a h0 h1 h2
    have h3 : c * T ≤ B * T - a := by
      have := (Int.le_ediv_iff_mul_le (show 0 < T by omega)).mp h2
      exact this
    refine ⟨h3, ?_⟩
    have e : B * T - (a + c * T) = (B * T - a) + (-c) * T := by rw [Int.neg_mul]; omega
    rw [e, Int.add_mul_ediv_right _ _ (by omega)]; omega
  by_cases c1 : 0 < F - now
  · have hb : ¬ B * T < F - now := fun hlt => by
      have : base F T B now = 0 := by unfold base; rw [if_pos c1, if_pos hlt]
      omega
    have he : base F T B now = (B * T - (F - now)) / T := by unfold base; rw [if_pos c1, if_neg hb]
    rw [he] at hle
    obtain ⟨k1, k2⟩ := key (F - now) (by omega) (by omega) hle
    rw [he]
    refine ⟨?_, by omega⟩
    have hm : max F now = F := by omega
    unfold base
    rw [hm, if_pos (by omega), if_neg (by omega), ← k2]
    congr 2; omega
  · have he : base F T B now = B := by unfold base; rw [if_neg c1]
    rw [he] at hle
    have hdiv : (B * T - 0) / T = B := by rw [Int.sub_zero, Int.mul_ediv_cancel B (by omega)]
    obtain ⟨k1, k2⟩ := key 0 (by omega) (by omega) (by rw [hdiv]; exact hle)
    rw [he]
    have hm : max F now = now := by omega
    refine ⟨?_, by omega⟩
    unfold base
    rw [hm, if_pos (by omega), if_neg (by omega)]
    rw [hdiv] at k2
    rw [← k2]
    congr 2; omega
/-- How long it is till there is room, by the pace alone; and in all. -/
def lag (F T B now c : Int) : Int := max (max F now - (now + (B - c) * T)) 0
def wait (F S C U T W B L now c : Int) : Int := if now < S + W ∧ L < C + U + c then max (lag F T B now c) (S + W - now) else lag F T B now c
theorem bc_le {T W B L c : Int} (h : PaceOk T W B L) (hc1 : 1 ≤ c) (hc2 : c ≤ B) : 0 ≤ (B - c) * T ∧ (B - c) * T ≤ 8192 := by
  obtain ⟨t1, t2, w1, w2, b1, bl, l2, _, _⟩ := h
  refine ⟨Int.mul_nonneg (by omega) (by omega), ?_⟩
  have := Int.mul_le_mul (show B - c ≤ 32 by omega) t2 (by omega) (by omega); omega
theorem base_ge {T W B L : Int} (F now c : Int) (h : PaceOk T W B L) (hc1 : 1 ≤ c) (hc2 : c ≤ B) : c ≤ base F T B now ↔ F - now ≤ (B - c) * T := by
  have ht := h.t1
  have hcT : 1 ≤ c * T := by have := Int.mul_le_mul hc1 ht (by omega) (by omega); omega
  have hx : (B - c) * T = B * T - c * T := Int.sub_mul B c T
  have hx0 : 0 ≤ (B - c) * T := Int.mul_nonneg (by omega) (by omega)
  unfold base
  by_cases p : 0 < F - now
  · rw [if_pos p]
    by_cases q : B * T < F - now
    · rw [if_pos q]; omega
    · rw [if_neg q, Int.le_ediv_iff_mul_le (show 0 < T by omega)]; omega
  · rw [if_neg p]; omega
theorem room_ge {T W B L : Int} (F S C U now c : Int) (h : PaceOk T W B L) (hc1 : 1 ≤ c) (hc2 : c ≤ B) : c ≤ room F S C U T W B L now ↔ (F - now ≤ (B - c) * T ∧ (now < S + W → C + U + c ≤ L)) := by
  rw [← base_ge F now c h hc1 hc2]
  unfold room
  by_cases p : now < S + W
  · rw [if_pos p]; omega
  · rw [if_neg p]; omega
theorem wait_is {T W B L : Int} (F S C U now c : Int) (h : PaceOk T W B L) (hc1 : 1 ≤ c) (hc2 : c ≤ B) :
    0 ≤ wait F S C U T W B L now c ∧ (wait F S C U T W B L now c = 0 ↔ c ≤ room F S C U T W B L now) ∧ (0 < wait F S C U T W B L now c → ¬ c ≤ room F S C U T W B L (now + wait F S C U T W B L now c - 1)) ∧ c ≤ room F S C U T W B L (now + wait F S C U T W B L now c) := by
  have hx0 := (bc_le h hc1 hc2).1
  have hbl := h.bl
  rw [room_ge F S C U now c h hc1 hc2, room_ge F S C U _ c h hc1 hc2, room_ge F S C U _ c h hc1 hc2]
  have hlag : lag F T B now c = max (F - now - (B - c) * T) 0 := by unfold lag; omega
  by_cases q : now < S + W ∧ L < C + U + c
  · have e : wait F S C U T W B L now c = max (max (F - now - (B - c) * T) 0) (S + W - now) := by unfold wait; rw [if_pos q, hlag]
    rw [e]
    omega
  · have e : wait F S C U T W B L now c = max (F - now - (B - c) * T) 0 := by unfold wait; rw [if_neg q, hlag]
    rw [e]
    omega
theorem wait_le {T W B L : Int} (F S C U now c : Int) (h : PaceOk T W B L) (hc1 : 1 ≤ c) (hc2 : c ≤ B) (hn : 0 ≤ now) (hS : 0 ≤ S + W) : wait F S C U T W B L now c ≤ max F (S + W) := by
  have hx0 := (bc_le h hc1 hc2).1
  unfold wait lag
  split <;> omega
theorem step_iff {T W B L : Int} (h : PaceOk T W B L) (F now D : Int) (i : Nat) (hi : (i : Int) + 1 ≤ B) (hD : max D now = max F now + i * T) :
    max D now ≤ now + (B - 1) * T ↔ (i : Int) + 1 ≤ base F T B now := by
  rw [base_ge F now ((i : Int) + 1) h (by omega) hi, hD]
  have e : (B - 1) * T = (B - ((i : Int) + 1)) * T + i * T := by rw [← Int.add_mul]; congr 1; omega
  have hx := (bc_le h (show 1 ≤ (i : Int) + 1 by omega) hi).1
  omega
theorem iT_le {T W B L : Int} (h : PaceOk T W B L) (i : Nat) (hi : (i : Int) ≤ B) : 0 ≤ (i : Int) * T ∧ (i : Int) * T ≤ 8192 := by
  obtain ⟨t1, t2, w1, w2, b1, bl, l2, _, _⟩ := h
  refine ⟨Int.mul_nonneg (by omega) (by omega), ?_⟩
  have := Int.mul_le_mul (show (i : Int) ≤ 32 by omega) t2 (by omega) (by omega); omega
/-- Small enough that a burst's units may be added. -/
def Low (z : Int) : Prop := 0 ≤ z ∧ z ≤ 2305999999999900000
end Go.Proofs.Ytdnimnlnicnjnaa.Can
