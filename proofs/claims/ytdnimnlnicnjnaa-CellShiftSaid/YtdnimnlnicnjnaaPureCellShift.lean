/- Proved: a cell knows no time of day: shifted in time it answers the same. For every input; no condition. -/
import Derived.Test.YtdnimnlnicnjnaaQCellShiftx5
import Derived.Test.YtdnimnlnicnjnaaBase
import Derived.Test.YtdnimnlnicnjnaaRange
namespace Go.Proofs.Ytdnimnlnicnjnaa.Pure
open Go Go.RowKit Go.Proofs.Ytdnimnlnicnjnaa Go.Proofs.Ytdnimnlnicnjnaa.QCellShift Go.Proofs.YtdnimnlnicnjnaaW.PrintWords Go.Proofs.YtdnimnlnicnjnaaW.PrintLast Go.Proofs.YtdnimnlnicnjnaaW.PrintMore
theorem ceil_int (a b : Int) (ha0 : 0 ≤ a) (ha : Range.In a) (hb1 : 1 ≤ b) (hb : Range.In b) (k : Nat) : ∃ q, arith_Ceil.f (k + 1) a b = some q ∧ 0 ≤ q ∧ q ≤ a ∧ a ≤ q * b ∧ (q = 0 ∧ a = 0 ∨ 0 < q ∧ (q - 1) * b < a) := by
  unfold arith_Ceil.f
  unfold Range.In at ha hb
  rw [if_neg (by omega), decide_eq_false (by omega), arith_Ceil.j0, if_neg Bool.false_ne_true, if_neg (by omega), Base.tmod_nn a b ha0, Base.tdiv_nn a b ha0]
  have h1 := Int.mul_ediv_add_emod a b
  have h2 := Int.emod_nonneg a (show b ≠ 0 by omega)
  have h3 := Int.emod_lt_of_pos a (show 0 < b by omega)
  have h4 : 0 ≤ a / b := Int.ediv_nonneg ha0 (by omega)
  have h5 : a / b ≤ a := Int.ediv_le_self b ha0
  have hw : wrap64 (a / b) = a / b := Base.w64_in _ (by omega) (by omega)
  obtain ⟨q, hq⟩ : ∃ q, q = a / b := ⟨_, rfl⟩
  obtain ⟨r, hr⟩ : ∃ r, r = a % b := ⟨_, rfl⟩
  rw [hw, ← hq, ← hr]
  rw [← hq] at h1 h4 h5
  rw [← hr] at h1 h2 h3
  rw [Int.mul_comm] at h1
  have hqb : 0 < q → b ≤ q * b := fun h => by have := Int.mul_le_mul_of_nonneg_right (show 1 ≤ q from h) (show 0 ≤ b by omega); rw [Int.one_mul] at this; exact this
  by_cases c : r > 0
  · rw [if_pos c]
    have hle : q < a := by
      rcases Int.lt_or_eq_of_le h4 with h | h
      · have : q * 1 ≤ q * b := Int.mul_le_mul_of_nonneg_left hb1 h4
        omega
      · rw [← h]; rw [← h, Int.zero_mul] at h1; omega
    refine ⟨q + 1, by rw [Base.w64_in _ (by omega) (by omega)], by omega, by omega, ?_, .inr ⟨by omega, ?_⟩⟩
    · rw [Int.add_mul, Int.one_mul]; omega
    · rw [show q + 1 - 1 = q from by omega]; omega
  · rw [if_neg c]
    refine ⟨q, rfl, h4, h5, by omega, ?_⟩
    rcases Int.lt_or_eq_of_le h4 with h | h
    · right
      refine ⟨h, ?_⟩
      rw [Int.sub_mul, Int.one_mul]; omega
    · left
      rw [← h, Int.zero_mul] at h1
      exact ⟨h.symm, by omega⟩

/-! ### Cells -/
theorem gap_nat (n : Int) : ∃ g : Int, weighbridgelaw09_gap.f n = some g ∧ 0 ≤ g ∧ g ≤ 4095 := by
  unfold weighbridgelaw09_gap.f
  rw [Base.and_i64 1 (by decide) _ _ (by decide), Base.and_i64 12 (by decide) _ 4095 (by decide), Base.and_i64 5 (by decide) _ 31 (by decide)]
  split
  · exact ⟨_, rfl, by omega, by omega⟩
  · exact ⟨_, rfl, by omega, by omega⟩

/-- Numbers as they come up: none is near the end of the range. -/
def Small (z : Int) : Prop := 0 ≤ z ∧ z ≤ 2305843009213693952
/-- A pace of small numbers. -/
structure PaceOk (T W B L : Int) : Prop where
  t1 : 1 ≤ T
  t2 : T ≤ 256
  w1 : 1 ≤ W
  w2 : W ≤ 256
  b1 : 1 ≤ B
  bl : B ≤ L
  l2 : L ≤ 32
  unit : W ≤ T * (L + 1 - B)
  least : (T - 1) * (L + 1 - B) < W
theorem bt_le {T W B L : Int} (h : PaceOk T W B L) : 1 ≤ B * T ∧ B * T ≤ 8192 := by
  obtain ⟨t1, t2, w1, w2, b1, bl, l2, _, _⟩ := h
  refine ⟨?_, ?_⟩
  · have := Int.mul_le_mul b1 t1 (by omega) (by omega); omega
  · have := Int.mul_le_mul (show B ≤ 32 by omega) t2 (by omega) (by omega); omega
/-- Room by the pace alone. -/
def base (F T B now : Int) : Int := if 0 < F - now then (if B * T < F - now then 0 else (B * T - (F - now)) / T) else B
def room (F S C U T W B L now : Int) : Int := if now < S + W then min (base F T B now) (max (L - (C + U)) 0) else base F T B now
theorem sum_small (a b : Int) (ha : 0 ≤ a) (ha2 : a ≤ 4611686018427387904) (hb : 0 ≤ b) (hb2 : b ≤ 4611686018427387903) : arith_Sum.f a b = some (a + b) := by
  unfold arith_Sum.f arith_Add.f
  rw [Option.bind_some]
  dsimp only
  rw [Base.w64_in _ (by omega) (by omega), if_pos (by rw [beq_iff_eq, decide_eq_decide]; omega)]
theorem young_eq (F S C U T W B L now : Int) (hS : Small S) (h : PaceOk T W B L) : cell_Cell_young.f F S C U T W B L now = some (decide (now < S + W)) := by
  unfold cell_Cell_young.f
  obtain ⟨_, _, w1, w2, _, _, _, _, _⟩ := h
  unfold Small at hS
  rw [sum_small S W (by omega) (by omega) (by omega) (by omega), Option.bind_some]
theorem mn_min (a b : Int) : mn a b = min a b := by unfold mn; omega
theorem mx_max (a b : Int) : mx a b = max a b := by unfold mx; omega
theorem room_j (b F S C U T W B L now : Int) (hS : Small S) (hC : Small C) (hU : Small U) (h : PaceOk T W B L) (k : Nat) :
    cell_Cell_Room.j0 (k + 1) now b F S C U T W B L = some (if now < S + W then min b (max (L - (C + U)) 0) else b) := by
  have hl := h.l2
  have hl1 := h.bl
  have hb1 := h.b1
  unfold Small at hC hU
  rw [cell_Cell_Room.j0, young_eq F S C U T W B L now hS h, Option.bind_some]
  by_cases c : now < S + W
  · rw [decide_eq_true c, if_pos rfl, if_pos c, sum_small C U (by omega) (by omega) (by omega) (by omega), Option.bind_some, mn_min, mx_max, Base.w64_in _ (by omega) (by omega)]
  · rw [decide_eq_false c, if_neg Bool.false_ne_true, if_neg c]
theorem room_eq (F S C U T W B L now : Int) (hF : Small F) (hS : Small S) (hC : Small C) (hU : Small U) (hn : Small now) (h : PaceOk T W B L) (k : Nat) :
    cell_Cell_Room.f (k + 1) F S C U T W B L now = some (room F S C U T W B L now) := by
  have hbt := bt_le h
  have ht := h.t1
  unfold cell_Cell_Room.f room base
  have hF' := hF
  have hn' := hn
  unfold Small at hF' hn'
  rw [Base.w64_in (F - now) (by omega) (by omega), Base.w64_in (B * T) (by omega) (by omega)]
  by_cases c : 0 < F - now
  · rw [if_pos c, if_pos c, if_neg (by omega)]
    by_cases c2 : B * T < F - now
    · rw [if_pos c2, if_pos c2]
      exact room_j 0 F S C U T W B L now hS hC hU h k
    · rw [if_neg c2, if_neg c2, room_j _ F S C U T W B L now hS hC hU h k, Base.w64_in (B * T - (F - now)) (by omega) (by omega), Base.tdiv_nn _ _ (by omega)]
      have h0 : 0 ≤ (B * T - (F - now)) / T := Int.ediv_nonneg (by omega) (by omega)
      have h1 : (B * T - (F - now)) / T ≤ B * T - (F - now) := Int.ediv_le_self T (by omega)
      rw [Base.w64_in _ (by omega) (by omega), mx_max, show max ((B * T - (F - now)) / T) 0 = (B * T - (F - now)) / T from by omega]
  · rw [if_neg c, if_neg c]
    exact room_j B F S C U T W B L now hS hC hU h k
theorem base_range {F T B now W L : Int} (h : PaceOk T W B L) : 0 ≤ base F T B now ∧ base F T B now ≤ B := by
  have hbt := bt_le h
  have ht := h.t1
  have hb := h.b1
  unfold base
  split
  · split
    · omega
    · refine ⟨Int.ediv_nonneg (by omega) (by omega), ?_⟩
      have : (B * T - (F - now)) / T ≤ B * T / T := Int.ediv_le_ediv (by omega) (by omega)
      rw [Int.mul_ediv_cancel B (by omega)] at this
      exact this
  · omega
theorem room_range {F S C U T W B L now : Int} (h : PaceOk T W B L) : 0 ≤ room F S C U T W B L now ∧ room F S C U T W B L now ≤ B := by
  have := @base_range F T B now W L h
  unfold room
  split <;> omega
theorem base_mono {F T B now d W L : Int} (hd : 0 ≤ d) (h : PaceOk T W B L) : base F T B now ≤ base F T B (now + d) := by
  have r1 := @base_range F T B now W L h
  have r2 := @base_range F T B (now + d) W L h
  have ht := h.t1
  by_cases c2 : 0 < F - (now + d)
  · by_cases c3 : B * T < F - now
    · have : base F T B now = 0 := by unfold base; rw [if_pos (by omega), if_pos c3]
      omega
    · unfold base
      rw [if_pos (by omega), if_neg c3, if_pos c2, if_neg (by omega)]
      exact Int.ediv_le_ediv (by omega) (by omega)
  · have : base F T B (now + d) = B := by unfold base; rw [if_neg c2]
    omega
theorem room_mono {F S C U T W B L now d : Int} (hd : 0 ≤ d) (h : PaceOk T W B L) : room F S C U T W B L now ≤ room F S C U T W B L (now + d) := by
  have hm := @base_mono F T B now d W L hd h
  unfold room
  split <;> split <;> omega
/-- A cost that there is room for shrinks the base by itself. -/
theorem base_take {F T B now c W L : Int} (h : PaceOk T W B L) (hc : 1 ≤ c) (hle : c ≤ base F T B now) : base (max F now + c * T) T B now = base F T B now - c ∧ max F now + c * T ≤ now + B * T := by
  have ht := h.t1
  have hbt := bt_le h
  have hcT : 1 ≤ c * T := by have := Int.mul_le_mul hc ht (by omega) (by omega); omega
  have key : ∀ a : Int, 0 ≤ a → a ≤ B * T → c ≤ (B * T - a) / T → c * T ≤ B * T - a ∧ (B * T - (a + c * T)) / T = (B * T - a) / T - c := by
    intro a h0 h1 h2
    have h3 : c * T ≤ B * T - a := by
      have := (Int.le_ediv_iff_mul_le (show 0 < T by omega)).mp h2
      exact this
    refine ⟨h3, ?_⟩
    have e : B * T - (a + c * T) = (B * T - a) + (-c) * T := by rw [Int.neg_mul]; omega
    rw [e, Int.add_mul_ediv_right _ _ (by omega)]; omega
  by_cases c1 : 0 < F - now
  · have hb : ¬ B * T < F - now := fun hlt => by
      have : base F T B now = 0 := by unfold base; rw [if_pos c1, if_pos hlt]
      omega
    have he : base F T B now = (B * T - (F - now)) / T := by unfold base; rw [if_pos c1, if_neg hb]
    rw [he] at hle
    obtain ⟨k1, k2⟩ := key (F - now) (by omega) (by omega) hle
    rw [he]
    refine ⟨?_, by omega⟩
    have hm : max F now = F := by omega
    unfold base
    rw [hm, if_pos (by omega), if_neg (by omega), ← k2]
    congr 2; omega
  · have he : base F T B now = B := by unfold base; rw [if_neg c1]
    rw [he] at hle
    have hdiv : (B * T - 0) / T = B := by rw [Int.sub_zero, Int.mul_ediv_cancel B (by omega)]
    obtain ⟨k1, k2⟩ := key 0 (by omega) (by omega) (by rw [hdiv]; exact hle)
    rw [he]
    have hm : max F now = now := by omega
    refine ⟨?_, by omega⟩
    unfold base
    rw [hm, if_pos (by omega), if_neg (by omega)]
    rw [hdiv] at k2
    rw [← k2]
    congr 2; omega

theorem take_no (F S C U T W B L now c : Int) (hF : Small F) (hS : Small S) (hC : Small C) (hU : Small U) (hn : Small now) (h : PaceOk T W B L) (hc : 1 ≤ c) (hgt : room F S C U T W B L now < c) (k : Nat) :
    cell_Cell_Take.f (k + 1) F S C U T W B L now c = some (false, F, S, C, U) := by
  unfold cell_Cell_Take.f
  rw [if_neg (by omega), room_eq F S C U T W B L now hF hS hC hU hn h k, Option.bind_some, if_pos (by omega)]
theorem take_yes (F S C U T W B L now c : Int) (hF : Small F) (hS : Small S) (hC : Small C) (hU : Small U) (hn : Small now) (h : PaceOk T W B L) (hc : 1 ≤ c) (hle : c ≤ room F S C U T W B L now) (k : Nat) :
    cell_Cell_Take.f (k + 1) F S C U T W B L now c = some (true, max F now + c * T, S, C, U + c) := by
  have hr := @room_range F S C U T W B L now h
  have hB : c ≤ 32 := by have := h.bl; have := h.l2; omega
  have ht := h.t1
  have ht2 := h.t2
  have hcT : 0 ≤ c * T ∧ c * T ≤ 8192 := ⟨Int.mul_nonneg (by omega) (by omega), by have := Int.mul_le_mul hB ht2 (by omega) (by omega); omega⟩
  unfold Small at hF hU hn
  have hU' := hU
  unfold cell_Cell_Take.f
  rw [if_neg (by omega), room_eq F S C U T W B L now hF hS hC hU hn h k, Option.bind_some, if_neg (by omega), sum_small U c (by omega) (by omega) (by omega) (by omega), Option.bind_some, mx_max, Base.w64_in (c * T) (by omega) (by omega), Base.w64_in _ (by omega) (by omega)]
/-- A rule of a plan, and its pace. -/
theorem rule_eq (x y z : Int) : ∃ L W B : Int, weighbridgelaw09_Plan_Rule.f x y z = some (L, W, B, 0, 0, 0, 0, 0, false) ∧ 1 ≤ W ∧ W ≤ 256 ∧ 1 ≤ B ∧ B ≤ L ∧ L ≤ 32 := by
  have e1 : Go.bits .and .i64 x 31 = x % 2 ^ 5 := Base.and_i64 5 (by decide) _ _ (by decide)
  have e2 : Go.bits .and .i64 y 255 = y % 2 ^ 8 := Base.and_i64 8 (by decide) _ _ (by decide)
  have e3 : Go.bits .and .i64 z 31 = z % 2 ^ 5 := Base.and_i64 5 (by decide) _ _ (by decide)
  unfold weighbridgelaw09_Plan_Rule.f
  rw [e1, e2, e3, Base.w64_in (x % 2 ^ 5 + 1) (by omega) (by omega), Base.w64_in (y % 2 ^ 8 + 1) (by omega) (by omega), if_neg (by omega)]
  have h1 : 0 ≤ (z % 2 ^ 5) % (x % 2 ^ 5 + 1) := Int.emod_nonneg _ (by omega)
  have h2 : (z % 2 ^ 5) % (x % 2 ^ 5 + 1) < x % 2 ^ 5 + 1 := Int.emod_lt_of_pos _ (by omega)
  rw [Base.tmod_nn _ _ (by omega), Base.w64_in _ (by omega) (by omega)]
  exact ⟨_, _, _, rfl, by omega, by omega, by omega, by omega, by omega⟩
theorem of_eq (L W B : Int) (hw1 : 1 ≤ W) (hw2 : W ≤ 256) (hb1 : 1 ≤ B) (hbl : B ≤ L) (hl : L ≤ 32) (r3 r4 r5 r6 r7 : Int) (r8 : Bool) (k : Nat) :
    ∃ T : Int, cell_Of.f (k + 1) L W B r3 r4 r5 r6 r7 r8 = some (T, W, B, L) ∧ PaceOk T W B L := by
  unfold cell_Of.f
  rw [Base.w64_in (L + 1) (by omega) (by omega), Base.w64_in (L + 1 - B) (by omega) (by omega)]
  obtain ⟨q, hq, q0, q1, q2, q3⟩ := ceil_int W (L + 1 - B) (by omega) (by unfold Range.In; omega) (by omega) (by unfold Range.In; omega) k
  rw [hq, Option.bind_some]
  refine ⟨q, rfl, ?_⟩
  rcases q3 with ⟨e1, e2⟩ | ⟨e1, e2⟩
  · omega
  · exact ⟨by omega, by omega, hw1, hw2, hb1, hbl, hl, q2, e2⟩

theorem cost_eq (v B : Int) (hb1 : 1 ≤ B) (hb2 : B ≤ 32) : ∃ c : Int, wrap64 (Int.tmod (Go.bits .and .i64 v 31) B + 1) = c ∧ 1 ≤ c ∧ c ≤ B := by
  have e : Go.bits .and .i64 v 31 = v % 2 ^ 5 := Base.and_i64 5 (by decide) _ _ (by decide)
  have h0 : 0 ≤ v % 2 ^ 5 % B := Int.emod_nonneg _ (by omega)
  have h1 : v % 2 ^ 5 % B < B := Int.emod_lt_of_pos _ (by omega)
  rw [e, Base.tmod_nn _ _ (by omega), Base.w64_in _ (by omega) (by omega)]
  exact ⟨_, rfl, by omega, by omega⟩

theorem fit_true (k : Nat) : weighbridgelaw09_fit.f (k + 2) = some true := by
  obtain ⟨T, hT, hp⟩ := of_eq 10 10 1 (by decide) (by decide) (by decide) (by decide) (by decide) 0 0 0 0 0 false (k + 1)
  have hT1 : T = 1 := by
    have h1 := hp.least
    have h2 := hp.t1
    omega
  subst hT1
  have sm : ∀ z : Int, 0 ≤ z → z ≤ 100 → Small z := fun z h0 h1 => ⟨h0, by omega⟩
  have r1 : room 5 5 0 0 1 10 1 10 5 = 1 := by decide +kernel
  have r2 : room 6 5 0 1 1 10 1 10 5 = 0 := by decide +kernel
  have t1 := take_yes 5 5 0 0 1 10 1 10 5 1 (sm _ (by decide) (by decide)) (sm _ (by decide) (by decide)) (sm _ (by decide) (by decide)) (sm _ (by decide) (by decide)) (sm _ (by decide) (by decide)) hp (by decide) (by rw [r1]; decide) (k + 1)
  have t2 := take_no 6 5 0 1 1 10 1 10 5 1 (sm _ (by decide) (by decide)) (sm _ (by decide) (by decide)) (sm _ (by decide) (by decide)) (sm _ (by decide) (by decide)) (sm _ (by decide) (by decide)) hp (by decide) (by rw [r2]; decide) (k + 1)
  have t1' : cell_Cell_Take.f (k + 2) 5 5 0 0 1 10 1 10 5 1 = some (true, 6, 5, 0, 1) := t1
  have t2' : cell_Cell_Take.f (k + 2) 6 5 0 1 1 10 1 10 5 1 = some (false, 6, 5, 0, 1) := t2
  have hw : cell_Cell_Wait.f 6 5 0 1 1 10 1 10 5 1 = some 1 := by decide +kernel
  unfold weighbridgelaw09_fit.f cell_New.f
  rw [hT, Option.bind_some, Option.bind_some]
  dsimp only
  rw [if_pos rfl, t1', Option.bind_some]
  dsimp only
  rw [if_pos rfl, t2', Option.bind_some]
  dsimp only
  rw [if_neg Bool.false_ne_true, hw, Option.bind_some]
  rfl

/-- How long it is till there is room, by the pace alone; and in all. -/
def lag (F T B now c : Int) : Int := max (max F now - (now + (B - c) * T)) 0
def wait (F S C U T W B L now c : Int) : Int := if now < S + W ∧ L < C + U + c then max (lag F T B now c) (S + W - now) else lag F T B now c
theorem bc_le {T W B L c : Int} (h : PaceOk T W B L) (hc1 : 1 ≤ c) (hc2 : c ≤ B) : 0 ≤ (B - c) * T ∧ (B - c) * T ≤ 8192 := by
  obtain ⟨t1, t2, w1, w2, b1, bl, l2, _, _⟩ := h
  refine ⟨Int.mul_nonneg (by omega) (by omega), ?_⟩
  have := Int.mul_le_mul (show B - c ≤ 32 by omega) t2 (by omega) (by omega); omega
theorem wait_eq (F S C U T W B L now c : Int) (hF : Small F) (hS : Small S) (hC : Small C) (hU : Small U) (hn : Small now) (h : PaceOk T W B L) (hc1 : 1 ≤ c) (hc2 : c ≤ B) :
    cell_Cell_Wait.f F S C U T W B L now c = some (wait F S C U T W B L now c) := by
  have hbc := bc_le h hc1 hc2
  have hw1 := h.w1
  have hw2 := h.w2
  have hl := h.l2
  have hbl := h.bl
  unfold cell_Cell_Wait.f wait
  rw [young_eq F S C U T W B L now hS h, Option.bind_some]
  unfold Small at hF hS hC hU hn
  rw [mx_max F now, Base.w64_in (B - c) (by omega) (by omega), Base.w64_in ((B - c) * T) (by omega) (by omega), Base.w64_in (now + (B - c) * T) (by omega) (by omega), Base.w64_in (max F now - (now + (B - c) * T)) (by omega) (by omega), mx_max (max F now - (now + (B - c) * T)) 0]
  by_cases y : now < S + W
  · rw [decide_eq_true y, if_pos rfl, sum_small C U (by omega) (by omega) (by omega) (by omega), Option.bind_some, sum_small (C + U) c (by omega) (by omega) (by omega) (by omega), Option.bind_some]
    by_cases q : L < C + U + c
    · rw [if_pos q, if_pos ⟨y, q⟩, Base.w64_in (S + W) (by omega) (by omega), Base.w64_in (S + W - now) (by omega) (by omega), mx_max]
      rfl
    · rw [if_neg q, if_neg (fun z => q z.2)]
      rfl
  · rw [decide_eq_false y, if_neg Bool.false_ne_true, if_neg (fun z => y z.1)]
    rfl

theorem room_shift (s F S C U T W B L now : Int) : room (F + s) (S + s) C U T W B L (now + s) = room F S C U T W B L now := by
  unfold room base
  rw [show F + s - (now + s) = F - now by omega]
  by_cases p : now < S + W
  · rw [if_pos p, if_pos (by omega)]
  · rw [if_neg p, if_neg (by omega)]
theorem wait_shift (s F S C U T W B L now c : Int) : wait (F + s) (S + s) C U T W B L (now + s) c = wait F S C U T W B L now c := by
  have e : lag (F + s) T B (now + s) c = lag F T B now c := by unfold lag; omega
  unfold wait
  rw [e, show S + s + W - (now + s) = S + W - now by omega]
  by_cases p : now < S + W ∧ L < C + U + c
  · rw [if_pos p, if_pos (by omega)]
  · rw [if_neg p, if_neg (by omega)]
theorem bound_shift (s F S C U T W B L now : Int) (hs : 0 ≤ s ∧ s ≤ 1152921504606846976) (_hF : 0 ≤ F ∧ F ≤ 1152921504606846976) (hn : 0 ≤ now ∧ now ≤ 1152921504606846976) (hS : Small S) (hS2 : Small (S + s)) (h : PaceOk T W B L) :
    ∃ x, cell_Cell_Bound.f F S C U T W B L now = some x ∧ cell_Cell_Bound.f (F + s) (S + s) C U T W B L (now + s) = some x := by
  have hw2 := h.w2
  have hw1 := h.w1
  have ht := h.t1
  unfold cell_Cell_Bound.f
  rw [young_eq F S C U T W B L now hS h, young_eq (F + s) (S + s) C U T W B L (now + s) hS2 h, Option.bind_some, Option.bind_some]
  by_cases p : now < S + W
  · rw [decide_eq_true p, decide_eq_true (show now + s < S + s + W by omega), if_pos rfl]
    exact ⟨_, rfl, rfl⟩
  · rw [decide_eq_false p, decide_eq_false (show ¬ now + s < S + s + W by omega), if_neg Bool.false_ne_true, if_neg Bool.false_ne_true, if_neg (by omega), if_neg (by omega), Base.w64_in (now - W) (by omega) (by omega), Base.w64_in (now + s - W) (by omega) (by omega), show F + s - (now + s - W) = F - (now - W) by omega]
    exact ⟨_, rfl, rfl⟩
theorem idle_shift (s F S C U T W B L now : Int) (hs : 0 ≤ s ∧ s ≤ 1152921504606846976) (hn : 0 ≤ now ∧ now ≤ 1152921504606846976) (hS : Small S) (hS2 : Small (S + s)) (h : PaceOk T W B L) :
    ∃ x, cell_Cell_Idle.f F S C U T W B L now = some x ∧ cell_Cell_Idle.f (F + s) (S + s) C U T W B L (now + s) = some x := by
  have hw2 := h.w2
  have hw1 := h.w1
  unfold cell_Cell_Idle.f
  rw [young_eq F S C U T W B L now hS h, young_eq (F + s) (S + s) C U T W B L (now + s) hS2 h, Option.bind_some, Option.bind_some]
  by_cases p : now < S + W
  · rw [decide_eq_true p, decide_eq_true (show now + s < S + s + W by omega), if_pos rfl]
    exact ⟨_, rfl, rfl⟩
  · rw [decide_eq_false p, decide_eq_false (show ¬ now + s < S + s + W by omega), if_neg Bool.false_ne_true, if_neg Bool.false_ne_true, Base.w64_in (now - W) (by omega) (by omega), Base.w64_in (now + s - W) (by omega) (by omega)]
    exact ⟨_, rfl, by rw [decide_eq_decide.mpr (show F + s ≤ now + s - W ↔ F ≤ now - W by omega)]⟩

theorem rounds (s T W B L : Int) (hs : 0 ≤ s ∧ s ≤ 1152921504606846975) (h : PaceOk T W B L) (l : List S40) (hl : l.length ≤ 100) : ∀ d i : Nat, i + d = l.length → ∀ now F U : Int, 3 ≤ now → now ≤ 3 + 4095 * i → 0 ≤ F → F ≤ now + B * T → 0 ≤ U → U ≤ 32 * i → ∀ k, d + 2 ≤ k →
    weighbridgelaw09_CellShift.l0 k s now l (l.length : Int) (i : Int) L W B 0 0 0 0 0 false T W B L F 3 1 U (F + s) (3 + s) 1 U = some true := by
  have hbt := bt_le h
  have hb1 := h.b1
  have hbl := h.bl
  have hl2 := h.l2
  intro d
  induction d with
  | zero =>
    intro i hi now F U n0 n1 f0 f1 u0 u1 k hk
    obtain ⟨k, rfl⟩ : ∃ j, k = j + 1 := ⟨k - 1, by omega⟩
    rw [weighbridgelaw09_CellShift.l0, if_neg (by omega), if_pos rfl, Base.w64_in (F + s) (by omega) (by omega), beq_self_eq_true]
  | succ d ih =>
    intro i hi now F U n0 n1 f0 f1 u0 u1 k hk
    obtain ⟨k, rfl⟩ : ∃ j, k = j + 2 := ⟨k - 2, by omega⟩
    obtain ⟨g, hg, g0, g1⟩ := gap_nat (rd_T40 l (i : Int)).f0
    obtain ⟨c, hc, c0, c1⟩ := cost_eq (rd_T40 l (i : Int)).f1 B hb1 (by omega)
    have sF : Small F := ⟨f0, by omega⟩
    have s3 : Small 3 := ⟨by decide, by decide⟩
    have s1 : Small 1 := ⟨by decide, by decide⟩
    have sU : Small U := ⟨u0, by omega⟩
    have sn : Small (now + g) := ⟨by omega, by omega⟩
    have sFs : Small (F + s) := ⟨by omega, by omega⟩
    have s3s : Small (3 + s) := ⟨by omega, by omega⟩
    have sns : Small (now + g + s) := ⟨by omega, by omega⟩
    rw [weighbridgelaw09_CellShift.l0, if_pos (by omega), if_pos (by omega), if_pos (by omega), hg, Option.bind_some, if_neg (by omega), Base.w64_in (now + g) (by omega) (by omega), Base.w64_in (now + g + s) (by omega) (by omega), hc, Base.w64_in ((i : Int) + 1) (by omega) (by omega)]
    rw [room_eq F 3 1 U T W B L (now + g) sF s3 s1 sU sn h k, Option.bind_some, room_eq (F + s) (3 + s) 1 U T W B L (now + g + s) sFs s3s s1 sU sns h k, Option.bind_some, room_shift, if_pos rfl]
    rw [wait_eq F 3 1 U T W B L (now + g) c sF s3 s1 sU sn h c0 c1, Option.bind_some, wait_eq (F + s) (3 + s) 1 U T W B L (now + g + s) c sFs s3s s1 sU sns h c0 c1, Option.bind_some, wait_shift, if_pos rfl]
    by_cases hle : c ≤ room F 3 1 U T W B L (now + g)
    · obtain ⟨bt1, bt2⟩ := base_take h c0 (show c ≤ base F T B (now + g) by unfold room at hle; split at hle <;> omega)
      have hcT : 0 ≤ c * T := Int.mul_nonneg (by omega) (by have := h.t1; omega)
      rw [take_yes F 3 1 U T W B L (now + g) c sF s3 s1 sU sn h c0 hle k, Option.bind_some, take_yes (F + s) (3 + s) 1 U T W B L (now + g + s) c sFs s3s s1 sU sns h c0 (by rw [room_shift]; exact hle) k, Option.bind_some]
      dsimp only
      rw [show max (F + s) (now + g + s) + c * T = max F (now + g) + c * T + s by omega, if_pos (beq_self_eq_true _)]
      obtain ⟨x, x1, x2⟩ := bound_shift s (max F (now + g) + c * T) 3 1 (U + c) T W B L (now + g) ⟨hs.1, by omega⟩ ⟨by omega, by omega⟩ ⟨by omega, by omega⟩ s3 s3s h
      obtain ⟨y, y1, y2⟩ := idle_shift s (max F (now + g) + c * T) 3 1 (U + c) T W B L (now + g) ⟨hs.1, by omega⟩ ⟨by omega, by omega⟩ s3 s3s h
      rw [x1, Option.bind_some, x2, Option.bind_some, if_pos rfl, y1, Option.bind_some, y2, Option.bind_some, if_pos (beq_self_eq_true _)]
      exact ih (i + 1) (by omega) (now + g) (max F (now + g) + c * T) (U + c) (by omega) (by omega) (by omega) (by omega) (by omega) (by omega) (k + 1) (by omega)
    · rw [take_no F 3 1 U T W B L (now + g) c sF s3 s1 sU sn h c0 (by omega) k, Option.bind_some, take_no (F + s) (3 + s) 1 U T W B L (now + g + s) c sFs s3s s1 sU sns h c0 (by rw [room_shift]; omega) k, Option.bind_some]
      dsimp only
      rw [if_pos (beq_self_eq_true _)]
      obtain ⟨x, x1, x2⟩ := bound_shift s F 3 1 U T W B L (now + g) ⟨hs.1, by omega⟩ ⟨by omega, by omega⟩ ⟨by omega, by omega⟩ s3 s3s h
      obtain ⟨y, y1, y2⟩ := idle_shift s F 3 1 U T W B L (now + g) ⟨hs.1, by omega⟩ ⟨by omega, by omega⟩ s3 s3s h
      rw [x1, Option.bind_some, x2, Option.bind_some, if_pos rfl, y1, Option.bind_some, y2, Option.bind_some, if_pos (beq_self_eq_true _)]
      exact ih (i + 1) (by omega) (now + g) F U (by omega) (by omega) f0 (by omega) u0 (by omega) (k + 1) (by omega)
theorem CellShift : weighbridgelaw09_CellShift.Pure := by
  intro x y z sh l _ _ _ _ hl _
  obtain ⟨L, W, B, hr, w1, w2, b1, bl, l2⟩ := rule_eq x y z
  obtain ⟨T, hT, hp⟩ := of_eq L W B w1 w2 b1 bl l2 0 0 0 0 0 false 300
  have hbt := bt_le hp
  obtain ⟨s, hs, hs0, hs1⟩ : ∃ s, Go.bits .and .i64 sh 1152921504606846975 = s ∧ 0 ≤ s ∧ s ≤ 1152921504606846975 := ⟨sh % 1152921504606846976, by rw [Base.and_i64 60 (by decide) _ _ (by decide)]; rfl, by omega, by omega⟩
  refine ⟨301, ?_⟩
  unfold weighbridgelaw09_CellShift.f
  rw [fit_true 299, Option.bind_some, if_pos rfl]
  by_cases hlen : (l.length : Int) > 100
  · rw [if_pos hlen]
  rw [if_neg hlen, hr, Option.bind_some]
  dsimp only
  rw [hT, Option.bind_some]
  unfold cell_New.f
  rw [Option.bind_some, Option.bind_some, hs, Base.w64_in (3 + s) (by omega) (by omega)]
  dsimp only
  have := rounds s T W B L ⟨hs0, hs1⟩ hp l (by omega) l.length 0 (by omega) 3 3 0 (by decide) (by decide) (by decide) (by omega) (by decide) (by decide) 301 (by omega)
  exact this

end Go.Proofs.Ytdnimnlnicnjnaa.Pure
