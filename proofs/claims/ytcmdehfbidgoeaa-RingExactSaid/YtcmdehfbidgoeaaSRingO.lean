/- Plain laws: what keys had, and what a ring tells. No condition. -/
import Derived.Test.YtcmdehfbidgoeaaSRingP
import Derived.WideShapes
import Derived.Laws.Strings
namespace Go.Proofs.Ytcmdehfbidgoeaa.Can
open Go
set_option linter.unusedSimpArgs false
set_option linter.unusedVariables false

theorem sumT_add (f g : Nat → Int) : ∀ K, sumT (fun k => f k + g k) K = sumT f K + sumT g K
  | 0 => rfl
  | K + 1 => by simp only [sumT]; rw [sumT_add f g K]; omega
theorem sumT_one {f : Nat → Int} (h : ∀ k, 0 ≤ f k) {k0 : Nat} : ∀ K, k0 < K → f k0 ≤ sumT f K
  | 0, hk => by omega
  | K + 1, hk => by
    have h1 : ∀ K, 0 ≤ sumT f K := fun K => by
      induction K with
      | zero => exact Int.le_refl 0
      | succ K ih => have := h K; simp only [sumT]; omega
    simp only [sumT]
    by_cases e : k0 = K
    · have := h1 K; rw [e]; omega
    · have := sumT_one h K (show k0 < K by omega); have := h K; omega
abbrev HadT := Int × Int × ByteArray
abbrev HadE : Enc HadT := Enc.pair (Enc.int .i64) (Enc.pair (Enc.int .i64) Enc.str)
def sameK (a b : ByteArray) : Bool := a.toList == b.toList
theorem sameK_eq {a b : ByteArray} (h : sameK a b = true) : a = b := by
  unfold sameK at h
  have h := eq_of_beq h
  rw [ByteArray.toList_eq, ByteArray.toList_eq] at h
  exact Go.WideShapes.bytes_inj h
/-- What a key had in a slot. -/
def sumAt (W : Int) (key : ByteArray) (n : Int) : List HadT → Int
  | [] => 0
  | x :: t => (if sameK x.2.2 key = true ∧ x.1 / W = n then x.2.1 else 0) + sumAt W key n t
theorem sumAt_app (W : Int) (key : ByteArray) (n : Int) (x : HadT) : ∀ l, sumAt W key n (l ++ [x]) = sumAt W key n l + (if sameK x.2.2 key = true ∧ x.1 / W = n then x.2.1 else 0)
  | [] => by simp only [List.nil_append, sumAt]; omega
  | y :: t => by simp only [List.cons_append, sumAt]; rw [sumAt_app W key n x t]; omega
/-- What a key had behind a time. -/
def sumSp (key : ByteArray) (b : Int) : List HadT → Int
  | [] => 0
  | x :: t => (if sameK x.2.2 key = true ∧ x.1 > b then x.2.1 else 0) + sumSp key b t
theorem sumSp_app (key : ByteArray) (b : Int) (x : HadT) : ∀ l, sumSp key b (l ++ [x]) = sumSp key b l + (if sameK x.2.2 key = true ∧ x.1 > b then x.2.1 else 0)
  | [] => by simp only [List.nil_append, sumSp]; omega
  | y :: t => by simp only [List.cons_append, sumSp]; rw [sumSp_app key b x t]; omega
theorem sumSp_in (key : ByteArray) (b : Int) : ∀ l : List HadT, (∀ x ∈ l, 0 ≤ x.2.1 ∧ x.2.1 ≤ 255) → 0 ≤ sumSp key b l ∧ sumSp key b l ≤ 255 * l.length
  | [], _ => by simp [sumSp]
  | x :: t, h => by
    have h1 := sumSp_in key b t fun y hy => h y (List.mem_cons_of_mem _ hy)
    have h2 := h x List.mem_cons_self
    simp only [sumSp, List.length_cons]
    split <;> omega
theorem sumSp_le (W : Int) (hW : 1 ≤ W) (key : ByteArray) (b now : Int) (sm : Bool) (N : Nat) (hb : ∀ t, b < t → now / W - N + 1 + (if sm then 1 else 0) ≤ t / W) : ∀ l : List HadT, (∀ x ∈ l, 0 ≤ x.2.1 ∧ x.1 ≤ now) →
    sumSp key b l ≤ sumT (fun k => if k = 0 ∧ sm = true then 0 else sumAt W key (now / W - N + 1 + k) l) N
  | [], _ => by
    have : ∀ K, sumT (fun k => if k = 0 ∧ sm = true then 0 else sumAt W key (now / W - N + 1 + k) []) K = 0 := fun K => sumT_zero K fun k _ => by split <;> rfl
    rw [this]; exact Int.le_refl 0
  | x :: t, h => by
    have ih := sumSp_le W hW key b now sm N hb t fun y hy => h y (List.mem_cons_of_mem _ hy)
    obtain ⟨h2, h3⟩ := h x List.mem_cons_self
    have e : sumT (fun k => if k = 0 ∧ sm = true then 0 else sumAt W key (now / W - N + 1 + k) (x :: t)) N
        = sumT (fun k => if k = 0 ∧ sm = true then 0 else (if sameK x.2.2 key = true ∧ x.1 / W = now / W - N + 1 + k then x.2.1 else 0)) N
        + sumT (fun k => if k = 0 ∧ sm = true then 0 else sumAt W key (now / W - N + 1 + k) t) N := by
      rw [← sumT_add]
      apply sumT_congr
      intro k _
      simp only [sumAt]
      by_cases c : k = 0 ∧ sm = true
      · rw [if_pos c, if_pos c, if_pos c]; rfl
      · rw [if_neg c, if_neg c, if_neg c]
    rw [e]
    have nn : ∀ k : Nat, 0 ≤ (if k = 0 ∧ sm = true then 0 else (if sameK x.2.2 key = true ∧ x.1 / W = now / W - N + 1 + k then x.2.1 else 0)) := fun k => by
      split
      · omega
      · split <;> omega
    simp only [sumSp]
    by_cases c : sameK x.2.2 key = true ∧ x.1 > b
    · rw [if_pos c]
      have hb := hb x.1 c.2
      have hd := Int.ediv_le_ediv (show 0 < W by omega) h3
      have one := sumT_one nn (k0 := (x.1 / W - (now / W - N + 1)).toNat) N (by split at hb <;> omega)
      have hk : now / W - (N : Int) + 1 + ((x.1 / W - (now / W - N + 1)).toNat : Int) = x.1 / W := by split at hb <;> omega
      rw [if_neg (by rintro ⟨c1, c2⟩; rw [if_pos c2] at hb; omega), hk, if_pos ⟨c.1, rfl⟩] at one
      omega
    · rw [if_neg c]
      have : ∀ K, 0 ≤ sumT (fun k => if k = 0 ∧ sm = true then 0 else (if sameK x.2.2 key = true ∧ x.1 / W = now / W - N + 1 + k then x.2.1 else 0)) K := fun K => by
        induction K with
        | zero => exact Int.le_refl 0
        | succ K ih => have := nn K; simp only [sumT]; omega
      have := this N
      omega
/-- No slot in the window tells less than keys had in it. -/
def Cov (r : RP) (now : Int) (st : List Int) (cs : Nat → List Int) (l : List HadT) : Prop := ∀ key n, now / r.W - r.N < n → sumAt r.W key n l ≤ leastAt r st cs key n
section
variable {r : RP} {now : Int} {st : List Int} {cs : Nat → List Int} {l : List HadT}
theorem Cov.to (k : Cov r now st cs l) (hW : 1 ≤ r.W) {t : Int} (h : now ≤ t) : Cov r t st cs l := fun key n hn => k key n (by have := Int.ediv_le_ediv (show 0 < r.W by omega) h; omega)
theorem pl_lt' (r : RP) (hN : 1 ≤ r.N) (n : Int) : pl r n < r.N := by
  have h1 := Int.emod_lt_of_pos n (show (0 : Int) < r.N by omega)
  have h2 := Int.emod_nonneg n (show (r.N : Int) ≠ 0 by omega)
  unfold pl; omega
theorem pl_ne (r : RP) (hN : 1 ≤ r.N) {n m : Int} (h : n < m) (h2 : m - r.N < n) : pl r m ≠ pl r n := fun e => by
  unfold pl at e
  have a1 := Int.emod_nonneg n (show (r.N : Int) ≠ 0 by omega)
  have a2 := Int.emod_nonneg m (show (r.N : Int) ≠ 0 by omega)
  have e : m % (r.N : Int) = n % (r.N : Int) := by omega
  have d : (r.N : Int) ∣ m - n := Int.dvd_of_emod_eq_zero (by rw [Int.sub_emod, e]; simp)
  have := Int.le_of_dvd (by omega) d
  omega
theorem least_ne (key : ByteArray) {n m : Int} (h : pl r m ≠ pl r n) (v : Int) (c : List Int) : leastAt r (st.set (pl r m) v) (putC cs (pl r m) c) key n = leastAt r st cs key n := by
  have a : alive r (st.set (pl r m) v) n ↔ alive r st n := by
    unfold alive
    rw [ctr_set, if_neg (fun k => h k.1)]
  have e : putC cs (pl r m) c (pl r n) = cs (pl r n) := by unfold putC; rw [if_neg (Ne.symm h)]
  unfold leastAt
  rw [e]
  by_cases c : alive r st n
  · rw [if_pos c, if_pos (a.2 c)]
  · rw [if_neg c, if_neg (fun h => c (a.1 h))]
theorem least_same (key : ByteArray) {m : Int} (m0 : 0 ≤ m) (hl : pl r m < st.length) (c : List Int) : leastAt r (st.set (pl r m) (m + 1)) (putC cs (pl r m) c) key m = leastN c (ix r.rows r.w key) (r.rows.length - 1) := by
  unfold leastAt
  rw [if_pos ⟨m0, by rw [ctr_set, if_pos ⟨rfl, hl⟩]⟩]
  unfold putC
  rw [if_pos rfl]
theorem base_least (key : ByteArray) {m : Int} (m0 : 0 ≤ m) : leastN (baseC r st cs m) (ix r.rows r.w key) (r.rows.length - 1) = leastAt r st cs key m := by
  unfold baseC leastAt
  by_cases c : ctr st (pl r m) = m + 1
  · rw [if_pos c, if_pos ⟨m0, c⟩]
  · rw [if_neg c, if_neg (fun h => c h.2)]
    obtain ⟨k, _, e⟩ := leastN_is (List.replicate (r.rows.length * r.w) 0) (ix r.rows r.w key) (r.rows.length - 1)
    rw [e, ctr_zero]
theorem leastN_add (c : List Int) (f : Nat → Nat) (R : Nat) (hR : 1 ≤ R) (hf : ∀ r, r < R → f r < c.length) (cost : Int) (hc : leastN c f (R - 1) + cost ≤ 9223372036854775807) : leastN c f (R - 1) + cost ≤ leastN (addC c f R cost) f (R - 1) := by
  unfold addC
  split
  · omega
  · obtain ⟨k, hk, e⟩ := leastN_is (addN c f (near (leastN c f (R - 1) + cost)) R) f (R - 1)
    have h1 := addN_at c f (near (leastN c f (R - 1) + cost)) R k (by omega) (hf k (by omega))
    rw [e]
    have : leastN c f (R - 1) + cost ≤ near (leastN c f (R - 1) + cost) := by
      unfold near; split
      · omega
      · split <;> omega
    omega
theorem sumAt_late (W : Int) (hW : 1 ≤ W) (key : ByteArray) (n now : Int) (h : now / W < n) : ∀ l : List HadT, (∀ x ∈ l, x.1 ≤ now) → sumAt W key n l = 0
  | [], _ => rfl
  | x :: t, hx => by
    have h1 := sumAt_late W hW key n now h t fun y hy => hx y (List.mem_cons_of_mem _ hy)
    have h2 := Int.ediv_le_ediv (show 0 < W by omega) (hx x List.mem_cons_self)
    simp only [sumAt]
    rw [h1, if_neg (fun k => by have := k.2; omega)]; rfl
theorem Cov.add {h : Heap} (R : RingAt h r now st cs) (K : OkR r now st cs) (k : Cov r now st cs l) (hl : ∀ x ∈ l, x.1 ≤ now) {M : Int} (hM : 0 ≤ M) (bd : Bd cs M) (key : ByteArray) (cost : Int) (hc : 0 ≤ cost ∧ M + cost ≤ 9223372036854775807) :
    Cov r now (st.set (pl r (now / r.W)) (now / r.W + 1)) (putC cs (pl r (now / r.W)) (addC (baseC r st cs (now / r.W)) (ix r.rows r.w key) r.rows.length cost)) (l ++ [(now, cost, key)]) := fun q n hn => by
  have hW := R.hW.1
  have hN := R.hN
  have m0 : 0 ≤ now / r.W := Int.ediv_nonneg K.now0 (by omega)
  have S0 := R.sl 0 (by omega)
  have hR := S0.hr
  rw [sumAt_app]
  simp only
  by_cases e : n = now / r.W
  · rw [e, least_same q m0 (by rw [R.len]; exact pl_lt' r (by omega) _)]
    have c0 := k q n hn
    rw [e] at c0
    rw [← base_least q m0] at c0
    have blen : (baseC r st cs (now / r.W)).length = r.rows.length * r.w := by
      unfold baseC
      split
      · exact (R.sl _ (pl_lt' r (by omega) _)).len
      · simp
    by_cases c : sameK key q = true
    · have := sameK_eq c
      subst this
      rw [if_pos ⟨c, rfl⟩]
      have hb := bd.least hM r st key (now / r.W)
      rw [← base_least key m0] at hb
      have := leastN_add (baseC r st cs (now / r.W)) (ix r.rows r.w key) r.rows.length hR.1 (fun i hi => by rw [blen]; exact S0.ix_lt key hi) cost (by omega)
      omega
    · rw [if_neg (fun h => c h.1)]
      have := leastN_mono (addC_up (baseC r st cs (now / r.W)) (ix r.rows r.w key) r.rows.length cost) (ix r.rows r.w q) (r.rows.length - 1)
      omega
  · rw [if_neg (fun h => e h.2.symm)]
    by_cases lt : n < now / r.W
    · rw [least_ne q (pl_ne r (by omega) lt hn)]
      have := k q n hn
      omega
    · rw [sumAt_late r.W hW q n now (by omega) l hl]
      have := ((K.add hW (ix r.rows r.w key) cost).pos.least r (st.set (pl r (now / r.W)) (now / r.W + 1)) q n).1
      omega
/-- An estimate is no less than what was had in the window. -/
theorem Cov.est (k : Cov r now st cs l) (hW : 1 ≤ r.W) (hN : 2 ≤ r.N ∧ r.N ≤ 65) (K : OkR r now st cs) {M : Int} (hM : 0 ≤ M ∧ M ≤ 141898031336227320) (bd : Bd cs M) (hl : ∀ x ∈ l, (0 ≤ x.2.1 ∧ x.2.1 ≤ 255) ∧ x.1 ≤ now) (key : ByteArray) :
    sumSp key (now - (((r.N : Int) - 1) * r.W - (if r.part then r.W else 0))) l ≤ estN r now st cs key := by
  unfold estN
  rw [(est_sum hW hN.2 K.pos hM bd key _ _).1]
  refine Int.le_trans (sumSp_le r.W hW key _ now r.part r.N (fun t ht => ?_) l fun x hx => ⟨(hl x hx).1.1, (hl x hx).2⟩) (sumT_le r.N fun i hi => ?_)
  · have d1 : ∀ q : Int, (now + q * r.W) / r.W = now / r.W + q := fun q => Int.add_mul_ediv_right _ _ (by omega)
    have d2 := Int.ediv_mul_add_emod t r.W
    have d3 := Int.emod_lt_of_pos t (show 0 < r.W by omega)
    have d4 := Int.ediv_mul_add_emod now r.W
    have d5 := Int.emod_nonneg now (show r.W ≠ 0 by omega)
    by_cases c : r.part = true
    · rw [if_pos c] at ht ⊢
      have := Int.ediv_le_ediv (show 0 < r.W by omega) (show now + (2 - (r.N : Int)) * r.W ≤ t by
        rw [Int.sub_mul]; rw [Int.sub_mul] at ht; omega)
      rw [d1] at this
      omega
    · rw [if_neg c] at ht ⊢
      have := Int.ediv_le_ediv (show 0 < r.W by omega) (show now + (1 - (r.N : Int)) * r.W ≤ t by
        rw [Int.sub_mul]; rw [Int.sub_mul] at ht; omega)
      rw [d1] at this
      omega
  · have c0 := k key (now / r.W - r.N + 1 + i) (by omega)
    have p := (K.pos.least r st key (now / r.W - r.N + 1 + i)).1
    unfold termN
    by_cases ci : i = 0
    · rw [if_pos ci]
      by_cases cp : r.part = true
      · rw [if_pos ⟨ci, cp⟩]; omega
      · rw [if_neg (fun h => cp h.2)]
        unfold eldN
        rw [if_neg cp]; omega
    · rw [if_neg ci, if_neg (fun h => ci h.1)]
      exact c0
end
/-- A ring whose objects are as they were. -/
theorem RingAt.keep {h0 h h' : Heap} {r : RP} {n0 now : Int} {s0 st : List Int} {c0 cs : Nat → List Int} (R0 : RingAt h0 r n0 s0 c0) (R : RingAt h r now st cs) (hn : h.next ≤ h'.next) (ho : ∀ x, x < h0.next → h'.obj x = h.obj x) : RingAt h' r now st cs := by
  have x3 : r.rb < h0.next := by
    have hN := R0.hN
    have S0 := R0.sl 0 (by omega)
    obtain ⟨_, _, _, hl, _⟩ := S0.v.at (by have := S0.hr; omega)
    exact hl
  exact {
    ox := (ho _ R0.lx).trans R.ox
    lx := Nat.lt_of_lt_of_le R.lx hn
    os := (ho _ R0.ls).trans R.os
    ls := Nat.lt_of_lt_of_le R.ls hn
    ot := (ho _ R0.lt).trans R.ot
    lt := Nat.lt_of_lt_of_le R.lt hn
    len := R.len, s64 := R.s64, hN := R.hN, hW := R.hW, hL := R.hL
    sl := fun i hi => { R.sl i hi with
      op := (ho _ (R0.sl i hi).lp).trans (R.sl i hi).op
      lp := Nat.lt_of_lt_of_le (R.sl i hi).lp hn
      on := (ho _ (R0.sl i hi).ln).trans (R.sl i hi).on
      ln := Nat.lt_of_lt_of_le (R.sl i hi).ln hn
      v := (R.sl i hi).v.keep hn fun _ => ho _ x3 }
    nn := R.nn, pn := R.pn, xn := R.xn, px := R.px, xx := R.xx, rx := R.rx }
end Go.Proofs.Ytcmdehfbidgoeaa.Can
