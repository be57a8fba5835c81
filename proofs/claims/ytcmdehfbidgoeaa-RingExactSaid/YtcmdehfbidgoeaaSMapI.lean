/- Maps of numbers to numbers, and one key alone in a ring. No condition. -/
import Derived.Test.YtcmdehfbidgoeaaSRingO
namespace Go.Proofs.Ytcmdehfbidgoeaa.Can
open Go
set_option linter.unusedSimpArgs false
set_option linter.unusedVariables false

abbrev MI := List (Int × Int × Nat)
def mE (x : Int × Int × Nat) : MapEntry := { key := .int .i64 x.1, val := .int .i64 x.2.1, born := x.2.2 }
def mget (k : Int) : MI → Int
  | [] => 0
  | x :: t => if k = x.1 then x.2.1 else mget k t
def mset (k v : Int) (c : Nat) : MI → MI
  | [] => [(k, v, c)]
  | x :: t => if k = x.1 then (k, v, x.2.2) :: t else x :: mset k v c t
def midx (k : Int) : MI → Nat → Option Nat
  | [], _ => none
  | x :: t, i => if k = x.1 then some i else midx k t (i + 1)
theorem mget_set (k v : Int) (c : Nat) (q : Int) : ∀ L, mget q (mset k v c L) = if q = k then v else mget q L
  | [] => by simp only [mset, mget]
  | x :: t => by
    simp only [mset]
    by_cases h : k = x.1
    · rw [if_pos h]
      simp only [mget]
      by_cases e : q = k
      · rw [if_pos e, if_pos e]
      · rw [if_neg e, if_neg e, if_neg (by omega)]
    · rw [if_neg h]
      simp only [mget]
      rw [mget_set k v c q t]
      by_cases e : q = k
      · rw [if_neg (by omega), if_pos e, if_pos e]
      · rw [if_neg e, if_neg e]
theorem mfind (k : Int) : ∀ (L : MI) (i : Nat), findEntry (.one .int) (.int .i64 k) (L.map mE) i = some (midx k L i)
  | [], i => rfl
  | x :: t, i => by
    simp only [List.map_cons, findEntry, mE, keyEq, eqS, if_true, Option.bind_some, midx]
    by_cases h : k = x.1
    · rw [if_pos (beq_iff_eq.2 h), if_pos h]
    · rw [if_neg (by simpa using h), if_neg h]
      exact mfind k t (i + 1)
theorem midx_some {k : Int} : ∀ {L : MI} {i j : Nat}, midx k L i = some j → ∃ q x, j = i + q ∧ L[q]? = some x ∧ mget k L = x.2.1 ∧ ∀ v c, mset k v c L = L.set q (k, v, x.2.2)
  | [], i, j, h => by simp [midx] at h
  | x :: t, i, j, h => by
    simp only [midx] at h
    by_cases e : k = x.1
    · rw [if_pos e] at h
      obtain rfl := Option.some.inj h
      exact ⟨0, x, rfl, rfl, by simp only [mget]; rw [if_pos e], fun v c => by simp only [mset]; rw [if_pos e]; rfl⟩
    · rw [if_neg e] at h
      obtain ⟨q, y, h1, h2, h3, h4⟩ := midx_some h
      exact ⟨q + 1, y, by omega, by simpa using h2, by simp only [mget]; rw [if_neg e]; exact h3, fun v c => by simp only [mset]; rw [if_neg e, h4]; rfl⟩
theorem midx_none {k : Int} : ∀ {L : MI} {i : Nat}, midx k L i = none → mget k L = 0 ∧ ∀ v c, mset k v c L = L ++ [(k, v, c)]
  | [], i, h => ⟨rfl, fun v c => rfl⟩
  | x :: t, i, h => by
    simp only [midx] at h
    by_cases e : k = x.1
    · rw [if_pos e] at h; simp at h
    · rw [if_neg e] at h
      obtain ⟨h1, h2⟩ := midx_none h
      exact ⟨by simp only [mget]; rw [if_neg e]; exact h1, fun v c => by simp only [mset]; rw [if_neg e, h2]; rfl⟩
theorem mlookup {h : Heap} {b : Nat} {L : MI} {c : Nat} (ho : h.obj b = .map (L.map mE) c) (k : Int) : cop (.lookup (.one .int) (.int .i64 0) false (.map (some b)) (.int .i64 k)) h = some (.int .i64 (mget k L), h) := by
  have e : keyEq (.one .int) (.int .i64 k) (.int .i64 k) = some true := by simp [keyEq, eqS]
  simp only [cop, ho, e, Option.bind_some, mfind, Option.map_some]
  cases hi : midx k L 0 with
  | none => simp [(midx_none hi).1]
  | some j =>
    obtain ⟨q, x, h1, h2, h3, _⟩ := midx_some hi
    obtain rfl : j = q := by omega
    simp only [List.getElem?_map, h2, Option.map_some, Option.getD_some, h3, mE]
    rfl
theorem mupdate {h : Heap} {b : Nat} {L : MI} {c : Nat} (ho : h.obj b = .map (L.map mE) c) (k v : Int) : ∃ c', cop (.mapUpdate (.one .int) (.map (some b)) (.int .i64 k) (.int .i64 v)) h = some (.tuple #[], h.upd b (.map ((mset k v c L).map mE) c')) := by
  have e : keyEq (.one .int) (.int .i64 k) (.int .i64 k) = some true := by simp [keyEq, eqS]
  simp only [cop, ho, e, Option.bind_some, mfind, Option.map_some]
  cases hi : midx k L 0 with
  | none => exact ⟨c + 1, by simp [(midx_none hi).2, mE]⟩
  | some j =>
    obtain ⟨q, x, h1, h2, _, h4⟩ := midx_some hi
    obtain rfl : j = q := by omega
    refine ⟨c, ?_⟩
    have : (L.map mE).modify j (fun x => { x with key := .int .i64 k, val := .int .i64 v }) = (mset k v c L).map mE := by
      rw [h4]
      apply List.ext_getElem?
      intro i
      rw [List.getElem?_modify, List.getElem?_map, List.getElem?_map, List.getElem?_set]
      by_cases e : j = i
      · subst e
        rw [if_pos rfl, if_pos (List.getElem?_eq_some_iff.1 h2).1, h2]
        simp [mE]
      · simp [e]
    simp only [this]
/-- One key alone: what it had in each slot, and its counters there. -/
def Ex (r : RP) (now : Int) (st : List Int) (cs : Nat → List Int) (key : ByteArray) (L : MI) : Prop :=
  ∀ n, now / r.W - r.N < n → mget n L = leastAt r st cs key n ∧ (alive r st n → Uni (cs (pl r n)) (ix r.rows r.w key) r.rows.length (leastAt r st cs key n))
section
variable {r : RP} {now : Int} {st : List Int} {cs : Nat → List Int} {key : ByteArray} {L : MI}
theorem Ex.to (k : Ex r now st cs key L) (hW : 1 ≤ r.W) {t : Int} (h : now ≤ t) : Ex r t st cs key L := fun n hn => k n (by have := Int.ediv_le_ediv (show 0 < r.W by omega) h; omega)
theorem Ex.add {h : Heap} (R : RingAt h r now st cs) (K : OkR r now st cs) (k : Ex r now st cs key L) {M : Int} (hM : 0 ≤ M) (bd : Bd cs M) (cost : Int) (hc : 0 ≤ cost ∧ M + cost ≤ 9223372036854775807) (c : Nat) :
    Ex r now (st.set (pl r (now / r.W)) (now / r.W + 1)) (putC cs (pl r (now / r.W)) (addC (baseC r st cs (now / r.W)) (ix r.rows r.w key) r.rows.length cost)) key (mset (now / r.W) (mget (now / r.W) L + cost) c L) := fun n hn => by
  have hW := R.hW.1
  have hN := R.hN
  have m0 : 0 ≤ now / r.W := Int.ediv_nonneg K.now0 (by omega)
  have S0 := R.sl 0 (by omega)
  have hR := S0.hr
  have K2 := K.add hW (ix r.rows r.w key) cost
  rw [mget_set]
  by_cases e : n = now / r.W
  · subst e
    have blen : (baseC r st cs (now / r.W)).length = r.rows.length * r.w := by
      unfold baseC
      split
      · exact (R.sl _ (pl_lt' r (by omega) _)).len
      · simp
    have bu : Uni (baseC r st cs (now / r.W)) (ix r.rows r.w key) r.rows.length (leastAt r st cs key (now / r.W)) := by
      unfold baseC
      by_cases c : ctr st (pl r (now / r.W)) = now / r.W + 1
      · rw [if_pos c]
        exact (k _ hn).2 ⟨m0, c⟩
      · rw [if_neg c]
        have : leastAt r st cs key (now / r.W) = 0 := by unfold leastAt; rw [if_neg (fun h => c h.2)]
        rw [this]
        exact uni_zero _ _ _
    have p := K.pos.least r st key (now / r.W)
    have b := bd.least hM r st key (now / r.W)
    have u := bu.add hR.1 ⟨p.1, p.2⟩ (fun i hi => by rw [blen]; exact S0.ix_lt key hi) cost
    have e1 : (if cost < 1 then leastAt r st cs key (now / r.W) else near (leastAt r st cs key (now / r.W) + cost)) = leastAt r st cs key (now / r.W) + cost := by
      split
      · omega
      · exact near_eq (by unfold I64; omega)
    rw [e1] at u
    have ls := least_same (r := r) (st := st) (cs := cs) key m0 (by rw [R.len]; exact pl_lt' r (by omega) _) (addC (baseC r st cs (now / r.W)) (ix r.rows r.w key) r.rows.length cost)
    rw [u.least hR.1] at ls
    rw [if_pos rfl, ls, (k _ hn).1]
    refine ⟨rfl, fun _ => ?_⟩
    unfold putC
    rw [if_pos rfl]
    exact u
  · rw [if_neg e]
    by_cases lt : n < now / r.W
    · have ne := pl_ne r (by omega) lt hn
      rw [least_ne key ne]
      refine ⟨(k n hn).1, fun ha => ?_⟩
      have a : alive r st n := by
        unfold alive at ha ⊢
        rw [ctr_set, if_neg (fun k => ne k.1)] at ha
        exact ha
      have := (k n hn).2 a
      unfold putC
      rw [if_neg (Ne.symm ne)]
      exact this
    · have z := K.ahead hW key (n := n) (by omega)
      have z2 := K2.ahead hW key (n := n) (by omega)
      refine ⟨by rw [(k n hn).1, z, z2], fun ha => ?_⟩
      have h0 : 0 ≤ now / r.W := m0
      have := ctr_mem (fun s => s ≤ now / r.W + 1) (fun s hs => (K2.st0 s hs).2) (by omega) (pl r n)
      have := ha.2
      omega
/-- A row's counters in the window, all in all. -/
theorem mass_sum (k : Ex r now st cs key L) (K : OkR r now st cs) (hN : r.N ≤ 65) {M : Int} (hM : 0 ≤ M ∧ M ≤ 141898031336227320) (bd : Bd cs M) (row : Nat) (hr : row < r.rows.length) : ∀ q : Nat, q ≤ r.N →
    massN r st cs row key (now / r.W) q = sumT (fun i => mget (now / r.W - r.N + 1 + i) L) q ∧ 0 ≤ sumT (fun i => mget (now / r.W - r.N + 1 + i) L) q ∧ sumT (fun i => mget (now / r.W - r.N + 1 + i) L) q ≤ q * M
  | 0, _ => by simp [massN, sumT]
  | q + 1, hq => by
    obtain ⟨h1, h2, h3⟩ := mass_sum k K hN hM bd row hr q (by omega)
    have e : ((q + 1 : Nat) : Int) * M = q * M + M := by rw [Int.natCast_add, Int.add_mul]; simp
    have e2 : ((q + 1 : Nat) : Int) * M ≤ 65 * M := Int.mul_le_mul_of_nonneg_right (by omega) hM.1
    obtain ⟨m1, m2⟩ := k (now / r.W - r.N + 1 + q) (by omega)
    have p := K.pos.least r st key (now / r.W - r.N + 1 + q)
    have b := bd.least hM.1 r st key (now / r.W - r.N + 1 + q)
    have ce : countAt r st cs row key (now / r.W - r.N + 1 + q) = mget (now / r.W - r.N + 1 + q) L := by
      rw [m1]
      unfold countAt
      by_cases c : alive r st (now / r.W - r.N + 1 + q)
      · rw [if_pos c, if_pos ⟨by omega, by omega⟩, Int.toNat_natCast]
        exact m2 c row hr
      · rw [if_neg c]; unfold leastAt; rw [if_neg c]
    simp only [massN, sumT]
    rw [← m1] at p b
    rw [ce, h1, e]
    rw [near_eq (by unfold I64; omega)]
    exact ⟨rfl, by omega, by omega⟩
end
theorem ceilN_div (n c : Nat) (hc : 1 ≤ c) : ceilN n c = (n + c - 1) / c := by
  unfold ceilN
  have h1 := Nat.div_add_mod n c
  have h2 := Nat.mod_lt n (show 0 < c by omega)
  obtain ⟨q, hq⟩ : ∃ q, q = n / c := ⟨_, rfl⟩
  obtain ⟨m, hm⟩ : ∃ m, m = n % c := ⟨_, rfl⟩
  rw [← hq, ← hm] at h1
  rw [← hm] at h2
  rw [← hq, ← hm]
  have h3 : c * (q + 1) = c * q + c := Nat.mul_succ c q
  split
  · have : n + c - 1 = (c - 1) + c * q := by omega
    rw [this, Nat.add_mul_div_left _ _ (by omega), Nat.div_eq_of_lt (by omega)]; omega
  · have : n + c - 1 = (m - 1) + c * (q + 1) := by omega
    rw [this, Nat.add_mul_div_left _ _ (by omega), Nat.div_eq_of_lt (by omega)]; omega
end Go.Proofs.Ytcmdehfbidgoeaa.Can
