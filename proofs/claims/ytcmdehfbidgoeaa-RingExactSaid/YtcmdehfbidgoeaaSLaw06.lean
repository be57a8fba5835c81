/- What the laws on slots share, in the canonical machine. No condition. -/
import Derived.Test.YtcmdehfbidgoeaaSSlot
namespace Go.Proofs.Ytcmdehfbidgoeaa.Can
open Go
set_option linter.unusedSimpArgs false
set_option linter.unusedVariables false
attribute [local congr] RunR_congr RunC_congr afterR_congr guardR_congr condQ_congr CALL_congr finQ_congr op_congr opg_congr

/-! ### counters -/
theorem ctr_set (c : List Int) (i j : Nat) (x : Int) : ctr (c.set i x) j = if i = j ∧ i < c.length then x else ctr c j := by
  unfold ctr
  rw [List.getElem?_set]
  by_cases h : i = j
  · subst h
    by_cases h2 : i < c.length
    · rw [if_pos rfl, if_pos h2, if_pos ⟨rfl, h2⟩]; rfl
    · rw [if_pos rfl, if_neg h2, if_neg (fun h => h2 h.2), List.getElem?_eq_none (by omega)]
  · rw [if_neg h, if_neg (fun k => h k.1)]
theorem addN_up (c : List Int) (f : Nat → Nat) (want : Int) : ∀ k j, ctr c j ≤ ctr (addN c f want k) j
  | 0, j => Int.le_refl _
  | k + 1, j => by
    have ih := addN_up c f want k j
    simp only [addN]
    rw [ctr_set]
    split
    · rename_i h; rw [h.1]; omega
    · exact ih
theorem addN_top (c : List Int) (f : Nat → Nat) (want : Int) : ∀ k j, ctr (addN c f want k) j ≤ max (ctr c j) want
  | 0, j => by simp only [addN]; omega
  | k + 1, j => by
    have ih := addN_top c f want k j
    simp only [addN]
    rw [ctr_set]
    split
    · rename_i h; rw [h.1]; omega
    · exact ih
theorem addN_at (c : List Int) (f : Nat → Nat) (want : Int) : ∀ k r, r < k → f r < c.length → want ≤ ctr (addN c f want k) (f r)
  | 0, r, h, _ => by omega
  | k + 1, r, h, hl => by
    simp only [addN]
    rw [ctr_set, addN_len]
    by_cases e : r = k
    · subst e; rw [if_pos ⟨rfl, hl⟩]; omega
    · have ih := addN_at c f want k r (by omega) hl
      split
      · omega
      · exact ih
theorem addN_key (c : List Int) (f : Nat → Nat) (want : Int) {k r : Nat} (h : r < k) (hl : f r < c.length) : ctr (addN c f want k) (f r) = max (ctr c (f r)) want := by
  have h1 := addN_up c f want k (f r)
  have h2 := addN_top c f want k (f r)
  have h3 := addN_at c f want k r h hl
  omega
theorem leastN_le (c : List Int) (f : Nat → Nat) : ∀ k r, r ≤ k → leastN c f k ≤ ctr c (f r)
  | 0, r, h => by obtain rfl : r = 0 := by omega
                  exact Int.le_refl _
  | k + 1, r, h => by
    simp only [leastN]
    by_cases e : r = k + 1
    · subst e; omega
    · have := leastN_le c f k r (by omega); omega
theorem leastN_is (c : List Int) (f : Nat → Nat) : ∀ k, ∃ r, r ≤ k ∧ leastN c f k = ctr c (f r)
  | 0 => ⟨0, Nat.le_refl _, rfl⟩
  | k + 1 => by
    obtain ⟨r, h1, h2⟩ := leastN_is c f k
    simp only [leastN]
    by_cases e : leastN c f k ≤ ctr c (f (k + 1))
    · exact ⟨r, by omega, by omega⟩
    · exact ⟨k + 1, Nat.le_refl _, by omega⟩
theorem leastN_mono {c d : List Int} (h : ∀ j, ctr c j ≤ ctr d j) (f : Nat → Nat) : ∀ k, leastN c f k ≤ leastN d f k
  | 0 => h _
  | k + 1 => by have h1 := leastN_mono h f k; have h2 := h (f (k + 1)); simp only [leastN]; omega
theorem addC_up (c : List Int) (f : Nat → Nat) (R : Nat) (cost : Int) (j : Nat) : ctr c j ≤ ctr (addC c f R cost) j := by
  unfold addC
  split
  · exact Int.le_refl _
  · exact addN_up _ _ _ _ _
/-- All the counters of a key are alike. -/
def Uni (c : List Int) (f : Nat → Nat) (R : Nat) (s : Int) : Prop := ∀ r, r < R → ctr c (f r) = s
theorem Uni.least {c : List Int} {f : Nat → Nat} {R : Nat} {s : Int} (u : Uni c f R s) (hR : 1 ≤ R) : leastN c f (R - 1) = s := by
  obtain ⟨r, h1, h2⟩ := leastN_is c f (R - 1)
  rw [h2]; exact u r (by omega)
theorem Uni.add {c : List Int} {f : Nat → Nat} {R : Nat} {s : Int} (u : Uni c f R s) (hR : 1 ≤ R) (hs : 0 ≤ s ∧ s ≤ 9223372036854775807) (hf : ∀ r, r < R → f r < c.length) (cost : Int) : Uni (addC c f R cost) f R (if cost < 1 then s else near (s + cost)) := fun r hr => by
  unfold addC
  by_cases h : cost < 1
  · rw [if_pos h, if_pos h]; exact u r hr
  · rw [if_neg h, if_neg h, addN_key _ _ _ hr (hf r hr), u.least hR, u r hr]
    unfold near
    split
    · omega
    · split <;> omega
theorem uni_zero (n : Nat) (f : Nat → Nat) (R : Nat) : Uni (List.replicate n 0) f R 0 := fun r _ => by
  unfold ctr
  rw [List.getElem?_replicate]
  split <;> rfl
theorem Lst.nil {α : Type} (h : Heap) (E : Enc α) : Lst h E (.slice none 0 0) [] := ⟨none, 0, rfl, fun i x hx => by simp at hx⟩
theorem SlotAt.f_lt {h : Heap} {p nb rb w : Nat} {rv : Value} {rows : List RowT} {c : List Int} (S : SlotAt h p nb rv rb rows w c) (key : ByteArray) : ∀ r, r < rows.length → ix rows w key r < c.length := fun r hr => by
  rw [S.len]; exact S.ix_lt key hr

abbrev CallT := ByteArray × Int
abbrev CallE : Enc CallT := Enc.pair Enc.str (Enc.int .i64)
def Few (l : List CallT) : Prop := l.length ≤ 100 ∧ ∀ x ∈ l, x.1.size ≤ 100
end Go.Proofs.Ytcmdehfbidgoeaa.Can
