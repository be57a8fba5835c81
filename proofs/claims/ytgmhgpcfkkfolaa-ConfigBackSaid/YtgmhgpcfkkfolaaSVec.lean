/- More of growing slices, in the canonical machine. No condition. -/
import Derived.Test.YtgmhgpcfkkfolaaSDec
namespace Go.Proofs.Ytgmhgpcfkkfolaa.Can
open Go
set_option linter.unusedSimpArgs false
set_option linter.unusedVariables false

theorem Vec.old {α : Type} {h h' : Heap} {t : TypeId} {E : Enc α} {v : Value} {l : List α} {b : Nat} (V : Vec h t E v l b) (o : Old h h') : Vec h' t E v l b := V.keep o.next fun hb => o.obj b hb
theorem Vec.src {α : Type} {h : Heap} {t : TypeId} {E : Enc α} {v : Value} {l : List α} {b : Nat} (V : Vec h t E v l b) (hl : 0 < l.length) : srcCells h E.sz v = some (E.all l, l.length) := by
  obtain ⟨cap, rest, rfl, hb, ho, h4, h5⟩ := V.at hl
  have hm : l.length * E.sz ≤ (E.all l ++ rest).length := by rw [List.length_append, E.all_len]; omega
  unfold srcCells
  simp only [if_true, ho, src_grow, Nat.zero_add, hm, List.drop_zero]
  rw [List.take_append_of_le_length (by rw [E.all_len]; exact Nat.le_refl _), List.take_of_length_le (by rw [E.all_len]; exact Nat.le_refl _)]
  rfl
def strB (l : List Int) : Value := .string ⟨(l.map fun n => UInt8.ofNat n.toNat).toArray⟩
theorem bytesOf_all : ∀ l : List Int, bytesOf (B8.all l) = some (l.map fun n => UInt8.ofNat n.toNat)
  | [] => rfl
  | x :: t => by
    show bytesOf (Value.int .u8 x :: B8.all t) = _
    unfold bytesOf
    rw [bytesOf_all t]; rfl
theorem Vec.str {h : Heap} {v : Value} {l : List Int} {b : Nat} (V : Vec h 5 B8 v l b) (hl : 0 < l.length) : cop (.toStr v) h = some (strB l, h) := by
  obtain ⟨cap, rest, rfl, hb, ho, h4, h5⟩ := V.at hl
  have hb1 : B8.sz = 1 := rfl
  have e := B8.all_len l
  rw [hb1, Nat.mul_one] at e
  simp only [cop, if_true, ho, read_cells]
  rw [if_pos (by rw [List.length_append, e]; omega), List.drop_zero, List.take_append_of_le_length (by rw [e]; exact Nat.le_refl _), List.take_of_length_le (by rw [e]; exact Nat.le_refl _), Option.bind_some, bytesOf_all]
  rfl
theorem Vec.rdB {h : Heap} {v : Value} {l : List Int} {b : Nat} (V : Vec h 5 B8 v l b) (hl : 0 < l.length) : ∃ cap, v = .slice (some ⟨b, 0, none⟩) l.length cap ∧ b < h.next ∧ l.length ≤ cap ∧ (h.obj b).read 0 l.length = some (B8.all l) ∧ (h.obj b).elemOk 5 = true := by
  obtain ⟨cap, rest, rfl, hb, ho, h4, h5⟩ := V.at hl
  have hb1 : B8.sz = 1 := rfl
  have e := B8.all_len l
  rw [hb1, Nat.mul_one] at e
  refine ⟨cap, rfl, hb, h5, ?_, by rw [ho]; rfl⟩
  rw [ho, read_cells, if_pos (by rw [List.length_append, e]; omega), List.drop_zero, List.take_append_of_le_length (by rw [e]; exact Nat.le_refl _), List.take_of_length_le (by rw [e]; exact Nat.le_refl _)]
theorem eqRule (L W B S C R D T : Int) (m : Bool) : eqL [.int, .int, .int, .int, .int, .int, .int, .int, .bool] (rc L W B S C R D T m) (rc L W B S C R D T m) = some true := by
  simp [eqL, eqS]
theorem Vec.setB {h : Heap} {v : Value} {l : List Int} {b : Nat} (V : Vec h 5 B8 v l b) (i : Nat) (hi : i < l.length) (x : Int) : ∃ ob, (h.obj b).write i [.int .u8 x] = some ob ∧ Vec (h.upd b ob) 5 B8 v (l.set i x) b := by
  obtain ⟨cap, rest, rfl, hb, ho, h4, h5⟩ := V.at (by omega)
  have hb1 : B8.sz = 1 := rfl
  have e := B8.all_len l
  rw [hb1, Nat.mul_one] at e
  refine ⟨_, by rw [ho, write_grow, if_pos (by rw [List.length_append, e, List.length_singleton]; omega)], .inr ⟨cap, rest, by rw [List.length_set], hb, ?_, by rw [List.length_set]; exact h4, by rw [List.length_set]; exact h5⟩⟩
  rw [obj_upd_same, setAt_app _ _ _ _ (by rw [e, List.length_singleton]; omega), ← B8.all_set l i x hi, hb1, Nat.mul_one]
  rfl
end Go.Proofs.Ytgmhgpcfkkfolaa.Can
