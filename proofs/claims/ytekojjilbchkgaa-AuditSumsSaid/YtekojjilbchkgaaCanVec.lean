/- Lists in memory: values in cells, slices that grow. No condition. -/
import Derived.Test.YtekojjilbchkgaaCanWp
namespace Go.Proofs.Ytekojjilbchkgaa.Can
open Go
set_option linter.unusedVariables false
set_option linter.unusedSimpArgs false

/-! ### values in cells -/
structure Enc (α : Type) where
  sz : Nat
  enc : α → List Value
  len : ∀ a, (enc a).length = sz
  self : ∀ a, (enc a).all selfS = true
namespace Enc
def int (k : IntKind) : Enc Int := ⟨1, fun n => [.int k n], fun _ => rfl, fun _ => rfl⟩
def bool : Enc Bool := ⟨1, fun n => [.bool n], fun _ => rfl, fun _ => rfl⟩
def str : Enc ByteArray := ⟨1, fun n => [.string n], fun _ => rfl, fun _ => rfl⟩
def pair {α β : Type} (a : Enc α) (b : Enc β) : Enc (α × β) :=
  ⟨a.sz + b.sz, fun x => a.enc x.1 ++ b.enc x.2, fun x => by simp [a.len, b.len], fun x => by simp [List.all_append, a.self, b.self]⟩
end Enc

theorem drop_take_get {α : Type} (l : List α) (a n i : Nat) (h : i < n) : ((l.drop a).take n)[i]? = l[a + i]? := by
  rw [List.getElem?_take, if_pos h, List.getElem?_drop]
theorem get_of_read {ob : Obj} {o : Nat} {v : Value} (h : ob.read o 1 = some [v]) : ob.get o = some v := by
  cases ob with
  | cells c t g =>
    simp only [Obj.read] at h
    split at h
    · rename_i hle
      have h2 := Option.some.inj h
      have : ((c.drop o).take 1)[0]? = some v := by rw [h2]; rfl
      rw [drop_take_get _ _ _ _ (by omega)] at this
      exact this
    · simp at h
  | _ => simp [Obj.read] at h
theorem read_get {ob : Obj} {o n i : Nat} {l : List Value} {v : Value} (h : ob.read o n = some l) (hi : i < n) (hv : l[i]? = some v) : ob.get (o + i) = some v := by
  cases ob with
  | cells c t g =>
    simp only [Obj.read] at h
    split at h
    · rename_i hle
      have h2 := Option.some.inj h
      rw [← h2, drop_take_get _ _ _ _ hi] at hv
      exact hv
    · simp at h
  | _ => simp [Obj.read] at h
theorem scalar_self {v : Value} (h : selfS v = true) : scalar v = true := by
  cases v <;> first | rfl | (exact absurd h Bool.false_ne_true)
/-- The cells of a list. -/
def Enc.all {α : Type} (E : Enc α) (l : List α) : List Value := l.flatMap E.enc
section
variable {α : Type} (E : Enc α)
theorem Enc.all_nil : E.all [] = [] := rfl
theorem Enc.all_cons (x : α) (l : List α) : E.all (x :: l) = E.enc x ++ E.all l := rfl
theorem Enc.all_append (l m : List α) : E.all (l ++ m) = E.all l ++ E.all m := by simp [Enc.all]
theorem Enc.all_len : ∀ (l : List α), (E.all l).length = l.length * E.sz
  | [] => by simp [Enc.all]
  | x :: l => by rw [Enc.all_cons, List.length_append, E.len, Enc.all_len l, List.length_cons, Nat.add_mul, Nat.one_mul, Nat.add_comm]
theorem Enc.all_scalar (l : List α) : (E.all l).all scalar = true := by
  rw [List.all_eq_true]
  intro x hx
  obtain ⟨y, _, hy⟩ := List.mem_flatMap.1 hx
  exact scalar_self (List.all_eq_true.1 (E.self y) x hy)
theorem Enc.all_at : ∀ (l : List α) (i : Nat) (x : α), l[i]? = some x → ((E.all l).drop (i * E.sz)).take E.sz = E.enc x
  | [], i, x, h => by simp at h
  | y :: l, 0, x, h => by
    simp only [List.getElem?_cons_zero, Option.some.injEq] at h
    subst h
    rw [Nat.zero_mul, List.drop_zero, Enc.all_cons, List.take_left' (E.len y)]
  | y :: l, i + 1, x, h => by
    simp only [List.getElem?_cons_succ] at h
    rw [Enc.all_cons, Nat.add_mul, Nat.one_mul, Nat.add_comm, ← List.drop_drop, List.drop_left' (E.len y)]
    exact Enc.all_at l i x h
theorem Enc.all_set : ∀ (l : List α) (i : Nat) (x : α), i < l.length → setAt (E.all l) (i * E.sz) (E.enc x) = E.all (l.set i x) := by
  have hset : ∀ (vs c d : List Value) (o : Nat), o + vs.length ≤ c.length → setAt (c ++ d) o vs = setAt c o vs ++ d := by
    intro vs
    induction vs with
    | nil => intro c d o h; rfl
    | cons v vs ih =>
      intro c d o h
      simp only [List.length_cons] at h
      simp only [setAt]
      rw [List.set_append_left _ _ (by omega), ih _ _ _ (by simp; omega)]
  have hpre : ∀ (vs c d : List Value) (o : Nat), setAt (c ++ d) (c.length + o) vs = c ++ setAt d o vs := by
    intro vs
    induction vs with
    | nil => intro c d o; rfl
    | cons v vs ih =>
      intro c d o
      simp only [setAt]
      rw [List.set_append_right _ _ (by omega), Nat.add_sub_cancel_left, Nat.add_assoc, ih]
  have hfull : ∀ (vs c : List Value), vs.length = c.length → setAt c 0 vs = vs := by
    intro vs
    have : ∀ (vs c d : List Value), vs.length = d.length → setAt (c ++ d) c.length vs = c ++ vs := by
      intro vs
      induction vs with
      | nil => intro c d h; have : d = [] := List.length_eq_zero_iff.1 h.symm; subst this; rfl
      | cons v vs ih =>
        intro c d h
        cases d with
        | nil => simp at h
        | cons u d =>
          simp only [setAt]
          rw [List.set_append_right _ _ (Nat.le_refl _), Nat.sub_self, List.set_cons_zero]
          have h2 := ih (c ++ [v]) d (by simpa using h)
          simp only [List.length_append, List.length_singleton, List.append_assoc, List.singleton_append] at h2
          exact h2
    intro c h
    have := this vs [] c h
    simpa using this
  intro l
  induction l with
  | nil => intro i x h; simp at h
  | cons y l ih =>
    intro i x h
    cases i with
    | zero =>
      rw [Nat.zero_mul, Enc.all_cons, List.set_cons_zero, Enc.all_cons, hset _ _ _ _ (by rw [E.len, E.len]; omega), hfull _ _ (by rw [E.len, E.len])]
    | succ i =>
      rw [Enc.all_cons, List.set_cons_succ, Enc.all_cons, Nat.add_mul, Nat.one_mul, Nat.add_comm, ← E.len y, hpre, E.len y, ih i x (by simpa using h)]
theorem setAt_app (vs c d : List Value) (o : Nat) (h : o + vs.length ≤ c.length) : setAt (c ++ d) o vs = setAt c o vs ++ d := by
  induction vs generalizing c o with
  | nil => rfl
  | cons v vs ih =>
    simp only [List.length_cons] at h
    simp only [setAt]
    rw [List.set_append_left _ _ (by omega), ih _ _ (by simp; omega)]
theorem setAt_over (c : List Value) : ∀ (vs d : List Value), vs.length ≤ d.length → setAt (c ++ d) c.length vs = c ++ vs ++ d.drop vs.length := by
  intro vs
  induction vs generalizing c with
  | nil => intro d _; simp [setAt]
  | cons v vs ih =>
    intro d h
    cases d with
    | nil => simp at h
    | cons u d =>
      simp only [List.length_cons] at h
      simp only [setAt]
      rw [List.set_append_right _ _ (Nat.le_refl _), Nat.sub_self, List.set_cons_zero]
      have h2 := ih (c ++ [v]) d (by omega)
      simp only [List.length_append, List.length_singleton, List.append_assoc, List.singleton_append, List.cons_append, List.nil_append] at h2 ⊢
      rw [h2]; simp
end

/-- Slots that hold what they held. -/
def Agree (l : List Nat) (e e' : Env) : Prop := ∀ t ∈ l, e' t = e t
theorem Agree.refl (l : List Nat) (e : Env) : Agree l e e := fun _ _ => rfl
theorem Agree.upd {l : List Nat} {e e' : Env} (a : Agree l e e') {t : Nat} (ht : l.elem t = false) (v : Value) : Agree l e (e'.upd t v) := fun s hs => by
  rw [upd_at]
  have : (s == t) = false := by
    cases hq : (s == t) with
    | false => rfl
    | true => rw [eq_of_beq hq] at hs; rw [List.elem_eq_true_of_mem hs] at ht; exact ht
  rw [this]; exact a s hs
theorem src_one (h : Heap) (v : Value) (t : TypeId) (c : Nat) : srcCells (h.new (.cells [v] t .grow)) 1 (.slice (some ⟨h.next, 0, none⟩) 1 c) = some ([v], 1) := by
  unfold srcCells
  simp only [if_true, obj_new_same, src_grow]
  rfl

theorem src_enc {α : Type} (E : Enc α) (h : Heap) (x : α) (t : TypeId) (c : Nat) : srcCells (h.new (.cells (E.enc x) t .grow)) E.sz (.slice (some ⟨h.next, 0, none⟩) 1 c) = some (E.all [x], [x].length) := by
  unfold srcCells
  simp only [if_true, obj_new_same, src_grow, Nat.one_mul, Nat.zero_add, E.len, Nat.le_refl, List.drop_zero, Enc.all_cons, Enc.all_nil, List.append_nil]
  rw [List.take_of_length_le (by rw [E.len]; exact Nat.le_refl _)]
  rfl

/-- A slice that may grow, in the object b (if it has one), holds a list. -/
def Vec {α : Type} (h : Heap) (t : TypeId) (E : Enc α) (v : Value) (l : List α) (b : Nat) : Prop :=
  (v = .slice none 0 0 ∧ l = []) ∨
  ∃ cap rest, v = .slice (some ⟨b, 0, none⟩) l.length cap ∧ b < h.next ∧ h.obj b = .cells (E.all l ++ rest) t .grow ∧ l.length * E.sz + rest.length = cap * E.sz ∧ l.length ≤ cap
section
variable {α : Type} {h h' : Heap} {t : TypeId} {E : Enc α} {v : Value} {l : List α} {b : Nat}
theorem Vec.nil (h : Heap) (t : TypeId) (E : Enc α) (b : Nat) : Vec h t E (.slice none 0 0) [] b := .inl ⟨rfl, rfl⟩
theorem Vec.val (V : Vec h t E v l b) : ∃ a cap, v = .slice a l.length cap ∧ l.length ≤ cap := by
  rcases V with ⟨rfl, rfl⟩ | ⟨cap, rest, h1, _, _, _, h2⟩
  · exact ⟨none, 0, rfl, Nat.le_refl _⟩
  · exact ⟨_, cap, h1, h2⟩
theorem Vec.keep (V : Vec h t E v l b) (hn : h.next ≤ h'.next) (ho : b < h.next → h'.obj b = h.obj b) : Vec h' t E v l b := by
  rcases V with V | ⟨cap, rest, h1, h2, h3, h4⟩
  · exact .inl V
  · exact .inr ⟨cap, rest, h1, Nat.lt_of_lt_of_le h2 hn, by rw [ho h2]; exact h3, h4⟩
theorem Vec.ne (V : Vec h t E v l b) : ∀ x, h.next ≤ x → v = .slice none 0 0 ∨ x ≠ b := fun x hx => by
  rcases V with ⟨rfl, _⟩ | ⟨_, _, _, h2, _⟩
  · exact .inl rfl
  · right; omega
/-- Its object, where it has elements. -/
theorem Vec.at (V : Vec h t E v l b) (hl : 0 < l.length) : ∃ cap rest, v = .slice (some ⟨b, 0, none⟩) l.length cap ∧ b < h.next ∧ h.obj b = .cells (E.all l ++ rest) t .grow ∧ l.length * E.sz + rest.length = cap * E.sz ∧ l.length ≤ cap := by
  rcases V with ⟨rfl, rfl⟩ | V
  · simp at hl
  · exact V
theorem Vec.read (V : Vec h t E v l b) {i : Nat} {x : α} (hx : l[i]? = some x) : ∃ cap, v = .slice (some ⟨b, 0, none⟩) l.length cap ∧ (h.obj b).read (0 + i * E.sz) E.sz = some (E.enc x) := by
  have hi := (List.getElem?_eq_some_iff.1 hx).1
  obtain ⟨cap, rest, h1, _, h3, h4, h5⟩ := V.at (by omega)
  refine ⟨cap, h1, ?_⟩
  have hle : (i + 1) * E.sz ≤ l.length * E.sz := Nat.mul_le_mul_right _ hi
  rw [Nat.add_mul, Nat.one_mul] at hle
  rw [h3, Nat.zero_add, read_cells, if_pos (by rw [List.length_append, E.all_len]; omega), ← E.all_at l i x hx, List.drop_append_of_le_length (by rw [E.all_len]; omega), List.take_append_of_le_length (by rw [List.length_drop, E.all_len]; omega)]
theorem Vec.get1 {k : IntKind} {l : List Int} (V : Vec h t (Enc.int k) v l b) {i : Nat} {x : Int} (hx : l[i]? = some x) : ∃ cap, v = .slice (some ⟨b, 0, none⟩) l.length cap ∧ (h.obj b).get i = some (.int k x) := by
  obtain ⟨cap, h1, h2⟩ := V.read hx
  refine ⟨cap, h1, get_of_read ?_⟩
  simpa [Enc.int] using h2

variable {CP : CProg}
/-- Elements are appended. -/
theorem Vec.app (V : Vec h t E v l b) {size bytes : Nat} (hsz : E.sz = size) {y : Value} {m : List α} (hy : srcCells h size y = some (E.all m, m.length))
    (hb : (l.length + m.length) * bytes ≤ 140737488355328) (hl : l.length + m.length ≤ 9223372036854775807) {k : Value → Reg} {Q : Post}
    (hQ : ∀ v' h' b', Vec h' t E v' (l ++ m) b' → h.next ≤ h'.next → (b' = b ∨ h.next ≤ b') → (∀ x, x < h.next → (v = .slice none 0 0 ∨ x ≠ b) → h'.obj x = h.obj x) → RunR CP (k v') h' Q) :
    afterR CP (copAppend t size bytes v y h) k Q := by
  subst hsz
  unfold copAppend
  rw [hy]
  rcases V with ⟨rfl, rfl⟩ | ⟨cap, rest, rfl, h2, h3, h4, h5⟩
  · simp only [List.length_nil, Nat.zero_add] at hb hl ⊢
    by_cases hm : m.length ≤ 0
    · obtain rfl : m = [] := List.length_eq_zero_iff.1 (by omega)
      exact hQ _ _ b (.inl ⟨rfl, rfl⟩) (Nat.le_refl _) (.inl rfl) (fun _ _ _ => rfl)
    · rw [if_neg hm, if_pos ⟨hb, hl⟩]
      refine hQ _ _ h.next (.inr ⟨m.length, [], by simp, Nat.lt_succ_self _, by rw [obj_new_same]; simp, by simp, by simp⟩) (Nat.le_succ _) (.inr (Nat.le_refl _)) (fun x hx _ => obj_new_ne _ _ (by omega))
  · have hlen := E.all_len l
    have hmlen := E.all_len m
    by_cases hfit : l.length + m.length ≤ cap
    · have hmul : (l.length + m.length) * E.sz ≤ cap * E.sz := Nat.mul_le_mul_right _ hfit
      rw [Nat.add_mul] at hmul
      simp only [if_pos hfit, if_true, h3, Nat.zero_add]
      rw [write_grow, if_pos (by rw [List.length_append, hlen, hmlen]; omega), ← hlen, setAt_over _ _ _ (by rw [hmlen]; omega)]
      refine hQ _ _ b (.inr ⟨cap, rest.drop (E.all m).length, by rw [List.length_append], h2, by rw [obj_upd_same, E.all_append], ?_, by rw [List.length_append]; exact hfit⟩) (Nat.le_refl _) (.inl rfl) (fun x _ hx => obj_upd_ne _ _ (hx.resolve_left (by simp)))
      rw [List.length_append, List.length_drop, hmlen, Nat.add_mul]; omega
    · simp only [if_neg hfit, if_pos (show (l.length + m.length) * bytes ≤ 140737488355328 ∧ l.length + m.length ≤ 9223372036854775807 from ⟨hb, hl⟩), h3]
      rw [if_pos ⟨trivial, trivial, by rw [List.length_append, hlen]; omega, h5⟩]
      refine hQ _ _ h.next (.inr ⟨l.length + m.length, [], by rw [List.length_append], Nat.lt_succ_self _, ?_, by simp, by simp⟩) (Nat.le_succ _) (.inr (Nat.le_refl _)) (fun x hx hxb => ?_)
      · rw [show h.next = (h.upd b .gone).next from rfl, obj_new_same, List.append_nil, List.drop_zero, ← hlen, List.take_left, E.all_append]
      · rw [obj_new_ne _ _ (by show x ≠ h.next; omega), obj_upd_ne _ _ (hxb.resolve_left (by simp))]
/-- The last ones are cut off. -/
theorem Vec.cut {cap : Nat} {a : Option Addr} {n : Nat} (V : Vec h t E (.slice a n cap) l b) (j : Nat) (hj : j ≤ l.length) : Vec h t E (.slice a j cap) (l.take j) b := by
  rcases V with ⟨hv, rfl⟩ | ⟨cap', rest, hv, h2, h3, h4, h5⟩
  · simp only [Value.slice.injEq] at hv
    obtain ⟨rfl, rfl, rfl⟩ := hv
    simp only [List.length_nil] at hj
    obtain rfl : j = 0 := by omega
    exact .inl ⟨rfl, rfl⟩
  · simp only [Value.slice.injEq] at hv
    obtain ⟨rfl, rfl, rfl⟩ := hv
    have hjl : (l.take j).length = j := by rw [List.length_take]; omega
    have hd : l.length * E.sz = j * E.sz + (l.length - j) * E.sz := by rw [← Nat.add_mul]; congr 1; omega
    refine .inr ⟨cap, E.all (l.drop j) ++ rest, by rw [hjl], h2, ?_, ?_, by omega⟩
    · rw [h3, ← List.append_assoc, ← E.all_append, List.take_append_drop]
    · rw [hjl, List.length_append, E.all_len, List.length_drop]; omega
end
end Go.Proofs.Ytekojjilbchkgaa.Can
