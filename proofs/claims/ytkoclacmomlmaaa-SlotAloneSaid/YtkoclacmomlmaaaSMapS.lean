/- Maps of words to numbers, and going through them. No condition. -/
import Derived.Test.YtkoclacmomlmaaaSArith
import Derived.Test.YtkoclacmomlmaaaArg
import Derived.Test.YtkoclacmomlmaaaCanNext
import Derived.WideShapes
import Derived.Laws.Strings
namespace Go.Proofs.Ytkoclacmomlmaaa.Can
open Go
set_option linter.unusedSimpArgs false
set_option linter.unusedVariables false

def sameK (a b : ByteArray) : Bool := a.toList == b.toList
theorem sameK_eq {a b : ByteArray} (h : sameK a b = true) : a = b := by
  unfold sameK at h
  have h := eq_of_beq h
  rw [ByteArray.toList_eq, ByteArray.toList_eq] at h
  exact Go.WideShapes.bytes_inj h
theorem sameK_refl (a : ByteArray) : sameK a a = true := by unfold sameK; exact beq_self_eq_true _
theorem sameK_ne {a b : ByteArray} (h : ¬ sameK a b = true) : a ≠ b := fun e => h (by rw [e]; exact sameK_refl b)
abbrev MS := List (ByteArray × Int × Nat)
def msE (x : ByteArray × Int × Nat) : MapEntry := { key := .string x.1, val := .int .i64 x.2.1, born := x.2.2 }
def msget (k : ByteArray) : MS → Int
  | [] => 0
  | x :: t => if sameK k x.1 = true then x.2.1 else msget k t
def msset (k : ByteArray) (v : Int) (c : Nat) : MS → MS
  | [] => [(k, v, c)]
  | x :: t => if sameK k x.1 = true then (k, v, x.2.2) :: t else x :: msset k v c t
def msidx (k : ByteArray) : MS → Nat → Option Nat
  | [], _ => none
  | x :: t, i => if sameK k x.1 = true then some i else msidx k t (i + 1)
theorem msget_set (k : ByteArray) (v : Int) (c : Nat) (q : ByteArray) : ∀ L, msget q (msset k v c L) = if sameK q k = true then v else msget q L
  | [] => by simp only [msset, msget]
  | x :: t => by
    simp only [msset]
    by_cases h : sameK k x.1 = true
    · have e := sameK_eq h
      rw [if_pos h]
      simp only [msget]
      rw [← e]
      by_cases hq : sameK q k = true
      · rw [if_pos hq, if_pos hq]
      · rw [if_neg hq, if_neg hq, if_neg hq]
    · rw [if_neg h]
      simp only [msget]
      rw [msget_set k v c q t]
      by_cases hq : sameK q k = true
      · have e := sameK_eq hq
        rw [if_pos hq, if_pos hq, if_neg (by rw [e]; exact h)]
      · rw [if_neg hq, if_neg hq]
/-- Each entry has its own number and its own word. -/
structure MsOk (L : MS) (clock : Nat) : Prop where
  nd : (L.map (·.2.2)).Nodup
  lt : ∀ x ∈ L, x.2.2 < clock
  kd : (L.map (·.1)).Nodup
theorem MsOk.nil : MsOk [] 0 := ⟨List.nodup_nil, fun x hx => by simp at hx, List.nodup_nil⟩
theorem ms_get : ∀ {L : MS}, (L.map (·.1)).Nodup → ∀ x ∈ L, msget x.1 L = x.2.1
  | [], _, x, hx => by simp at hx
  | y :: t, hn, x, hx => by
    simp only [List.map_cons, List.nodup_cons] at hn
    simp only [msget]
    rcases List.mem_cons.1 hx with rfl | hx
    · rw [if_pos (sameK_refl _)]
    · have : ¬ sameK x.1 y.1 = true := fun h => hn.1 (by rw [← sameK_eq h]; exact List.mem_map.2 ⟨x, hx, rfl⟩)
      rw [if_neg this]
      exact ms_get hn.2 x hx
theorem MsOk.get {L : MS} {clock : Nat} (o : MsOk L clock) : ∀ x ∈ L, msget x.1 L = x.2.1 := ms_get o.kd
theorem msfind (k : ByteArray) : ∀ (L : MS) (i : Nat), findEntry (.one .str) (.string k) (L.map msE) i = some (msidx k L i)
  | [], i => rfl
  | x :: t, i => by
    simp only [List.map_cons, findEntry, msE, keyEq, eqS, Option.bind_some, msidx]
    by_cases h : sameK k x.1 = true
    · have h' : (k.toList == x.1.toList) = true := h
      rw [if_pos h', if_pos h]
    · have h' : ¬ (k.toList == x.1.toList) = true := h
      rw [if_neg h', if_neg h]
      exact msfind k t (i + 1)
theorem msidx_some {k : ByteArray} : ∀ {L : MS} {i j : Nat}, msidx k L i = some j → ∃ q x, j = i + q ∧ L[q]? = some x ∧ msget k L = x.2.1 ∧ (∀ v c, msset k v c L = L.set q (k, v, x.2.2)) ∧ k = x.1
  | [], i, j, h => by simp [msidx] at h
  | x :: t, i, j, h => by
    simp only [msidx] at h
    by_cases e : sameK k x.1 = true
    · rw [if_pos e] at h
      obtain rfl := Option.some.inj h
      exact ⟨0, x, rfl, rfl, by simp only [msget]; rw [if_pos e], fun v c => by simp only [msset]; rw [if_pos e]; rfl, sameK_eq e⟩
    · rw [if_neg e] at h
      obtain ⟨q, y, h1, h2, h3, h4, h5⟩ := msidx_some h
      exact ⟨q + 1, y, by omega, by simpa using h2, by simp only [msget]; rw [if_neg e]; exact h3, fun v c => by simp only [msset]; rw [if_neg e, h4]; rfl, h5⟩
theorem msidx_none {k : ByteArray} : ∀ {L : MS} {i : Nat}, msidx k L i = none → msget k L = 0 ∧ (∀ v c, msset k v c L = L ++ [(k, v, c)]) ∧ k ∉ L.map (·.1)
  | [], i, h => ⟨rfl, fun v c => rfl, by simp⟩
  | x :: t, i, h => by
    simp only [msidx] at h
    by_cases e : sameK k x.1 = true
    · rw [if_pos e] at h; simp at h
    · rw [if_neg e] at h
      obtain ⟨h1, h2, h3⟩ := msidx_none h
      exact ⟨by simp only [msget]; rw [if_neg e]; exact h1, fun v c => by simp only [msset]; rw [if_neg e, h2]; rfl, by
        rw [List.map_cons, List.mem_cons]
        rintro (h | h)
        · exact e (by rw [h]; exact sameK_refl _)
        · exact h3 h⟩
theorem mslookup {h : Heap} {b : Nat} {L : MS} {c : Nat} (ho : h.obj b = .map (L.map msE) c) (k : ByteArray) : cop (.lookup (.one .str) (.int .i64 0) false (.map (some b)) (.string k)) h = some (.int .i64 (msget k L), h) := by
  have e : keyEq (.one .str) (.string k) (.string k) = some true := by simp [keyEq, eqS]
  simp only [cop, ho, e, Option.bind_some, msfind, Option.map_some]
  cases hi : msidx k L 0 with
  | none => simp [(msidx_none hi).1]
  | some j =>
    obtain ⟨q, x, h1, h2, h3, _, _⟩ := msidx_some hi
    obtain rfl : j = q := by omega
    simp only [List.getElem?_map, h2, Option.map_some, Option.getD_some, h3, msE]
    rfl
theorem msupdate {h : Heap} {b : Nat} {L : MS} {c : Nat} (ho : h.obj b = .map (L.map msE) c) (ok : MsOk L c) (k : ByteArray) (v : Int) : ∃ c', cop (.mapUpdate (.one .str) (.map (some b)) (.string k) (.int .i64 v)) h = some (.tuple #[], h.upd b (.map ((msset k v c L).map msE) c')) ∧ MsOk (msset k v c L) c' := by
  have e : keyEq (.one .str) (.string k) (.string k) = some true := by simp [keyEq, eqS]
  simp only [cop, ho, e, Option.bind_some, msfind, Option.map_some]
  cases hi : msidx k L 0 with
  | none =>
    obtain ⟨h1, h2, h3⟩ := msidx_none hi
    refine ⟨c + 1, by simp [h2, msE], ?_⟩
    rw [h2]
    refine ⟨?_, fun x hx => ?_, ?_⟩
    · rw [List.map_append, List.nodup_append]
      refine ⟨ok.nd, by simp, fun a ha b hb => ?_⟩
      obtain ⟨x, hx, rfl⟩ := List.mem_map.1 ha
      have := ok.lt x hx
      simp only [List.map_cons, List.map_nil, List.mem_singleton] at hb
      omega
    · rw [List.mem_append] at hx
      rcases hx with hx | hx
      · have := ok.lt x hx; omega
      · rw [List.mem_singleton.1 hx]; exact Nat.lt_succ_self _
    · rw [List.map_append, List.nodup_append]
      refine ⟨ok.kd, by simp, fun a ha b hb => ?_⟩
      simp only [List.map_cons, List.map_nil, List.mem_singleton] at hb
      rintro rfl
      exact h3 (hb ▸ ha)
  | some j =>
    obtain ⟨q, x, h1, h2, _, h4, h5⟩ := msidx_some hi
    obtain rfl : j = q := by omega
    have hl := (List.getElem?_eq_some_iff.1 h2).1
    have e1 : (L.map msE).modify j (fun x => { x with key := .string k, val := .int .i64 v }) = (msset k v c L).map msE := by
      rw [h4]
      apply List.ext_getElem?
      intro i
      rw [List.getElem?_modify, List.getElem?_map, List.getElem?_map, List.getElem?_set]
      by_cases e : j = i
      · subst e
        rw [if_pos rfl, if_pos hl, h2]
        simp [msE]
      · simp [e]
    refine ⟨c, by simp only [e1], ?_⟩
    rw [h4]
    have kk : ∀ {β : Type} (f : ByteArray × Int × Nat → β), f (k, v, x.2.2) = f x → (L.set j (k, v, x.2.2)).map f = L.map f := fun f hf => by
      apply List.ext_getElem?
      intro i
      rw [List.getElem?_map, List.getElem?_map, List.getElem?_set]
      by_cases e : j = i
      · subst e
        rw [if_pos rfl, if_pos hl, h2, Option.map_some, Option.map_some, hf]
      · rw [if_neg e]
    refine ⟨by rw [kk (·.2.2) rfl]; exact ok.nd, fun y hy => ?_, by rw [kk (·.1) h5]; exact ok.kd⟩
    rcases List.mem_or_eq_of_mem_set hy with hy | rfl
    · exact ok.lt y hy
    · exact ok.lt x (List.mem_of_getElem? h2)
/-- What is left shrinks. -/
theorem left_less {es : List MapEntry} {seen : List Nat} {y : MapEntry} (hy : y ∈ leftE es seen) : (leftE es (seen ++ [y.born])).length < (leftE es seen).length := by
  have e : leftE es (seen ++ [y.born]) = (leftE es seen).filter fun z => !(z.born == y.born) := by
    unfold leftE
    rw [List.filter_filter]
    congr 1
    funext z
    simp only [List.contains_eq_any_beq, List.any_append, List.any_cons, List.any_nil, Bool.or_false, Bool.not_or]
    rw [Bool.and_comm]
  rw [e]
  exact List.length_filter_lt_length_iff_exists.2 ⟨y, hy, by simp⟩
theorem left_mem {es : List MapEntry} {seen : List Nat} {y : MapEntry} (hy : y ∈ leftE es seen) : y ∈ es := (List.mem_filter.1 hy).1
end Go.Proofs.Ytkoclacmomlmaaa.Can
