/- A map of sums, in the canonical machine. No condition. -/
import Derived.Test.YtekojjilbchkgaaSLed
namespace Go.Proofs.Ytekojjilbchkgaa.Can
open Go
set_option linter.unusedSimpArgs false
set_option linter.unusedVariables false

abbrev Sums := List (Wh × Int)
def sget (w : Wh) : Sums → Int
  | [] => 0
  | x :: r => if sameW w x.1 then x.2 else sget w r
def sset (w : Wh) (v : Int) : Sums → Sums
  | [] => [(w, v)]
  | x :: r => if sameW w x.1 then (w, v) :: r else x :: sset w v r
def sidx (w : Wh) : Sums → Nat → Option Nat
  | [], _ => none
  | x :: r, k => if sameW w x.1 then some k else sidx w r (k + 1)
theorem find_ss (w : Wh) : ∀ (ss : Sums) (es : List MapEntry) (k : Nat), es.length = ss.length → (∀ (i : Nat) (e : MapEntry) (x : Wh × Int), es[i]? = some e → ss[i]? = some x → e.key = whV x.1) → findEntry KW (whV w) es k = some (sidx w ss k)
  | [], [], k, _, _ => rfl
  | [], e :: es, k, h, _ => by simp at h
  | x :: ws, [], k, h, _ => by simp at h
  | x :: ws, e :: es, k, h, hk => by
    have h1 := hk 0 e x rfl rfl
    have ih := find_ss w ws es (k + 1) (by simpa using h) fun i e x he hx => hk (i + 1) e x (by simpa using he) (by simpa using hx)
    simp only [findEntry, h1, keyEq_wh, Option.bind_some, sidx]
    split
    · rfl
    · exact ih
theorem sidx_some {w : Wh} : ∀ {ss : Sums} {k i : Nat}, sidx w ss k = some i → ∃ j x, i = k + j ∧ ss[j]? = some x ∧ sget w ss = x.2 ∧ x.1 = w ∧ ∀ v, sset w v ss = ss.set j (w, v)
  | [], k, i, h => by simp [sidx] at h
  | x :: ws, k, i, h => by
    simp only [sidx] at h
    split at h
    · rename_i hs
      obtain rfl := Option.some.inj h
      exact ⟨0, x, rfl, rfl, by simp only [sget]; rw [if_pos hs], (sameW_eq.1 hs).symm, fun v => by simp only [sset]; rw [if_pos hs]; rfl⟩
    · rename_i hs
      obtain ⟨j, y, h1, h2, h3, h5, h4⟩ := sidx_some h
      exact ⟨j + 1, y, by omega, by simpa using h2, by simp only [sget]; rw [if_neg hs]; exact h3, h5, fun v => by simp only [sset]; rw [if_neg hs, h4 v]; rfl⟩
theorem sidx_none {w : Wh} : ∀ {ss : Sums} {k : Nat}, sidx w ss k = none → sget w ss = 0 ∧ ∀ v, sset w v ss = ss ++ [(w, v)]
  | [], k, h => ⟨rfl, fun v => rfl⟩
  | x :: ws, k, h => by
    simp only [sidx] at h
    split at h
    · simp at h
    · rename_i hs
      obtain ⟨h1, h2⟩ := sidx_none h
      exact ⟨by simp only [sget]; rw [if_neg hs]; exact h1, fun v => by simp only [sset]; rw [if_neg hs, h2 v]; rfl⟩
theorem sget_sset (u w : Wh) (v : Int) : ∀ ss : Sums, sget u (sset w v ss) = if sameW u w then v else sget u ss
  | [] => by simp only [sset, sget]
  | x :: r => by
    simp only [sset]
    by_cases h : sameW w x.1 = true
    · have e := sameW_eq.1 h
      rw [if_pos h]
      simp only [sget]
      rw [← e]
      by_cases hu : sameW u w = true
      · rw [if_pos hu, if_pos hu]
      · rw [if_neg hu, if_neg hu, if_neg hu]
    · rw [if_neg h]
      simp only [sget]
      rw [sget_sset u w v r]
      by_cases hu : sameW u w = true
      · have e := sameW_eq.1 hu
        rw [if_pos hu, if_pos hu, if_neg (by rw [e]; exact h)]
      · rw [if_neg hu, if_neg hu]
theorem sset_keys (w : Wh) (v : Int) : ∀ ss : Sums, (w ∈ ss.map (·.1) → (sset w v ss).map (·.1) = ss.map (·.1)) ∧ (w ∉ ss.map (·.1) → (sset w v ss).map (·.1) = ss.map (·.1) ++ [w])
  | [] => ⟨fun h => by simp at h, fun _ => rfl⟩
  | x :: r => by
    obtain ⟨i1, i2⟩ := sset_keys w v r
    simp only [sset]
    by_cases h : sameW w x.1 = true
    · rw [if_pos h]
      have := sameW_eq.1 h
      refine ⟨fun _ => by simp [this], fun hn => absurd (by rw [this]; exact List.mem_cons_self) hn⟩
    · rw [if_neg h]
      have hne : w ≠ x.1 := fun q => h (sameW_eq.2 q)
      refine ⟨fun hm => ?_, fun hn => ?_⟩
      · rw [List.map_cons, List.mem_cons] at hm
        rw [List.map_cons, List.map_cons, i1 (hm.resolve_left hne)]
      · rw [List.map_cons, List.mem_cons] at hn
        rw [List.map_cons, List.map_cons, i2 (fun q => hn (.inr q)), List.cons_append]
theorem sset_mem (w : Wh) (v : Int) (ss : Sums) : w ∈ (sset w v ss).map (·.1) := by
  obtain ⟨h1, h2⟩ := sset_keys w v ss
  by_cases c : w ∈ ss.map (·.1)
  · rw [h1 c]; exact c
  · rw [h2 c]; simp
theorem keys_same {ss : Sums} {ws : Led} (h : ss.map (·.1) = ws.map (·.1)) (w : Wh) (v : Int) (e : Ev) : (sset w v ss).map (·.1) = (note w e ws).map (·.1) := by
  obtain ⟨h1, h2⟩ := sset_keys w v ss
  obtain ⟨k1, k2⟩ := note_keys w e ws
  by_cases c : w ∈ ss.map (·.1)
  · rw [h1 c, k1 (by rw [← h]; exact c), h]
  · rw [h2 c, k2 (by rw [← h]; exact c), h]
theorem keys_again {ss : Sums} (w : Wh) (v u : Int) : (sset w u (sset w v ss)).map (·.1) = (sset w v ss).map (·.1) := (sset_keys w u _).1 (sset_mem w v ss)
/-- The map as it lies. -/
def SumAt (h : Heap) (sb : Nat) (ss : Sums) : Prop :=
  ∃ es, h.obj sb = .map es ss.length ∧ es.length = ss.length ∧ ∀ (i : Nat) (e : MapEntry) (x : Wh × Int), es[i]? = some e → ss[i]? = some x → e.key = whV x.1 ∧ e.born = i ∧ e.val = .int .i64 x.2
theorem SumAt.old {h h' : Heap} {sb : Nat} {ss : Sums} (S : SumAt h sb ss) (ho : h'.obj sb = h.obj sb) : SumAt h' sb ss := by
  obtain ⟨es, h1, h2, h3⟩ := S
  exact ⟨es, by rw [ho]; exact h1, h2, h3⟩
theorem sum_look {h : Heap} {sb : Nat} {ss : Sums} (S : SumAt h sb ss) (w : Wh) : cop (.lookup KW (.int .i64 0) false (.map (some sb)) (whV w)) h = some (.int .i64 (sget w ss), h) := by
  obtain ⟨es, h1, h2, h3⟩ := S
  have hk := keyEq_wh w w
  rw [sameW_self] at hk
  have hf := find_ss w ss es 0 h2 fun i e x he hx => (h3 i e x he hx).1
  cases hq : sidx w ss 0 with
  | none =>
    simp only [cop, h1, hk, Option.bind_some, hf, hq, Option.map_some, (sidx_none hq).1]
    rfl
  | some i =>
    obtain ⟨j, x, rfl, hx, hl, _, _⟩ := sidx_some hq
    have hj : j < ss.length := (List.getElem?_eq_some_iff.1 hx).1
    have he : es[j]? = some (es[j]'(by omega)) := List.getElem?_eq_getElem (by omega)
    simp only [cop, h1, hk, Option.bind_some, hf, hq, Option.map_some, Nat.zero_add, he, (h3 j _ x he hx).2.2, hl]
    rfl
theorem sum_entry {h : Heap} {sb : Nat} {ss : Sums} (S : SumAt h sb ss) (w : Wh) : ∃ (j : Nat) (o : Obj), cop (.mapEntry KW (.int .i64 0) (.map (some sb)) (whV w)) h = some (.tuple #[.int .i64 (sget w ss), .int .i64 j], h.upd sb o) ∧
    SumAt (h.upd sb o) sb (sset w (sget w ss) ss) ∧ (sset w (sget w ss) ss)[j]? = some (w, sget w ss) ∧ ∀ v, (sset w (sget w ss) ss).set j (w, v) = sset w v ss := by
  obtain ⟨es, h1, h2, h3⟩ := S
  have hk := keyEq_wh w w
  rw [sameW_self] at hk
  have hf := find_ss w ss es 0 h2 fun i e x he hx => (h3 i e x he hx).1
  cases hq : sidx w ss 0 with
  | none =>
    obtain ⟨g0, hs⟩ := sidx_none hq
    refine ⟨ss.length, .map (es ++ [⟨whV w, .int .i64 0, ss.length⟩]) (ss.length + 1), ?_, ?_, ?_, fun v => ?_⟩
    · simp only [cop, h1, hk, Option.bind_some, hf, hq, Option.map_some, g0]
      rfl
    · rw [hs, g0]
      refine ⟨_, (obj_upd_same _ _ _).trans (by rw [List.length_append]; rfl), by simp [h2], fun i e x he hx => ?_⟩
      rcases Nat.lt_or_ge i ss.length with hi | hi
      · rw [List.getElem?_append_left (by omega)] at he hx
        exact h3 i e x he hx
      · have hil : i < (ss ++ [(w, (0 : Int))]).length := (List.getElem?_eq_some_iff.1 hx).1
        simp only [List.length_append, List.length_singleton] at hil
        obtain rfl : i = ss.length := by omega
        rw [List.getElem?_append_right (by omega), h2, Nat.sub_self] at he
        rw [List.getElem?_append_right (by omega), Nat.sub_self] at hx
        simp at he hx
        subst hx he
        exact ⟨rfl, rfl, rfl⟩
    · rw [hs, g0, List.getElem?_append_right (by omega), Nat.sub_self]; rfl
    · rw [hs, hs, g0, List.set_append_right _ _ (by omega), Nat.sub_self]; rfl
  | some i =>
    obtain ⟨j, x, rfl, hx, hl, hw, hs⟩ := sidx_some hq
    have hj : j < ss.length := (List.getElem?_eq_some_iff.1 hx).1
    have he : es[j]? = some (es[j]'(by omega)) := List.getElem?_eq_getElem (by omega)
    obtain ⟨q1, q2, q3⟩ := h3 j _ x he hx
    have same : ss.set j (w, sget w ss) = ss := by
      rw [hl]
      apply List.ext_getElem?
      intro i
      rw [List.getElem?_set]
      by_cases c : j = i
      · subst c
        rw [if_pos rfl, if_pos hj, hx]
        rw [← hw]
      · rw [if_neg c]
    refine ⟨j, .map (es.modify j fun y => { y with key := whV w }) ss.length, ?_, ?_, ?_, fun v => ?_⟩
    · simp only [cop, h1, hk, Option.bind_some, hf, hq, Option.map_some, Nat.zero_add, he, Option.getD_some, q2, q3, hl]
      rfl
    · rw [hs, same]
      refine ⟨_, obj_upd_same _ _ _, by rw [List.length_modify]; exact h2, fun i e y he' hy => ?_⟩
      obtain ⟨e0, h0, rfl⟩ := modify_get he'
      obtain ⟨r1, r2, r3⟩ := h3 i e0 y h0 hy
      by_cases c : j = i
      · subst c
        rw [if_pos rfl]
        rw [hx] at hy
        obtain rfl := Option.some.inj hy
        exact ⟨by rw [hw], r2, r3⟩
      · rw [if_neg c]; exact ⟨r1, r2, r3⟩
    · rw [hs, List.getElem?_set_self hj]
    · rw [hs, hs, List.set_set]
theorem sum_store {h : Heap} {sb : Nat} {ss : Sums} (S : SumAt h sb ss) {j : Nat} {w : Wh} {u : Int} (hj : ss[j]? = some (w, u)) (v : Int) : ∃ o : Obj, cop (.entryStore (.map (some sb)) (.int .i64 j) (.int .i64 v)) h = some (.tuple #[], h.upd sb o) ∧ SumAt (h.upd sb o) sb (ss.set j (w, v)) := by
  obtain ⟨es, h1, h2, h3⟩ := S
  have hl : j < ss.length := (List.getElem?_eq_some_iff.1 hj).1
  have fb : es.findIdx? (fun (x : MapEntry) => (x.born : Int) == ((j : Nat) : Int)) = some j := by
    have := find_born es 0 j (fun i e he => by
      have hi : i < es.length := (List.getElem?_eq_some_iff.1 he).1
      have := (h3 i e _ he (List.getElem?_eq_getElem (by omega))).2.1
      omega) (by omega)
    rw [Nat.zero_add] at this
    exact this
  refine ⟨.map (es.modify j fun y => { y with val := .int .i64 v }) ss.length, by simp only [cop, h1, fb], _, (obj_upd_same _ _ _).trans (by rw [List.length_set]), by rw [List.length_modify, List.length_set]; exact h2, fun i e y he hy => ?_⟩
  obtain ⟨e0, h0, rfl⟩ := modify_get he
  by_cases c : j = i
  · subst c
    rw [if_pos rfl]
    rw [List.getElem?_set_self hl] at hy
    obtain rfl := Option.some.inj hy
    obtain ⟨r1, r2, _⟩ := h3 j e0 _ h0 hj
    exact ⟨r1, r2, rfl⟩
  · rw [if_neg c]
    rw [List.getElem?_set_ne c] at hy
    exact h3 i e0 y h0 hy
end Go.Proofs.Ytekojjilbchkgaa.Can
