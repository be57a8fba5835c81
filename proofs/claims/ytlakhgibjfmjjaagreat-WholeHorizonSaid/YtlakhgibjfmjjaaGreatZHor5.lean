/- Part 5 of 6 of the proof of the row RowWholeHorizon: whatever the input, the law returns true. No condition. -/
import Derived.Test.YtlakhgibjfmjjaaGreatZHor4
set_option linter.unusedSimpArgs false
set_option linter.unusedVariables false
set_option linter.defProp false
namespace Go.Proofs.YtlakhgibjfmjjaaGreat.Can
open Go
attribute [local congr] RunR_congr RunC_congr afterR_congr guardR_congr condQ_congr CALL_congr finQ_congr op_congr opg_congr
theorem reps_ptr (n : Nat) : reps n [Value.pointer none] = (List.range n).map fun _ => Value.pointer none := by
 rw [List.map_const', List.length_range]
 induction n with
 | zero => rfl
 | succ n ih => rw [List.replicate_succ]; show [Value.pointer none] ++ reps n [.pointer none] = _; rw [ih]; rfl
def ptrs (N j : Nat) (ps : Nat → Nat) : List Value := (List.range N).map fun i => if i < j then Value.pointer (some ⟨ps i, 0, none⟩) else .pointer none
theorem ptrs_len (N j : Nat) (ps : Nat → Nat) : (ptrs N j ps).length = N := by simp [ptrs]
theorem ptrs_zero (N : Nat) (ps : Nat → Nat) : (List.range N).map (fun _ => Value.pointer none) = ptrs N 0 ps := by simp [ptrs]
theorem ptrs_set (N j : Nat) (ps : Nat → Nat) (hj : j < N) (p : Nat) : (ptrs N j ps).set j (.pointer (some ⟨p, 0, none⟩)) = ptrs N (j + 1) fun i => if i = j then p else ps i := by
 apply List.ext_getElem?
 intro i
 rw [List.getElem?_set]
 unfold ptrs
 by_cases e : j = i
 ·subst e
  rw [if_pos rfl, List.length_map, List.length_range, if_pos hj, List.getElem?_map, List.getElem?_range hj]
  simp
 ·rw [if_neg e, List.getElem?_map, List.getElem?_map]
  by_cases hi : i < N
  ·rw [List.getElem?_range hi]
   simp only [Option.map_some]
   have : (if i = j then p else ps i) = ps i := if_neg (Ne.symm e)
   rw [this]
   by_cases h2 : i < j
   ·rw [if_pos h2, if_pos (by omega)]
   ·rw [if_neg h2, if_neg (by omega)]
  ·rw [List.getElem?_eq_none (by simp; omega)]; rfl
abbrev ruleC (L Wd B S C Rr w T : Int) (sm : Bool) : List Value := [.int .i64 L, .int .i64 Wd, .int .i64 B, .int .i64 S, .int .i64 C, .int .i64 Rr, .int .i64 w, .int .i64 T, .bool sm]
theorem rnew_ok (h : Heap) (rv : Value) (rb : Nat) (rows : List RowT) (V : Vec h 182 RowE rv rows rb) (ok : ∀ r ∈ rows, r.OK) (hr : 1 ≤ rows.length ∧ rows.length ≤ 8)
  (L Wd B C Rr T : Int) (S w : Nat) (sm : Bool) (hS : 1 ≤ S ∧ S ≤ 64) (hw : 1 ≤ w ∧ w ≤ 4096) (hWd : 0 ≤ Wd) (hW : 1 ≤ Wd / (S : Int) ∧ Wd / (S : Int) ≤ 1099511627776) (hL : I64 L) {Q : Value → Heap → Prop}
  (hQ : ∀ h' (r : RP), Old h h' → RingAt h' r 0 (List.replicate (S + 1) 0) (fun _ => List.replicate (rows.length * w) 0) → r.N = S + 1 → r.w = w → r.W = Wd / (S : Int) → r.L = L → r.part = sm → r.rows = rows → h.next ≤ r.x → h.next ≤ r.tb → (∀ i, i < r.N → h.next ≤ r.nbs i) → h.next ≤ r.sb → (∀ i, i < r.N → h.next ≤ r.ps i) → r.rb = rb → Q (.pointer (some ⟨r.x, 0, none⟩)) h') :
  CALL cp 81 [.agg (ruleC L Wd B S C Rr w T sm).toArray, rv] h Q := by
 rw [CALL_enter cp cp81]
 obtain ⟨a, cap, rfl, hc⟩ := V.val
 have hb : rb < h.next := by obtain ⟨_, _, _, hl, _⟩ := V.at (by omega); exact hl
 have a1 : decide ((S : Int) < 1) = false := decide_eq_false (by omega)
 have a2 : decide ((S : Int) > 64) = false := decide_eq_false (by omega)
 have n0 : ((S : Int) = 0) = False := by simp; omega
 have t1 : Int.tdiv Wd (S : Int) = Wd / (S : Int) := tdiv_nn _ _ hWd
 have a3 : decide (Wd / (S : Int) < 1) = false := decide_eq_false (by omega)
 have a4 : ((rows.length : Int) == 0) = false := beq_eq_false_iff_ne.2 (by omega)
 have a5 : decide ((w : Int) < 1) = false := decide_eq_false (by omega)
 have k1 : (S : Int) + 1 = ((S + 1 : Nat) : Int) := by omega
 have t4 : ∀ a b c d, ((((h.new a).new b).new c).new d).obj (h.next + 1 + 1 + 1) = d := fun a b c d => obj_new_same _ _
 simp (disch := first | omega | (simp only [next_new, next_upd, ne_eq]; omega)) only [c81, ↓R81, a1, a2, a3, a4, a5, n0, t1, t4, k1, reps_ptr, reps_int, ptrs_zero _ (fun _ => 0), ↓RnP, RnQ, Nat.reduceEqDiff, Nat.reduceAdd, Nat.reduceMul, Nat.reduceSub, Nat.reduceLT, Nat.reduceLeDiff, Nat.reduceBEq, Int.reduceLT, Int.reduceLE, reduceCtorEq, Int.reduceToNat, Int.reduceAdd, Int.reduceSub, Int.reduceMul]
 obtain ⟨H, hH⟩ : ∃ H, H = ((((h.new (.cells (ruleC L Wd B S C Rr w T sm) 34 .fix)).new (.cells (ptrs (S + 1) 0 fun _ => 0) 202 .grow)).new (.cells (ints .i64 (List.replicate (S + 1) 0)) 2 .grow)).new
  (.cells [.slice (some ⟨h.next + 1, 0, none⟩) (S + 1) (S + 1), .slice (some ⟨h.next + 1 + 1, 0, none⟩) (S + 1) (S + 1), .int .i64 (Wd / (S : Int)), .int .i64 rows.length, .int .i64 L, .bool sm, .int .i64 0] 201 .fix)) := ⟨_, rfl⟩
 have oH : Old h H := by rw [hH]; exact (((((Old.refl h).more _).more _).more _).more _)
 have nH : H.next = h.next + 1 + 1 + 1 + 1 := by rw [hH]; rfl
 have gx : H.obj (h.next + 1 + 1 + 1) = .cells [.slice (some ⟨h.next + 1, 0, none⟩) (S + 1) (S + 1), .slice (some ⟨h.next + 1 + 1, 0, none⟩) (S + 1) (S + 1), .int .i64 (Wd / (S : Int)), .int .i64 rows.length, .int .i64 L, .bool sm, .int .i64 0] 201 .fix := by rw [hH]; exact obj_new_same _ _
 have gt : H.obj (h.next + 1 + 1) = .cells (ints .i64 (List.replicate (S + 1) 0)) 2 .grow := by rw [hH, obj_new_ne _ _ (by simp only [next_new]; omega)]; exact obj_new_same _ _
 have gs : H.obj (h.next + 1) = .cells (ptrs (S + 1) 0 fun _ => 0) 202 .grow := by rw [hH, obj_new_ne _ _ (by simp only [next_new]; omega), obj_new_ne _ _ (by simp only [next_new]; omega)]; exact obj_new_same _ _
 have gr : H.obj h.next = .cells (ruleC L Wd B S C Rr w T sm) 34 .fix := by rw [hH, obj_new_ne _ _ (by simp only [next_new]; omega), obj_new_ne _ _ (by simp only [next_new]; omega), obj_new_ne _ _ (by simp only [next_new]; omega)]; exact obj_new_same _ _
 have VH := V.keep oH.next fun hl => oH.obj rb hl
 rw [← hH]
 clear hH t4
 refine RunC_loop cp c81_l0 _ (fun d e hh => ∃ (j : Nat) (ps nbs : Nat → Nat), j + d = S + 1 ∧ OldX (h.next + 1) H hh ∧ hh.obj (h.next + 1) = .cells (ptrs (S + 1) j ps) 202 .grow ∧
   (∀ i, i < j → SlotAt hh (ps i) (nbs i) (.slice a rows.length cap) rb rows w (List.replicate (rows.length * w) 0) ∧ H.next ≤ ps i ∧ H.next ≤ nbs i) ∧ (∀ i k, i < j → k < j → (i ≠ k → nbs i ≠ nbs k) ∧ ps i ≠ nbs k) ∧
   e 1 = .slice a rows.length cap ∧ e 2 = .pointer (some ⟨h.next, 0, none⟩) ∧ e 5 = .pointer (some ⟨h.next + 1 + 1 + 1, 0, none⟩) ∧ e 58 = .int .i64 ((S + 1 : Nat) : Int) ∧ e 59 = .int .i64 j) ?_ (S + 1) _ _
  ⟨0, fun _ => 0, fun _ => 0, by omega, OldX.refl _ _, gs, fun i hi => by omega, fun i k hi => by omega, rfl, rfl, rfl, rfl, rfl⟩
 rintro d e hh ⟨j, ps, nbs, hj, o, hs, hsl, hap, e1, e2, e5, e58, e59⟩
 have on := o.next
 have gx1 := (o.obj _ (by omega) (by omega)).trans gx
 have gr1 := (o.obj _ (by omega) (by omega)).trans gr
 by_cases c : j < S + 1
 ·have b1 : decide ((j : Int) < ((S + 1 : Nat) : Int)) = true := decide_eq_true (by omega)
  have nx : (j : Int) + 1 = ((j + 1 : Nat) : Int) := by omega
  simp (disch := first | omega | (simp only [next_new, next_upd, ne_eq]; omega)) only [c81_l0, c81, ↓R81, e1, e2, e5, e58, e59, b1, gx1, gr1, ↓RnP, RnQ, Nat.reduceEqDiff, Nat.reduceAdd, Nat.reduceMul, Nat.reduceSub, Nat.reduceLT, Nat.reduceLeDiff, Nat.reduceBEq, Int.reduceLT, Int.reduceLE, reduceCtorEq, Int.reduceToNat, Int.reduceAdd, Int.reduceSub, Int.reduceMul]
  refine new_ok hh _ rb rows w (VH.keep on fun hl => o.obj rb hl (by omega)) ok hr hw fun h2 p nb o2 S2 hp hn => ?_
  have gx2 := (o2.obj _ (by omega)).trans gx1
  have hs2 := (o2.obj (h.next + 1) (by omega)).trans hs
  have hle := o2.next
  have lnb := S2.ln
  have lp := S2.lp
  simp (disch := first | omega | (simp only [next_new, next_upd, ne_eq]; omega)) only [c81, ↓R81, e1, e2, e5, e58, e59, gx2, hs2, nx, setAt_one, ptrs_len, ptrs_set _ _ _ c, ↓RnP, RnQ, Nat.reduceEqDiff, Nat.reduceAdd, Nat.reduceMul, Nat.reduceSub, Nat.reduceLT, Nat.reduceLeDiff, Nat.reduceBEq, Int.reduceLT, Int.reduceLE, reduceCtorEq, Int.reduceToNat, Int.reduceAdd, Int.reduceSub, Int.reduceMul]
  have oX : OldX (h.next + 1) h2 (h2.upd (h.next + 1) (.cells (ptrs (S + 1) (j + 1) fun i => if i = j then p else ps i) 202 .grow)) := ⟨Nat.le_refl _, fun b _ hb => obj_upd_ne _ _ hb⟩
  refine ⟨d - 1, by omega, j + 1, fun i => if i = j then p else ps i, fun i => if i = j then nb else nbs i, by omega, (o.trans (o2.x _)).trans oX, ?_, fun i hi => ?_, fun i k hi hk => ?_, ?_⟩
  ·first | rfl | exact obj_upd_same _ _ _
  ·by_cases e : i = j
   ·subst e
    simp only [if_true]
    exact ⟨S2.oldx oX (by omega) (by omega) (by omega), by omega, by omega⟩
   ·simp only [if_neg e]
    obtain ⟨s1, s2, s3⟩ := hsl i (by omega)
    exact ⟨(s1.old o2).oldx oX (by omega) (by omega) (by omega), s2, s3⟩
  ·by_cases ei : i = j
   ·by_cases ek : k = j
    ·subst ei; subst ek
     simp only [if_true]
     exact ⟨fun h => absurd rfl h, S2.pn⟩
    ·obtain ⟨s1, s2, s3⟩ := hsl k (by omega)
     have := s1.ln
     simp only [if_pos ei, if_neg ek]
     exact ⟨fun _ => by omega, by omega⟩
   ·by_cases ek : k = j
    ·obtain ⟨s1, s2, s3⟩ := hsl i (by omega)
     have := s1.ln
     have := s1.lp
     simp only [if_neg ei, if_pos ek]
     exact ⟨fun _ => by omega, by omega⟩
    ·simp only [if_neg ei, if_neg ek]
     exact hap i k (by omega) (by omega)
  ·repeat' first | assumption | rfl | apply And.intro
 ·have b1 : decide ((j : Int) < ((S + 1 : Nat) : Int)) = false := decide_eq_false (by omega)
  obtain rfl : j = S + 1 := by omega
  simp (disch := first | omega | (simp only [next_new, next_upd, ne_eq]; omega)) only [c81_l0, c81, ↓R81, e1, e2, e5, e58, e59, b1, ↓RnP, RnQ, Nat.reduceEqDiff, Nat.reduceAdd, Nat.reduceMul, Nat.reduceSub, Nat.reduceLT, Nat.reduceLeDiff, Nat.reduceBEq, Int.reduceLT, Int.reduceLE, reduceCtorEq, Int.reduceToNat, Int.reduceAdd, Int.reduceSub, Int.reduceMul]
  have gt1 := (o.obj _ (by omega) (by omega)).trans gt
  refine hQ hh ⟨h.next + 1 + 1 + 1, h.next + 1, h.next + 1 + 1, ps, nbs, .slice a rows.length cap, rb, rows, S + 1, w, Wd / (S : Int), L, sm⟩ ((oH.x _).trans o |>.fresh (Nat.le_succ _)) ?_ rfl rfl rfl rfl rfl rfl (by show h.next ≤ h.next + 1 + 1 + 1; omega) (by show h.next ≤ h.next + 1 + 1; omega) (fun i hi => by have := (hsl i hi).2.2; show h.next ≤ nbs i; omega) (by show h.next ≤ h.next + 1; omega) (fun i hi => by have := (hsl i hi).2.1; show h.next ≤ ps i; omega) rfl
  refine ⟨gx1, by show h.next + 1 + 1 + 1 < hh.next; omega, ?_, by show h.next + 1 < hh.next; omega, gt1, by show h.next + 1 + 1 < hh.next; omega, by simp, fun x hx => by rw [(List.mem_replicate.1 hx).2]; unfold I64; omega, by show 2 ≤ S + 1 ∧ S + 1 ≤ 65; omega, hW, hL, fun i hi => (hsl i hi).1, fun i k hi hk => (hap i k hi hk).1, fun i k hi hk => (hap i k hi hk).2, fun i hi => ?_, fun i hi => ?_, ?_, ?_⟩
  ·show hh.obj (h.next + 1) = _
   rw [hs]
   congr 1
   unfold ptrs
   apply List.map_congr_left
   intro i hi
   rw [if_pos (List.mem_range.1 hi)]
  ·obtain ⟨_, s2, s3⟩ := hsl i hi
   show h.next + 1 + 1 + 1 ≠ nbs i ∧ h.next + 1 ≠ nbs i ∧ h.next + 1 + 1 ≠ nbs i
   omega
  ·obtain ⟨_, s2, s3⟩ := hsl i hi
   show ps i ≠ h.next + 1 + 1 + 1 ∧ ps i ≠ h.next + 1 + 1
   omega
  ·show h.next + 1 + 1 + 1 ≠ h.next + 1 ∧ h.next + 1 + 1 + 1 ≠ h.next + 1 + 1 ∧ h.next + 1 ≠ h.next + 1 + 1
   omega
  ·show rb ≠ h.next + 1 + 1 + 1 ∧ rb ≠ h.next + 1 + 1
   omega
end Go.Proofs.YtlakhgibjfmjjaaGreat.Can
namespace Go.Proofs.YtlakhgibjfmjjaaGreat.Can
open Go
attribute [local congr] RunR_congr RunC_congr afterR_congr guardR_congr condQ_congr CALL_congr finQ_congr op_congr opg_congr
theorem pow_256 (m : Nat) : (256 : Int) ^ m = 2 ^ (8 * m) := by
 induction m with
 | zero => rfl
 | succ m ih => rw [Int.pow_succ, ih, show 8 * (m + 1) = 8 * m + 8 by omega, Int.pow_add]; rfl
theorem fput_ok (h : Heap) (H : Nat) (hH : H ≤ h.next) (v : Value) (l : List Int) (b : Nat) (V : Vec h 5 B8 v l b) (hb : H ≤ b) (hlen : l.length ≤ 10000) (n : Nat) (hn8 : n ≤ 8) (x : Int) {Q : Value → Heap → Prop}
  (hQ : ∀ h' v' b', Vec h' 5 B8 v' (l ++ encN n x) b' → h.next ≤ h'.next → H ≤ b' → (∀ z, z < H → h'.obj z = h.obj z) → Q v' h') :
  CALL cp 44 [v, .int .i64 n, .int .u64 x] h Q := by
 rw [CALL_enter cp cp44]
 simp (disch := omega) only [c44, ↓R44, ↓RnP, RnQ, Nat.reduceEqDiff, Nat.reduceAdd, Nat.reduceMul, Nat.reduceSub, Nat.reduceLT, Nat.reduceLeDiff, Nat.reduceBEq, Int.reduceLT, Int.reduceLE, reduceCtorEq, Int.reduceToNat, Int.reduceAdd, Int.reduceSub, Int.reduceMul]
 refine RunC_loop cp c44_l0 _ (fun d e hh => ∃ (i bb : Nat) (vv : Value), i + d = n ∧ h.next ≤ hh.next ∧ (∀ z, z < H → hh.obj z = h.obj z) ∧ H ≤ bb ∧ Vec hh 5 B8 vv (l ++ (encN n x).take i) bb ∧
   e 0 = vv ∧ e 2 = .int .u64 x ∧ e 7 = .int .i64 ((n : Int) - 1 - (i : Int))) ?_ n _ _
  ⟨0, b, v, by omega, Nat.le_refl _, fun _ _ => rfl, hb, by simpa using V, rfl, rfl, by show Value.int .i64 _ = _; congr 1; omega⟩
 rintro d e hh ⟨i, bb, vv, hi, hn, ho, hbb, V, e0, e2, e7⟩
 by_cases ci : i < n
 ·have b2 : decide ((n : Int) - 1 - (i : Int) ≥ 0) = true := decide_eq_true (by omega)
  obtain ⟨k, hk⟩ : ∃ k : Nat, (8 : Int) * ((n : Int) - 1 - (i : Int)) = k := ⟨(8 * ((n : Int) - 1 - (i : Int))).toNat, by omega⟩
  have nxk : (n : Int) - 1 - (i : Int) - 1 = (n : Int) - 1 - ((i + 1 : Nat) : Int) := by omega
  have sh := fun y : Int => shr_k .u64 y k (by show k ≤ 64; omega)
  obtain ⟨c, hc⟩ : ∃ c, c = x / 2 ^ k % 256 := ⟨_, rfl⟩
  have gi : (encN n x)[i]? = some c := by
   rw [encN_get n _ i ci, hc, pow_256, show 8 * (n - 1 - i) = k by omega]
  have tki : (encN n x).take (i + 1) = (encN n x).take i ++ [c] := by rw [List.take_add_one, gi]; rfl
  have il : ((encN n x).take i).length = i := by rw [List.length_take, encN_len]; omega
  simp (disch := omega) only [c44_l0, c44, ↓R44, e0, e2, e7, b2, hk, sh, wu8, ← hc, reps, List.append_nil, ↓RnP, RnQ, Nat.reduceEqDiff, Nat.reduceAdd, Nat.reduceMul, Nat.reduceSub, Nat.reduceLT, Nat.reduceLeDiff, Nat.reduceBEq, Int.reduceLT, Int.reduceLE, reduceCtorEq, Int.reduceToNat, Int.reduceAdd, Int.reduceSub, Int.reduceMul]
  refine (V.new8 _).app (m := [c]) rfl (src_enc B8 hh c 5 1) (by rw [List.length_singleton, List.length_append, il]; omega) (by rw [List.length_singleton, List.length_append, il]; omega) fun v' h' b' V3 hn' hb' ho' => ?_
  have hn'' : hh.next + 1 ≤ h'.next := hn'
  simp (disch := omega) only [c44, ↓R44, e0, e2, e7, nxk, ↓RnP, RnQ, Nat.reduceEqDiff, Nat.reduceAdd, Nat.reduceMul, Nat.reduceSub, Nat.reduceLT, Nat.reduceLeDiff, Nat.reduceBEq, Int.reduceLT, Int.reduceLE, reduceCtorEq, Int.reduceToNat, Int.reduceAdd, Int.reduceSub, Int.reduceMul]
  refine ⟨d - 1, by omega, i + 1, b', v', by omega, by omega, fun z hz => ?_, ?_, ?_, rfl, rfl⟩
  ·rw [ho' z (by show z < hh.next + 1; omega) (.inr (by omega)), obj_new_ne _ _ (by omega), ho z hz]
  ·rcases hb' with rfl | hb'
   ·exact hbb
   ·have : hh.next + 1 ≤ b' := hb'
    omega
  ·rw [tki, ← List.append_assoc]; exact V3
 ·have b2 : decide ((n : Int) - 1 - (i : Int) ≥ 0) = false := decide_eq_false (by omega)
  obtain rfl : i = n := by omega
  rw [List.take_of_length_le (by rw [encN_len]; exact Nat.le_refl _)] at V
  simp (disch := omega) only [c44_l0, c44, ↓R44, e0, e2, e7, b2, ↓RnP, RnQ, Nat.reduceEqDiff, Nat.reduceAdd, Nat.reduceMul, Nat.reduceSub, Nat.reduceLT, Nat.reduceLeDiff, Nat.reduceBEq, Int.reduceLT, Int.reduceLE, reduceCtorEq, Int.reduceToNat, Int.reduceAdd, Int.reduceSub, Int.reduceMul]
  exact hQ _ _ _ V hn hbb ho
def wholeB (sign : Int) (l : List Int) : List Int := [sign, 1, (l.length : Int) / 256 % 256, (l.length : Int) % 256] ++ l
theorem fwhole_ok (h : Heap) (H : Nat) (hH : H ≤ h.next) (sign : Int) (v : Value) (l : List Int) (b : Nat) (V : Vec h 5 B8 v l b) (hl : l.length ≤ 10000) {Q : Value → Heap → Prop}
  (hQ : ∀ h' v' b', Vec h' 5 B8 v' (wholeB sign l) b' → h.next ≤ h'.next → H ≤ b' → (∀ z, z < H → h'.obj z = h.obj z) → Q v' h') :
  CALL cp 45 [.int .u8 sign, v] h Q := by
 rw [CALL_enter cp cp45]
 obtain ⟨a, cap, rfl, hcap⟩ := V.val
 have sh := fun y : Int => shr_k .i64 y 8 (by decide)
 have s8 : (l.length : Int) / 2 ^ 8 = (l.length : Int) / 256 := rfl
 obtain ⟨h1, h1d⟩ : ∃ h1, h1 = h.new (.cells [.int .u8 sign, .int .u8 1, .int .u8 ((l.length : Int) / 256 % 256), .int .u8 ((l.length : Int) % 256)] 5 .grow) := ⟨_, rfl⟩
 have V1 : Vec h1 5 B8 (.slice (some ⟨h.next, 0, none⟩) 4 4) [sign, 1, (l.length : Int) / 256 % 256, (l.length : Int) % 256] h.next := .inr ⟨4, [], rfl, by rw [h1d]; exact Nat.lt_succ_self _, by rw [h1d, obj_new_same]; rfl, rfl, Nat.le_refl _⟩
 have V2 : Vec h1 5 B8 (.slice a l.length cap) l b := by rw [h1d]; exact V.new8 _
 have n1 : h1.next = h.next + 1 := by rw [h1d]; rfl
 simp (disch := omega) only [c45, ↓R45, sh, s8, wu8, reps, List.cons_append, List.nil_append, ← h1d, ↓RnP, RnQ, Nat.reduceEqDiff, Nat.reduceAdd, Nat.reduceMul, Nat.reduceSub, Nat.reduceLT, Nat.reduceLeDiff, Nat.reduceBEq, Int.reduceLT, Int.reduceLE, reduceCtorEq, Int.reduceToNat, Int.reduceAdd, Int.reduceSub, Int.reduceMul]
 refine V1.app (m := l) (bytes := 1) rfl V2.src0 (by simp only [List.length_cons, List.length_nil]; omega) (by simp only [List.length_cons, List.length_nil]; omega) fun v' h' b' V3 hn' hb' ho' => ?_
 simp (disch := omega) only [c45, ↓R45, ↓RnP, RnQ, Nat.reduceEqDiff, Nat.reduceAdd, Nat.reduceMul, Nat.reduceSub, Nat.reduceLT, Nat.reduceLeDiff, Nat.reduceBEq, Int.reduceLT, Int.reduceLE, reduceCtorEq, Int.reduceToNat, Int.reduceAdd, Int.reduceSub, Int.reduceMul]
 refine hQ _ _ _ V3 (by omega) (by omega) fun z hz => ?_
 rw [ho' z (by omega) (.inr (by omega)), h1d, obj_new_ne _ _ (by omega)]
def reqB (op rule cost : Int) (key : List Int) (k : Int) : List Int :=
 [op % 256, rule % 256] ++ (if op = 1 ∨ op = 2 then encN 4 cost ++ [(key.length : Int) % 256] ++ key else if op = 4 then [k % 256] else [])
def reqV (op rule cost : Int) (key : List Int) (k : Int) : Value := .agg #[.int .i64 op, .int .i64 rule, .int .u32 cost, .string (bs key), .int .i64 k]
theorem encode_ok (h : Heap) (op rule cost : Int) (key : List Int) (k : Int) (hop : op = 1 ∨ op = 2 ∨ op = 3 ∨ op = 4) (hc : 0 ≤ cost ∧ cost < 4294967296) (hk : Byts key) (hl : key.length ≤ 64) {Q : Value → Heap → Prop}
  (hQ : ∀ h' v' b', Vec h' 5 B8 v' (wholeB 167 (reqB op rule cost key k)) b' → Old h h' → h.next ≤ b' → Q v' h') :
  CALL cp 20 [reqV op rule cost key k] h Q := by
 rw [CALL_enter cp cp20]
 unfold reqV
 obtain ⟨h1, h1d⟩ : ∃ h1, h1 = h.new (.cells [.int .i64 op, .int .i64 rule, .int .u32 cost, .string (bs key), .int .i64 k] 61 .fix) := ⟨_, rfl⟩
 have o1 : Old h h1 := by rw [h1d]; exact (Old.refl h).more _
 have n1 : h1.next = h.next + 1 := by rw [h1d]; rfl
 have ga : h1.obj h.next = .cells [.int .i64 op, .int .i64 rule, .int .u32 cost, .string (bs key), .int .i64 k] 61 .fix := by rw [h1d]; exact obj_new_same _ _
 obtain ⟨h2, h2d⟩ : ∃ h2, h2 = h1.new (.cells [.int .u8 (op % 256), .int .u8 (rule % 256)] 5 .grow) := ⟨_, rfl⟩
 have o2 : Old h1 h2 := by rw [h2d]; exact (Old.refl h1).more _
 have n2 : h2.next = h1.next + 1 := by rw [h2d]; rfl
 have ga2 := (o2.obj h.next (by omega)).trans ga
 have V2 : Vec h2 5 B8 (.slice (some ⟨h1.next, 0, none⟩) 2 2) [op % 256, rule % 256] h1.next := .inr ⟨2, [], rfl, by rw [h2d]; exact Nat.lt_succ_self _, by rw [h2d, obj_new_same]; rfl, rfl, Nat.le_refl _⟩
 have hsz := bs_size key
 have fin : ∀ hh vv l b, Vec hh 5 B8 vv l b → l = reqB op rule cost key k → h2.next ≤ hh.next → h1.next ≤ b → (∀ z, z < h1.next → hh.obj z = h2.obj z) → ∀ {R : Value → Heap → Prop}, (∀ v' h', Q v' h' → R v' h') → CALL cp 45 [.int .u8 167, vv] hh R := by
  intro hh vv l b VV hll hn hb ho R hR
  refine fwhole_ok hh h1.next (by omega) 167 vv l b VV ?_ fun h' v' b' V3 hn' hb' ho' => ?_
  ·rw [hll]; unfold reqB
   split
   ·simp only [List.length_append, encN_len, List.length_cons, List.length_nil]; omega
   ·split <;> simp
  ·rw [hll] at V3
   exact hR _ _ <| hQ _ _ _ V3 ⟨by omega, fun z hz => by rw [ho' z (by omega), ho z (by omega), o2.obj z (by omega), o1.obj z hz]⟩ (by omega)
 rcases hop with rfl | rfl | rfl | rfl
 all_goals
  simp (disch := omega) only [c20, ↓R20, ← h1d, ga, wu8, reps, List.cons_append, List.nil_append, Int.reduceMod, Int.reduceEq, Int.reduceBEq, ↓RnP, RnQ, Nat.reduceEqDiff, Nat.reduceAdd, Nat.reduceMul, Nat.reduceSub, Nat.reduceLT, Nat.reduceLeDiff, Nat.reduceBEq, Int.reduceLT, Int.reduceLE, reduceCtorEq, Int.reduceToNat, Int.reduceAdd, Int.reduceSub, Int.reduceMul] at h2d ⊢
  simp (disch := omega) only [c20, ↓R20, ← h2d, ga, ga2, wu8, reps, List.cons_append, List.nil_append, Int.reduceMod, Int.reduceEq, Int.reduceBEq, ↓RnP, RnQ, Nat.reduceEqDiff, Nat.reduceAdd, Nat.reduceMul, Nat.reduceSub, Nat.reduceLT, Nat.reduceLeDiff, Nat.reduceBEq, Int.reduceLT, Int.reduceLE, reduceCtorEq, Int.reduceToNat, Int.reduceAdd, Int.reduceSub, Int.reduceMul]
 iterate 2
  ·refine fput_ok h2 h1.next (by omega) _ _ h1.next V2 (Nat.le_refl _) (by simp) 4 (by decide) cost fun h3 v3 b3 V3 hn3 hb3 ho3 => ?_
   have ga3 := (ho3 h.next (by omega)).trans ga2
   simp (disch := omega) only [c20, ↓R20, ga2, ga3, hsz, wu8, reps, List.append_nil, ↓RnP, RnQ, Nat.reduceEqDiff, Nat.reduceAdd, Nat.reduceMul, Nat.reduceSub, Nat.reduceLT, Nat.reduceLeDiff, Nat.reduceBEq, Int.reduceLT, Int.reduceLE, reduceCtorEq, Int.reduceToNat, Int.reduceAdd, Int.reduceSub, Int.reduceMul]
   refine (V3.new8 _).app (m := [(key.length : Int) % 256]) (bytes := 1) rfl (src_enc B8 h3 _ 5 1) (by simp only [List.length_append, encN_len, List.length_cons, List.length_nil]; omega) (by simp only [List.length_append, encN_len, List.length_cons, List.length_nil]; omega) fun v4 h4 b4 V4 hn4 hb4 ho4 => ?_
   have hn4' : h3.next + 1 ≤ h4.next := hn4
   have ho4' : ∀ z, z < h1.next → h4.obj z = h3.obj z := fun z hz => by rw [ho4 z (by show z < h3.next + 1; omega) (.inr (by omega)), obj_new_ne _ _ (by omega)]
   have hb4' : h1.next ≤ b4 := by
    rcases hb4 with rfl | hb4
    ·exact hb3
    ·have : h3.next + 1 ≤ b4 := hb4
     omega
   have ga4 := (ho4' h.next (by omega)).trans ga3
   simp (disch := omega) only [c20, ↓R20, ga4, ↓RnP, RnQ, Nat.reduceEqDiff, Nat.reduceAdd, Nat.reduceMul, Nat.reduceSub, Nat.reduceLT, Nat.reduceLeDiff, Nat.reduceBEq, Int.reduceLT, Int.reduceLE, reduceCtorEq, Int.reduceToNat, Int.reduceAdd, Int.reduceSub, Int.reduceMul]
   refine V4.app (m := key) (bytes := 1) rfl (src_bs h4 key hk) (by simp only [List.length_append, encN_len, List.length_cons, List.length_nil]; omega) (by simp only [List.length_append, encN_len, List.length_cons, List.length_nil]; omega) fun v5 h5 b5 V5 hn5 hb5 ho5 => ?_
   simp (disch := omega) only [c20, ↓R20, ↓RnP, RnQ, Nat.reduceEqDiff, Nat.reduceAdd, Nat.reduceMul, Nat.reduceSub, Nat.reduceLT, Nat.reduceLeDiff, Nat.reduceBEq, Int.reduceLT, Int.reduceLE, reduceCtorEq, Int.reduceToNat, Int.reduceAdd, Int.reduceSub, Int.reduceMul]
   refine fin h5 v5 _ b5 V5 (by simp [reqB]) (by omega) (by omega) (fun z hz => ?_) fun v' h' q => ?_
   rotate_left
   ·simp (disch := omega) only [c20, ↓R20, ↓RnP, RnQ, Nat.reduceEqDiff, Nat.reduceAdd, Nat.reduceMul, Nat.reduceSub, Nat.reduceLT, Nat.reduceLeDiff, Nat.reduceBEq, Int.reduceLT, Int.reduceLE, reduceCtorEq, Int.reduceToNat, Int.reduceAdd, Int.reduceSub, Int.reduceMul]
    exact q
   rw [ho5 z (by omega) (.inr (by omega)), ho4' z hz, ho3 z hz]
 ·refine fin h2 _ _ _ V2 (by simp [reqB]) (Nat.le_refl _) (Nat.le_refl _) (fun z _ => rfl) fun v' h' q => ?_
  simp (disch := omega) only [c20, ↓R20, ↓RnP, RnQ, Nat.reduceEqDiff, Nat.reduceAdd, Nat.reduceMul, Nat.reduceSub, Nat.reduceLT, Nat.reduceLeDiff, Nat.reduceBEq, Int.reduceLT, Int.reduceLE, reduceCtorEq, Int.reduceToNat, Int.reduceAdd, Int.reduceSub, Int.reduceMul]
  exact q
 ·have e2 := src_enc B8 h2 (k % 256) 5 1
  rw [n2] at e2
  refine (V2.new8 _).app (m := [k % 256]) (bytes := 1) rfl e2 (by simp) (by simp) fun v4 h4 b4 V4 hn4 hb4 ho4 => ?_
  have hn4' : h2.next + 1 ≤ h4.next := hn4
  simp (disch := omega) only [c20, ↓R20, ↓RnP, RnQ, Nat.reduceEqDiff, Nat.reduceAdd, Nat.reduceMul, Nat.reduceSub, Nat.reduceLT, Nat.reduceLeDiff, Nat.reduceBEq, Int.reduceLT, Int.reduceLE, reduceCtorEq, Int.reduceToNat, Int.reduceAdd, Int.reduceSub, Int.reduceMul]
  refine fin h4 v4 _ b4 V4 (by simp [reqB]) (by omega) ?_ (fun z hz => ?_) fun v' h' q => ?_
  rotate_left 2
  ·simp (disch := omega) only [c20, ↓R20, ↓RnP, RnQ, Nat.reduceEqDiff, Nat.reduceAdd, Nat.reduceMul, Nat.reduceSub, Nat.reduceLT, Nat.reduceLeDiff, Nat.reduceBEq, Int.reduceLT, Int.reduceLE, reduceCtorEq, Int.reduceToNat, Int.reduceAdd, Int.reduceSub, Int.reduceMul]
   exact q
  ·rcases hb4 with rfl | hb4
   ·exact Nat.le_refl _
   ·have : h2.next + 1 ≤ b4 := hb4
    omega
  ·rw [ho4 z (by show z < h2.next + 1; omega) (.inr (by omega)), obj_new_ne _ _ (by omega)]
end Go.Proofs.YtlakhgibjfmjjaaGreat.Can
namespace Go.Proofs.YtlakhgibjfmjjaaGreat.Can
open Go
attribute [local congr] RunR_congr RunC_congr afterR_congr guardR_congr condQ_congr CALL_congr finQ_congr op_congr opg_congr
def fitsS (op n : Int) : Bool := if op = 1 ∨ op = 2 then decide (n ≥ 7) else if op = 3 then n == 2 else if op = 4 then n == 3 else false
theorem fits_ok (h : Heap) (op n : Int) (Q : Value → Heap → Prop) : CALL cp 101 [.int .u8 op, .int .u8 n] h Q ↔ Q (.bool (fitsS op n)) h := by
 refine CALL_det ?_ Q
 rw [CALL_enter cp cp101]
 unfold fitsS
 by_cases c1 : op = 1
 ·subst c1
  simp (disch := omega) only [c101, ↓R101, Int.reduceBEq, ↓RnP, RnQ, Nat.reduceEqDiff, Nat.reduceAdd, Nat.reduceMul, Nat.reduceSub, Nat.reduceLT, Nat.reduceLeDiff, Nat.reduceBEq, Int.reduceLT, Int.reduceLE, reduceCtorEq, Int.reduceToNat, Int.reduceAdd, Int.reduceSub, Int.reduceMul]
 by_cases c2 : op = 2
 ·subst c2
  simp (disch := omega) only [c101, ↓R101, Int.reduceBEq, ↓RnP, RnQ, Nat.reduceEqDiff, Nat.reduceAdd, Nat.reduceMul, Nat.reduceSub, Nat.reduceLT, Nat.reduceLeDiff, Nat.reduceBEq, Int.reduceLT, Int.reduceLE, reduceCtorEq, Int.reduceToNat, Int.reduceAdd, Int.reduceSub, Int.reduceMul]
 by_cases c3 : op = 3
 ·subst c3
  simp (disch := omega) only [c101, ↓R101, Int.reduceBEq, ↓RnP, RnQ, Nat.reduceEqDiff, Nat.reduceAdd, Nat.reduceMul, Nat.reduceSub, Nat.reduceLT, Nat.reduceLeDiff, Nat.reduceBEq, Int.reduceLT, Int.reduceLE, reduceCtorEq, Int.reduceToNat, Int.reduceAdd, Int.reduceSub, Int.reduceMul]
 by_cases c4 : op = 4
 ·subst c4
  simp (disch := omega) only [c101, ↓R101, Int.reduceBEq, ↓RnP, RnQ, Nat.reduceEqDiff, Nat.reduceAdd, Nat.reduceMul, Nat.reduceSub, Nat.reduceLT, Nat.reduceLeDiff, Nat.reduceBEq, Int.reduceLT, Int.reduceLE, reduceCtorEq, Int.reduceToNat, Int.reduceAdd, Int.reduceSub, Int.reduceMul]
 have a1 : (op == 1) = false := beq_eq_false_iff_ne.2 c1
 have a2 : (op == 2) = false := beq_eq_false_iff_ne.2 c2
 have a3 : (op == 3) = false := beq_eq_false_iff_ne.2 c3
 have a4 : (op == 4) = false := beq_eq_false_iff_ne.2 c4
 simp (disch := omega) only [c101, ↓R101, a1, a2, a3, a4, ↓RnP, RnQ, Nat.reduceEqDiff, Nat.reduceAdd, Nat.reduceMul, Nat.reduceSub, Nat.reduceLT, Nat.reduceLeDiff, Nat.reduceBEq, Int.reduceLT, Int.reduceLE, reduceCtorEq, Int.reduceToNat, Int.reduceAdd, Int.reduceSub, Int.reduceMul]
def faultS (l3 : Int) (i : Nat) (c rules : Int) : Int :=
 if i = 0 then (if c = 167 then 0 else 5)
 else if i = 1 then (if c = 1 then 0 else 6)
 else if i = 2 then (if c = 0 then 0 else 7)
 else if i = 3 then (if c = 2 ∨ c = 3 ∨ 7 ≤ c ∧ c ≤ 71 then 0 else 7)
 else if i = 4 then (if fitsS c l3 = true then 0 else 8)
 else if i = 5 then (if c < rules then 0 else 9)
 else if i = 10 then (if c = l3 - 7 then 0 else 10)
 else 0
theorem fault_ok (h : Heap) (v : Value) (l : List Int) (s : Bys h v l) (i : Nat) (hi : i < l.length) (hl : l.length ≤ 1000) (byt : Byts l) (c rules : Int) (hc : 0 ≤ c ∧ c < 256) (Q : Value → Heap → Prop) :
  CALL cp 95 [v, .int .i64 i, .int .u8 c, .int .i64 rules] h Q ↔ Q (.int .i64 (faultS (l.getD 3 0) i c rules)) h := by
 refine CALL_det ?_ Q
 rw [CALL_enter cp cp95]
 unfold faultS
 by_cases c0 : i = 0
 ·have z : (i : Int) = 0 := by omega
  rw [if_pos c0]
  by_cases d : c = 167
  ·have d' : (c != 167) = false := by rw [d]; rfl
   rw [if_pos d]
   simp (disch := omega) only [c95, ↓R95, z, d', Int.reduceBEq, ↓RnP, RnQ, Nat.reduceEqDiff, Nat.reduceAdd, Nat.reduceMul, Nat.reduceSub, Nat.reduceLT, Nat.reduceLeDiff, Nat.reduceBEq, Int.reduceLT, Int.reduceLE, reduceCtorEq, Int.reduceToNat, Int.reduceAdd, Int.reduceSub, Int.reduceMul]
  ·have d' : (c != 167) = true := bne_iff_ne.2 d
   rw [if_neg d]
   simp (disch := omega) only [c95, ↓R95, z, d', Int.reduceBEq, ↓RnP, RnQ, Nat.reduceEqDiff, Nat.reduceAdd, Nat.reduceMul, Nat.reduceSub, Nat.reduceLT, Nat.reduceLeDiff, Nat.reduceBEq, Int.reduceLT, Int.reduceLE, reduceCtorEq, Int.reduceToNat, Int.reduceAdd, Int.reduceSub, Int.reduceMul]
 by_cases c1 : i = 1
 ·have z : (i : Int) = 1 := by omega
  rw [if_neg c0, if_pos c1]
  by_cases d : c = 1
  ·have d' : (c != 1) = false := by rw [d]; rfl
   rw [if_pos d]
   simp (disch := omega) only [c95, ↓R95, z, d', Int.reduceBEq, ↓RnP, RnQ, Nat.reduceEqDiff, Nat.reduceAdd, Nat.reduceMul, Nat.reduceSub, Nat.reduceLT, Nat.reduceLeDiff, Nat.reduceBEq, Int.reduceLT, Int.reduceLE, reduceCtorEq, Int.reduceToNat, Int.reduceAdd, Int.reduceSub, Int.reduceMul]
  ·have d' : (c != 1) = true := bne_iff_ne.2 d
   rw [if_neg d]
   simp (disch := omega) only [c95, ↓R95, z, d', Int.reduceBEq, ↓RnP, RnQ, Nat.reduceEqDiff, Nat.reduceAdd, Nat.reduceMul, Nat.reduceSub, Nat.reduceLT, Nat.reduceLeDiff, Nat.reduceBEq, Int.reduceLT, Int.reduceLE, reduceCtorEq, Int.reduceToNat, Int.reduceAdd, Int.reduceSub, Int.reduceMul]
 by_cases c2 : i = 2
 ·have z : (i : Int) = 2 := by omega
  rw [if_neg c0, if_neg c1, if_pos c2]
  by_cases d : c = 0
  ·have d' : (c != 0) = false := by rw [d]; rfl
   rw [if_pos d]
   simp (disch := omega) only [c95, ↓R95, z, d', Int.reduceBEq, ↓RnP, RnQ, Nat.reduceEqDiff, Nat.reduceAdd, Nat.reduceMul, Nat.reduceSub, Nat.reduceLT, Nat.reduceLeDiff, Nat.reduceBEq, Int.reduceLT, Int.reduceLE, reduceCtorEq, Int.reduceToNat, Int.reduceAdd, Int.reduceSub, Int.reduceMul]
  ·have d' : (c != 0) = true := bne_iff_ne.2 d
   rw [if_neg d]
   simp (disch := omega) only [c95, ↓R95, z, d', Int.reduceBEq, ↓RnP, RnQ, Nat.reduceEqDiff, Nat.reduceAdd, Nat.reduceMul, Nat.reduceSub, Nat.reduceLT, Nat.reduceLeDiff, Nat.reduceBEq, Int.reduceLT, Int.reduceLE, reduceCtorEq, Int.reduceToNat, Int.reduceAdd, Int.reduceSub, Int.reduceMul]
 by_cases c3 : i = 3
 ·have z : (i : Int) = 3 := by omega
  rw [if_neg c0, if_neg c1, if_neg c2, if_pos c3]
  by_cases d2 : c = 2
  ·have d' : (c != 2) = false := by rw [d2]; rfl
   rw [if_pos (.inl d2)]
   simp (disch := omega) only [c95, ↓R95, z, d', Int.reduceBEq, ↓RnP, RnQ, Nat.reduceEqDiff, Nat.reduceAdd, Nat.reduceMul, Nat.reduceSub, Nat.reduceLT, Nat.reduceLeDiff, Nat.reduceBEq, Int.reduceLT, Int.reduceLE, reduceCtorEq, Int.reduceToNat, Int.reduceAdd, Int.reduceSub, Int.reduceMul]
  have d2' : (c != 2) = true := bne_iff_ne.2 d2
  by_cases d3 : c = 3
  ·have d' : (c != 3) = false := by rw [d3]; rfl
   rw [if_pos (.inr (.inl d3))]
   simp (disch := omega) only [c95, ↓R95, z, d2', d', Int.reduceBEq, ↓RnP, RnQ, Nat.reduceEqDiff, Nat.reduceAdd, Nat.reduceMul, Nat.reduceSub, Nat.reduceLT, Nat.reduceLeDiff, Nat.reduceBEq, Int.reduceLT, Int.reduceLE, reduceCtorEq, Int.reduceToNat, Int.reduceAdd, Int.reduceSub, Int.reduceMul]
  have d3' : (c != 3) = true := bne_iff_ne.2 d3
  by_cases d7 : c < 7
  ·have d' : decide (c < 7) = true := decide_eq_true d7
   rw [if_neg (show ¬ (c = 2 ∨ c = 3 ∨ 7 ≤ c ∧ c ≤ 71) by omega)]
   simp (disch := omega) only [c95, ↓R95, z, d2', d3', d', Int.reduceBEq, ↓RnP, RnQ, Nat.reduceEqDiff, Nat.reduceAdd, Nat.reduceMul, Nat.reduceSub, Nat.reduceLT, Nat.reduceLeDiff, Nat.reduceBEq, Int.reduceLT, Int.reduceLE, reduceCtorEq, Int.reduceToNat, Int.reduceAdd, Int.reduceSub, Int.reduceMul]
  have d7' : decide (c < 7) = false := decide_eq_false d7
  by_cases d8 : c > 71
  ·have d' : decide (c > 71) = true := decide_eq_true d8
   rw [if_neg (show ¬ (c = 2 ∨ c = 3 ∨ 7 ≤ c ∧ c ≤ 71) by omega)]
   simp (disch := omega) only [c95, ↓R95, z, d2', d3', d7', d', Int.reduceBEq, ↓RnP, RnQ, Nat.reduceEqDiff, Nat.reduceAdd, Nat.reduceMul, Nat.reduceSub, Nat.reduceLT, Nat.reduceLeDiff, Nat.reduceBEq, Int.reduceLT, Int.reduceLE, reduceCtorEq, Int.reduceToNat, Int.reduceAdd, Int.reduceSub, Int.reduceMul]
  ·have d' : decide (c > 71) = false := decide_eq_false d8
   rw [if_pos (show c = 2 ∨ c = 3 ∨ 7 ≤ c ∧ c ≤ 71 by omega)]
   simp (disch := omega) only [c95, ↓R95, z, d2', d3', d7', d', Int.reduceBEq, ↓RnP, RnQ, Nat.reduceEqDiff, Nat.reduceAdd, Nat.reduceMul, Nat.reduceSub, Nat.reduceLT, Nat.reduceLeDiff, Nat.reduceBEq, Int.reduceLT, Int.reduceLE, reduceCtorEq, Int.reduceToNat, Int.reduceAdd, Int.reduceSub, Int.reduceMul]
 by_cases c5 : i = 5
 ·have z : (i : Int) = 5 := by omega
  rw [if_neg c0, if_neg c1, if_neg c2, if_neg c3, if_neg (show ¬ i = 4 by omega), if_pos c5]
  have wc : IntKind.i64.wrap c = c := by rw [wi64]; omega
  by_cases d : c < rules
  ·have d' : decide (c ≥ rules) = false := decide_eq_false (by omega)
   rw [if_pos d]
   simp (disch := omega) only [c95, ↓R95, z, wc, d', Int.reduceBEq, ↓RnP, RnQ, Nat.reduceEqDiff, Nat.reduceAdd, Nat.reduceMul, Nat.reduceSub, Nat.reduceLT, Nat.reduceLeDiff, Nat.reduceBEq, Int.reduceLT, Int.reduceLE, reduceCtorEq, Int.reduceToNat, Int.reduceAdd, Int.reduceSub, Int.reduceMul]
  ·have d' : decide (c ≥ rules) = true := decide_eq_true (by omega)
   rw [if_neg d]
   simp (disch := omega) only [c95, ↓R95, z, wc, d', Int.reduceBEq, ↓RnP, RnQ, Nat.reduceEqDiff, Nat.reduceAdd, Nat.reduceMul, Nat.reduceSub, Nat.reduceLT, Nat.reduceLeDiff, Nat.reduceBEq, Int.reduceLT, Int.reduceLE, reduceCtorEq, Int.reduceToNat, Int.reduceAdd, Int.reduceSub, Int.reduceMul]
 by_cases c4 : i = 4
 ·have z : (i : Int) = 4 := by omega
  rw [if_neg c0, if_neg c1, if_neg c2, if_neg c3, if_pos c4]
  have hx : l[3]? = some l[3] := List.getElem?_eq_getElem (by omega)
  have hd : l.getD 3 0 = l[3] := by rw [List.getD_eq_getElem?_getD, hx]; rfl
  rw [hd]
  obtain ⟨b, o, cap, rfl, _, _, _, hr⟩ := s.at (by omega)
  have hg := Bys.get (cap := cap) hr hx
  generalize l[3]'(by omega) = x at *
  have f := fun h n => fits_ok h c n
  cases d : fitsS c x with
  | true =>
   simp (disch := omega) only [c95, ↓R95, z, f, hg, d, Int.reduceBEq, ↓RnP, RnQ, Nat.reduceEqDiff, Nat.reduceAdd, Nat.reduceMul, Nat.reduceSub, Nat.reduceLT, Nat.reduceLeDiff, Nat.reduceBEq, Int.reduceLT, Int.reduceLE, reduceCtorEq, Int.reduceToNat, Int.reduceAdd, Int.reduceSub, Int.reduceMul]
  | false =>
   simp (disch := omega) only [c95, ↓R95, z, f, hg, d, Int.reduceBEq, ↓RnP, RnQ, Nat.reduceEqDiff, Nat.reduceAdd, Nat.reduceMul, Nat.reduceSub, Nat.reduceLT, Nat.reduceLeDiff, Nat.reduceBEq, Int.reduceLT, Int.reduceLE, reduceCtorEq, Int.reduceToNat, Int.reduceAdd, Int.reduceSub, Int.reduceMul]
 by_cases c10 : i = 10
 ·have z : (i : Int) = 10 := by omega
  rw [if_neg c0, if_neg c1, if_neg c2, if_neg c3, if_neg c4, if_neg c5, if_pos c10]
  have hx : l[3]? = some l[3] := List.getElem?_eq_getElem (by omega)
  have hd : l.getD 3 0 = l[3] := by rw [List.getD_eq_getElem?_getD, hx]; rfl
  rw [hd]
  have hxr := byt _ (List.mem_of_getElem? hx)
  obtain ⟨b, o, cap, rfl, _, _, _, hr⟩ := s.at (by omega)
  have hg := Bys.get (cap := cap) hr hx
  generalize l[3]'(by omega) = x at *
  have wc : IntKind.i64.wrap c = c := by rw [wi64]; omega
  by_cases d : c = x - 7
  ·have d' : (c != x - 7) = false := by rw [d]; exact bne_self_eq_false _
   rw [if_pos d]
   simp (disch := omega) only [c95, ↓R95, z, hg, wc, d', Int.reduceBEq, ↓RnP, RnQ, Nat.reduceEqDiff, Nat.reduceAdd, Nat.reduceMul, Nat.reduceSub, Nat.reduceLT, Nat.reduceLeDiff, Nat.reduceBEq, Int.reduceLT, Int.reduceLE, reduceCtorEq, Int.reduceToNat, Int.reduceAdd, Int.reduceSub, Int.reduceMul]
  ·have d' : (c != x - 7) = true := bne_iff_ne.2 d
   rw [if_neg d]
   simp (disch := omega) only [c95, ↓R95, z, hg, wc, d', Int.reduceBEq, ↓RnP, RnQ, Nat.reduceEqDiff, Nat.reduceAdd, Nat.reduceMul, Nat.reduceSub, Nat.reduceLT, Nat.reduceLeDiff, Nat.reduceBEq, Int.reduceLT, Int.reduceLE, reduceCtorEq, Int.reduceToNat, Int.reduceAdd, Int.reduceSub, Int.reduceMul]
 have z0 : ((i : Int) == 0) = false := beq_eq_false_iff_ne.2 (by omega)
 have z1 : ((i : Int) == 1) = false := beq_eq_false_iff_ne.2 (by omega)
 have z2 : ((i : Int) == 2) = false := beq_eq_false_iff_ne.2 (by omega)
 have z3 : ((i : Int) == 3) = false := beq_eq_false_iff_ne.2 (by omega)
 have z4 : ((i : Int) == 4) = false := beq_eq_false_iff_ne.2 (by omega)
 have z5 : ((i : Int) == 5) = false := beq_eq_false_iff_ne.2 (by omega)
 have z10 : ((i : Int) == 10) = false := beq_eq_false_iff_ne.2 (by omega)
 rw [if_neg c0, if_neg c1, if_neg c2, if_neg c3, if_neg c4, if_neg c5, if_neg c10]
 simp (disch := omega) only [c95, ↓R95, z0, z1, z2, z3, z4, z5, z10, ↓RnP, RnQ, Nat.reduceEqDiff, Nat.reduceAdd, Nat.reduceMul, Nat.reduceSub, Nat.reduceLT, Nat.reduceLeDiff, Nat.reduceBEq, Int.reduceLT, Int.reduceLE, reduceCtorEq, Int.reduceToNat, Int.reduceAdd, Int.reduceSub, Int.reduceMul]
def pfxS (l : List Int) (rules : Int) : Nat → Nat → Int
 | 0, _ => 0
 | d + 1, i => if 4 ≤ i ∧ 4 + l.getD 3 0 ≤ i then 0 else if faultS (l.getD 3 0) i (l.getD i 0) rules = 0 then pfxS l rules d (i + 1) else faultS (l.getD 3 0) i (l.getD i 0) rules
theorem prefix_ok (h : Heap) (v : Value) (l : List Int) (s : Bys h v l) (hl : l.length ≤ 1000) (byt : Byts l) (rules : Int) (Q : Value → Heap → Prop) :
  CALL cp 84 [v, .int .i64 rules] h Q ↔ Q (.int .i64 (pfxS l rules l.length 0)) h := by
 refine CALL_det ?_ Q
 rw [CALL_enter cp cp84]
 obtain ⟨a, cap, e, hcap⟩ := s.val
 subst e
 simp (disch := omega) only [c84, ↓R84, ↓RnP, RnQ, Nat.reduceEqDiff, Nat.reduceAdd, Nat.reduceMul, Nat.reduceSub, Nat.reduceLT, Nat.reduceLeDiff, Nat.reduceBEq, Int.reduceLT, Int.reduceLE, reduceCtorEq, Int.reduceToNat, Int.reduceAdd, Int.reduceSub, Int.reduceMul]
 refine RunC_loop cp c84_l0 _ (fun d e hh => ∃ i : Nat, i + d = l.length ∧ hh = h ∧ pfxS l rules d i = pfxS l rules l.length 0 ∧ e 0 = .slice a l.length cap ∧ e 1 = .int .i64 rules ∧ e 8 = .slice a l.length cap ∧ e 9 = .int .i64 l.length ∧ e 10 = .int .i64 i) ?_ l.length _ _
  ⟨0, by omega, rfl, rfl, rfl, rfl, rfl, rfl, rfl⟩
 rintro d e hh ⟨i, hi, rfl, hp, e0, e1, e8, e9, e10⟩
 by_cases ci : i < l.length
 ·have b1 : decide ((i : Int) < (l.length : Int)) = true := decide_eq_true (by omega)
  have nx : (i : Int) + 1 = ((i + 1 : Nat) : Int) := by omega
  obtain ⟨d, rfl⟩ : ∃ d', d = d' + 1 := ⟨d - 1, by omega⟩
  have hx : l[i]? = some l[i] := List.getElem?_eq_getElem ci
  have hd : l.getD i 0 = l[i] := by rw [List.getD_eq_getElem?_getD, hx]; rfl
  obtain ⟨c, hc⟩ : ∃ c, c = l[i] := ⟨_, rfl⟩
  rw [← hc] at hx hd
  have cr := byt c (List.mem_of_getElem? hx)
  have f := fun Q => fault_ok hh _ l s i ci hl byt c rules cr Q
  simp only [pfxS, hd] at hp
  obtain ⟨b, o, cap', hv, _, _, _, hr⟩ := s.at (by omega)
  simp only [Value.slice.injEq] at hv
  obtain ⟨rfl, _, _⟩ := hv
  have hg := Bys.get (cap := cap) hr hx
  by_cases c4 : i < 4
  ·have b4 : decide ((i : Int) ≥ 4) = false := decide_eq_false (by omega)
   rw [if_neg (show ¬ (4 ≤ i ∧ 4 + l.getD 3 0 ≤ (i : Int)) by omega)] at hp
   by_cases z : faultS (l.getD 3 0) i c rules = 0
   ·rw [if_pos z] at hp
    have z' : (faultS (l.getD 3 0) i c rules != 0) = false := by rw [z]; rfl
    simp (disch := omega) only [c84_l0, c84, ↓R84, e0, e1, e8, e9, e10, b1, b4, hg, f, z', nx, Nat.mul_one, ↓RnP, RnQ, Nat.reduceEqDiff, Nat.reduceAdd, Nat.reduceMul, Nat.reduceSub, Nat.reduceLT, Nat.reduceLeDiff, Nat.reduceBEq, Int.reduceLT, Int.reduceLE, reduceCtorEq, Int.reduceToNat, Int.reduceAdd, Int.reduceSub, Int.reduceMul]
    refine ⟨d, by omega, i + 1, by omega, hp, ?_⟩
    repeat' first | assumption | rfl | apply And.intro
   ·rw [if_neg z] at hp
    have z' : (faultS (l.getD 3 0) i c rules != 0) = true := bne_iff_ne.2 z
    simp (disch := omega) only [c84_l0, c84, ↓R84, e0, e1, e8, e9, e10, b1, b4, hg, f, z', nx, Nat.mul_one, ↓RnP, RnQ, Nat.reduceEqDiff, Nat.reduceAdd, Nat.reduceMul, Nat.reduceSub, Nat.reduceLT, Nat.reduceLeDiff, Nat.reduceBEq, Int.reduceLT, Int.reduceLE, reduceCtorEq, Int.reduceToNat, Int.reduceAdd, Int.reduceSub, Int.reduceMul]
    rw [hp]
  ·have b4 : decide ((i : Int) ≥ 4) = true := decide_eq_true (by omega)
   have hx3 : l[3]? = some l[3] := List.getElem?_eq_getElem (by omega)
   have hd3 : l.getD 3 0 = l[3] := by rw [List.getD_eq_getElem?_getD, hx3]; rfl
   obtain ⟨x, hxd⟩ : ∃ x, x = l[3] := ⟨_, rfl⟩
   rw [← hxd] at hx3 hd3
   rw [hd3] at hp f
   have xr := byt x (List.mem_of_getElem? hx3)
   have hg3 := Bys.get (cap := cap) hr hx3
   have wx : IntKind.i64.wrap x = x := by rw [wi64]; omega
   by_cases c5 : 4 + x ≤ (i : Int)
   ·have b5 : decide ((i : Int) ≥ 4 + x) = true := decide_eq_true c5
    rw [if_pos ⟨by omega, c5⟩] at hp
    simp (disch := omega) only [c84_l0, c84, ↓R84, e0, e1, e8, e9, e10, b1, b4, b5, hg, hg3, wx, nx, Nat.mul_one, ↓RnP, RnQ, Nat.reduceEqDiff, Nat.reduceAdd, Nat.reduceMul, Nat.reduceSub, Nat.reduceLT, Nat.reduceLeDiff, Nat.reduceBEq, Int.reduceLT, Int.reduceLE, reduceCtorEq, Int.reduceToNat, Int.reduceAdd, Int.reduceSub, Int.reduceMul]
    rw [hp]
   have b5 : decide ((i : Int) ≥ 4 + x) = false := decide_eq_false c5
   rw [if_neg (show ¬ (4 ≤ i ∧ 4 + x ≤ (i : Int)) by omega)] at hp
   by_cases z : faultS x i c rules = 0
   ·rw [if_pos z] at hp
    have z' : (faultS x i c rules != 0) = false := by rw [z]; rfl
    simp (disch := omega) only [c84_l0, c84, ↓R84, e0, e1, e8, e9, e10, b1, b4, b5, hg, hg3, wx, f, z', nx, Nat.mul_one, ↓RnP, RnQ, Nat.reduceEqDiff, Nat.reduceAdd, Nat.reduceMul, Nat.reduceSub, Nat.reduceLT, Nat.reduceLeDiff, Nat.reduceBEq, Int.reduceLT, Int.reduceLE, reduceCtorEq, Int.reduceToNat, Int.reduceAdd, Int.reduceSub, Int.reduceMul]
    refine ⟨d, by omega, i + 1, by omega, hp, ?_⟩
    repeat' first | assumption | rfl | apply And.intro
   ·rw [if_neg z] at hp
    have z' : (faultS x i c rules != 0) = true := bne_iff_ne.2 z
    simp (disch := omega) only [c84_l0, c84, ↓R84, e0, e1, e8, e9, e10, b1, b4, b5, hg, hg3, wx, f, z', nx, Nat.mul_one, ↓RnP, RnQ, Nat.reduceEqDiff, Nat.reduceAdd, Nat.reduceMul, Nat.reduceSub, Nat.reduceLT, Nat.reduceLeDiff, Nat.reduceBEq, Int.reduceLT, Int.reduceLE, reduceCtorEq, Int.reduceToNat, Int.reduceAdd, Int.reduceSub, Int.reduceMul]
    rw [hp]
 ·have b1 : decide ((i : Int) < (l.length : Int)) = false := decide_eq_false (by omega)
  obtain rfl : d = 0 := by omega
  simp only [pfxS] at hp
  simp (disch := omega) only [c84_l0, c84, ↓R84, e0, e1, e8, e9, e10, b1, ↓RnP, RnQ, Nat.reduceEqDiff, Nat.reduceAdd, Nat.reduceMul, Nat.reduceSub, Nat.reduceLT, Nat.reduceLeDiff, Nat.reduceBEq, Int.reduceLT, Int.reduceLE, reduceCtorEq, Int.reduceToNat, Int.reduceAdd, Int.reduceSub, Int.reduceMul]
  rw [← hp]
theorem pfxS_0 {l : List Int} {rules : Int} : ∀ (d i : Nat), i + d = l.length → pfxS l rules d i = 0 → ∀ j, i ≤ j → j < l.length → (j < 4 ∨ (j : Int) < 4 + l.getD 3 0) → faultS (l.getD 3 0) j (l.getD j 0) rules = 0
 | 0, i, hd, _, j, h1, h2, _ => by omega
 | d + 1, i, hd, hp, j, h1, h2, h3 => by
  simp only [pfxS] at hp
  split at hp
  ·rename_i c; omega
  split at hp
  ·rename_i z
   by_cases e : j = i
   ·subst e; exact z
   ·exact pfxS_0 d (i + 1) (by omega) hp j (by omega) h2 h3
  ·rename_i z; exact absurd hp z
structure ReqV where
 op : Int
 rule : Int
 cost : Int
 key : List Int
 k : Int
def ReqV.val (q : ReqV) : Value := reqV q.op q.rule q.cost q.key q.k
def req0 : ReqV := ⟨0, 0, 0, [], 0⟩
def reqOf (l : List Int) : ReqV :=
 if l.getD 4 0 = 1 ∨ l.getD 4 0 = 2 then ⟨l.getD 4 0, l.getD 5 0, decN ((l.drop 6).take 4), (l.drop 11).take ((4 + l.getD 3 0).toNat - 11), 0⟩
 else if l.getD 4 0 = 4 then ⟨4, l.getD 5 0, 0, [], l.getD 6 0⟩ else ⟨l.getD 4 0, l.getD 5 0, 0, [], 0⟩
def parseS (l : List Int) (rules : Int) : Option ReqV × Int :=
 if pfxS l rules l.length 0 ≠ 0 then (none, pfxS l rules l.length 0)
 else if l.length < 4 ∨ (l.length : Int) < 4 + l.getD 3 0 then (none, 0)
 else (some (reqOf l), 0)
theorem getD_some {l : List Int} {i : Nat} (h : i < l.length) : l[i]? = some (l.getD i 0) := by
 rw [List.getD_eq_getElem?_getD, List.getElem?_eq_getElem h]; rfl
def l3OK (x : Int) : Prop := x = 2 ∨ x = 3 ∨ 7 ≤ x ∧ x ≤ 71
theorem pfx_l3 {l : List Int} {rules : Int} (h : pfxS l rules l.length 0 = 0) (hl : 4 ≤ l.length) : l3OK (l.getD 3 0) := by
 have := pfxS_0 l.length 0 (by omega) h 3 (by omega) (by omega) (.inl (by omega))
 unfold faultS at this
 rw [if_neg (by omega), if_neg (by omega), if_neg (by omega), if_pos rfl] at this
 split at this
 ·assumption
 ·omega
theorem pfx_fits {l : List Int} {rules : Int} (h : pfxS l rules l.length 0 = 0) (hl : 4 < l.length) : fitsS (l.getD 4 0) (l.getD 3 0) = true := by
 have h3 := pfx_l3 h (by omega)
 unfold l3OK at h3
 have := pfxS_0 l.length 0 (by omega) h 4 (by omega) (by omega) (.inr (by omega))
 unfold faultS at this
 rw [if_neg (by omega), if_neg (by omega), if_neg (by omega), if_neg (by omega), if_pos rfl] at this
 split at this
 ·assumption
 ·omega
theorem fits_cases {op n : Int} (h : fitsS op n = true) : (op = 1 ∨ op = 2) ∧ 7 ≤ n ∨ op = 3 ∧ n = 2 ∨ op = 4 ∧ n = 3 := by
 unfold fitsS at h
 split at h
 ·rename_i c; exact .inl ⟨c, of_decide_eq_true h⟩
 split at h
 ·rename_i c; exact .inr (.inl ⟨c, by simpa using h⟩)
 split at h
 ·rename_i c; exact .inr (.inr ⟨c, by simpa using h⟩)
 ·exact absurd h (by simp)
set_option maxHeartbeats 2000000 in
theorem parse_ok (h : Heap) (v : Value) (l : List Int) (s : Bys h v l) (hl : l.length ≤ 1000) (byt : Byts l) (rules : Int) {Q : Value → Heap → Prop}
  (hQ : ∀ h' n, Old h h' → (0 < n ↔ (parseS l rules).1.isSome = true) → 0 ≤ n → Q (.tuple #[((parseS l rules).1.getD req0).val, .int .i64 n, .int .i64 (parseS l rules).2]) h') :
  CALL cp 71 [v, .int .i64 rules] h Q := by
 rw [CALL_enter cp cp71]
 obtain ⟨a, cap, ev, hcap⟩ := s.val
 obtain ⟨h1, h1d⟩ : ∃ h1, h1 = h.new (.cells [.int .i64 0, .int .i64 0, .int .u32 0, .string ⟨#[]⟩, .int .i64 0] 61 .fix) := ⟨_, rfl⟩
 have o1 : Old h h1 := by rw [h1d]; exact (Old.refl h).more _
 have s1 := s.old o1
 have g1 : h1.obj h.next = .cells [.int .i64 0, .int .i64 0, .int .u32 0, .string ⟨#[]⟩, .int .i64 0] 61 .fix := by rw [h1d]; exact obj_new_same _ _
 have n1 : h1.next = h.next + 1 := by rw [h1d]; rfl
 have f := fun Q => prefix_ok h1 v l s1 hl byt rules Q
 unfold parseS at hQ
 by_cases p : pfxS l rules l.length 0 ≠ 0
 ·rw [if_pos p] at hQ
  have p' : (pfxS l rules l.length 0 != 0) = true := bne_iff_ne.2 p
  simp (disch := omega) only [c71, ↓R71, ← h1d, f, p', g1, fillIn, ↓RnP, RnQ, Nat.reduceEqDiff, Nat.reduceAdd, Nat.reduceMul, Nat.reduceSub, Nat.reduceLT, Nat.reduceLeDiff, Nat.reduceBEq, Int.reduceLT, Int.reduceLE, reduceCtorEq, Int.reduceToNat, Int.reduceAdd, Int.reduceSub, Int.reduceMul]
  exact hQ _ 0 ⟨by rw [next_upd]; omega, fun z hz => by rw [obj_upd_ne _ _ (by omega), o1.obj z hz]⟩ (by simp) (by omega)
 rw [if_neg p] at hQ
 have p0 : pfxS l rules l.length 0 = 0 := by omega
 have p' : (pfxS l rules l.length 0 != 0) = false := by rw [p0]; rfl
 by_cases c1 : l.length < 4
 ·rw [if_pos (.inl c1)] at hQ
  have b1 : decide ((l.length : Int) < 4) = true := decide_eq_true (by omega)
  subst ev
  simp (disch := omega) only [c71, ↓R71, ← h1d, f, p', b1, g1, fillIn, ↓RnP, RnQ, Nat.reduceEqDiff, Nat.reduceAdd, Nat.reduceMul, Nat.reduceSub, Nat.reduceLT, Nat.reduceLeDiff, Nat.reduceBEq, Int.reduceLT, Int.reduceLE, reduceCtorEq, Int.reduceToNat, Int.reduceAdd, Int.reduceSub, Int.reduceMul]
  exact hQ _ 0 ⟨by rw [next_upd]; omega, fun z hz => by rw [obj_upd_ne _ _ (by omega), o1.obj z hz]⟩ (by simp) (by omega)
 have b1 : decide ((l.length : Int) < 4) = false := decide_eq_false (by omega)
 obtain ⟨b, o, cap', hv, hc', hb, he, hr⟩ := s.at (by omega)
 subst hv
 rw [← o1.obj b hb] at he hr
 have i3 := getD_some (l := l) (i := 3) (by omega)
 have l3 := pfx_l3 p0 (by omega)
 obtain ⟨x, hx⟩ : ∃ x : Nat, l.getD 3 0 = x := ⟨(l.getD 3 0).toNat, by unfold l3OK at l3; omega⟩
 rw [hx] at hQ l3 i3
 unfold l3OK at l3
 have wx : IntKind.i64.wrap (x : Int) = x := by rw [wi64]; omega
 have hg3 := Bys.get (cap := cap') hr i3
 have hbn : b ≠ h.next := by omega
 by_cases c2 : (l.length : Int) < 4 + (x : Int)
 ·rw [if_pos (.inr c2)] at hQ
  have b2 : decide ((l.length : Int) < 4 + (x : Int)) = true := decide_eq_true (by omega)
  simp (disch := omega) only [c71, ↓R71, ← h1d, f, p', b1, b2, hg3, wx, g1, fillIn, Nat.mul_one, ↓RnP, RnQ, Nat.reduceEqDiff, Nat.reduceAdd, Nat.reduceMul, Nat.reduceSub, Nat.reduceLT, Nat.reduceLeDiff, Nat.reduceBEq, Int.reduceLT, Int.reduceLE, reduceCtorEq, Int.reduceToNat, Int.reduceAdd, Int.reduceSub, Int.reduceMul]
  exact hQ _ 0 ⟨by rw [next_upd]; omega, fun z hz => by rw [obj_upd_ne _ _ (by omega), o1.obj z hz]⟩ (by simp) (by omega)
 rw [if_neg (by omega)] at hQ
 have b2 : decide ((l.length : Int) < 4 + (x : Int)) = false := decide_eq_false (by omega)
 have i4 := getD_some (l := l) (i := 4) (by omega)
 have i5 := getD_some (l := l) (i := 5) (by omega)
 have ft := fits_cases (pfx_fits p0 (by omega))
 rw [hx] at ft
 unfold reqOf at hQ
 rw [hx] at hQ
 obtain ⟨op, hop⟩ : ∃ op, op = l.getD 4 0 := ⟨_, rfl⟩
 obtain ⟨ru, hru⟩ : ∃ ru, ru = l.getD 5 0 := ⟨_, rfl⟩
 rw [← hop] at i4 ft hQ
 rw [← hru] at i5 hQ
 have hg4 := Bys.get (cap := cap') hr i4
 have hg5 := Bys.get (cap := cap') hr i5
 have r4 := byt _ (List.mem_of_getElem? i4)
 have r5 := byt _ (List.mem_of_getElem? i5)
 have w4 : IntKind.i64.wrap op = op := by rw [wi64]; omega
 have w5 : IntKind.i64.wrap ru = ru := by rw [wi64]; omega
 have fin : ∀ (H : Heap), H.next = h1.next + 1 → (∀ z, z < h1.next → H.obj z = h1.obj z) → ∀ c t, Old h ((H.upd h.next c).upd t c) → True := fun _ _ _ _ _ _ => trivial
 rcases ft with ⟨c3, c4⟩ | ⟨rfl, c4⟩ | ⟨rfl, c4⟩
 ·rw [if_pos c3] at hQ
  have q : (op == 1) = true ∨ (op == 1) = false ∧ (op == 2) = true := by
   clear hop
   rcases c3 with rfl | rfl <;> decide
  obtain ⟨H2, H2d⟩ : ∃ H2, H2 = (h1.new (.cells [.int .i64 0, .int .i64 0, .int .u32 0, .string ⟨#[]⟩, .int .i64 0] 61 .fix)).upd h1.next (.cells [.int .i64 op, .int .i64 ru, .int .u32 0, .string ⟨#[]⟩, .int .i64 0] 61 .fix) := ⟨_, rfl⟩
  obtain ⟨H3, H3d⟩ : ∃ H3, H3 = H2.upd h1.next (.cells [.int .i64 op, .int .i64 ru, .int .u32 (decN ((l.drop 6).take 4)), .string ⟨#[]⟩, .int .i64 0] 61 .fix) := ⟨_, rfl⟩
  have n2 : H2.next = h1.next + 1 := by rw [H2d]; rfl
  have n3 : H3.next = h1.next + 1 := by rw [H3d]; exact n2
  have o2 : Old h1 H2 := by rw [H2d]; exact ⟨Nat.le_succ _, fun z hz => by rw [obj_upd_ne _ _ (by omega), obj_new_ne _ _ (by omega)]⟩
  have o3 : Old h1 H3 := by rw [H3d]; exact ⟨by rw [next_upd]; exact o2.next, fun z hz => by rw [obj_upd_ne _ _ (by omega)]; exact o2.obj z hz⟩
  have g2 : H2.obj h1.next = .cells [.int .i64 op, .int .i64 ru, .int .u32 0, .string ⟨#[]⟩, .int .i64 0] 61 .fix := by rw [H2d]; exact obj_upd_same _ _ _
  have g3 : H3.obj h1.next = .cells [.int .i64 op, .int .i64 ru, .int .u32 (decN ((l.drop 6).take 4)), .string ⟨#[]⟩, .int .i64 0] 61 .fix := by rw [H3d]; exact obj_upd_same _ _ _
  have g3' : H3.obj h.next = .cells [.int .i64 0, .int .i64 0, .int .u32 0, .string ⟨#[]⟩, .int .i64 0] 61 .fix := by rw [o3.obj _ (by omega)]; exact g1
  have he2 : (H2.obj b).elemOk 5 = true := by rw [o2.obj b (by omega)]; exact he
  have he3 : (H3.obj b).elemOk 5 = true := by rw [o3.obj b (by omega)]; exact he
  have S6 : Bys H2 (.slice (some ⟨b, o + 6, none⟩) 4 (cap' - 6)) ((l.drop 6).take 4) := (Bys.sub (by omega) he hr hc' 6 10 (by decide) (by omega)).old o2
  have S11 := Bys.sub (h := h1) (by omega) he hr hc' 11 (4 + x) (by omega) (by omega)
  have ts2 := toStr_bys (S11.old o2)
  have ts3 := toStr_bys (S11.old o3)
  obtain ⟨ky, hky⟩ : ∃ ky, ky = (l.drop 11).take (4 + x - 11) := ⟨_, rfl⟩
  rw [← hky] at ts2 ts3
  have hk2 : Holds none (Option.getD (some H2) H2) (.toStr (.slice (some ⟨b, o + 11, none⟩) (4 + x - 11) (cap' - 11))) (.string (bs ky)) = True := eq_true ts2
  have hk3 : Holds none (Option.getD none H3) (.toStr (.slice (some ⟨b, o + 11, none⟩) (4 + x - 11) (cap' - 11))) (.string (bs ky)) = True := eq_true ts3
  have k4 : (4 : Int) + (x : Int) = ((4 + x : Nat) : Int) := by omega
  have k4' : ((4 : Int) + (x : Int)).toNat = 4 + x := by omega
  rw [k4', ← hky] at hQ
  have dl : ((l.drop 6).take 4).length = 4 := by rw [List.length_take, List.length_drop]; omega
  have db : Byts ((l.drop 6).take 4) := fun y hy => byt y (List.mem_of_mem_drop (List.mem_of_mem_take hy))
  have dr := decN_range 4 _ dl db
  have p4 : (256 : Int) ^ 4 = 4294967296 := by decide
  rw [p4] at dr
  obtain ⟨co, hco⟩ : ∃ co, co = decN ((l.drop 6).take 4) := ⟨_, rfl⟩
  have wc : IntKind.u32.wrap co = co := by rw [wu32]; omega
  rw [← hco] at dr g3 H3d hQ
  rcases q with q1 | ⟨q1, q2⟩
  ·simp (disch := omega) only [c71, ↓R71, ← h1d, f, p', b1, b2, hg3, hg4, hg5, wx, w4, w5, he, q1, g2, he2, fillIn, Nat.mul_one, Int.reduceBEq, ← H2d, ↓RnP, RnQ, Nat.reduceEqDiff, Nat.reduceAdd, Nat.reduceMul, Nat.reduceSub, Nat.reduceLT, Nat.reduceLeDiff, Nat.reduceBEq, Int.reduceLT, Int.reduceLE, reduceCtorEq, Int.reduceToNat, Int.reduceAdd, Int.reduceSub, Int.reduceMul]
   refine num_ok H2 _ _ S6 (by omega) db ?_
   simp (disch := omega) only [c71, ↓R71, ← hco, wc, k4, he2, he3, ↓ts2, ↓hk2, ↓hk3, g2, ← H3d, g3, g3', fillIn, Nat.mul_one, ↓RnP, RnQ, Nat.reduceEqDiff, Nat.reduceAdd, Nat.reduceMul, Nat.reduceSub, Nat.reduceLT, Nat.reduceLeDiff, Nat.reduceBEq, Int.reduceLT, Int.reduceLE, reduceCtorEq, Int.reduceToNat, Int.reduceAdd, Int.reduceSub, Int.reduceMul]
   exact hQ _ ((4 + x : Nat) : Int) ⟨by simp only [next_upd]; omega, fun z hz => by rw [obj_upd_ne _ _ (by omega), obj_upd_ne _ _ (by omega), o3.obj z (by omega), o1.obj z hz]⟩ (by simp; omega) (by omega)
  ·simp (disch := omega) only [c71, ↓R71, ← h1d, f, p', b1, b2, hg3, hg4, hg5, wx, w4, w5, he, q1, q2, g2, he2, fillIn, Nat.mul_one, Int.reduceBEq, ← H2d, ↓RnP, RnQ, Nat.reduceEqDiff, Nat.reduceAdd, Nat.reduceMul, Nat.reduceSub, Nat.reduceLT, Nat.reduceLeDiff, Nat.reduceBEq, Int.reduceLT, Int.reduceLE, reduceCtorEq, Int.reduceToNat, Int.reduceAdd, Int.reduceSub, Int.reduceMul]
   refine num_ok H2 _ _ S6 (by omega) db ?_
   simp (disch := omega) only [c71, ↓R71, ← hco, wc, k4, he2, he3, ↓ts2, ↓hk2, ↓hk3, g2, ← H3d, g3, g3', fillIn, Nat.mul_one, ↓RnP, RnQ, Nat.reduceEqDiff, Nat.reduceAdd, Nat.reduceMul, Nat.reduceSub, Nat.reduceLT, Nat.reduceLeDiff, Nat.reduceBEq, Int.reduceLT, Int.reduceLE, reduceCtorEq, Int.reduceToNat, Int.reduceAdd, Int.reduceSub, Int.reduceMul]
   exact hQ _ ((4 + x : Nat) : Int) ⟨by simp only [next_upd]; omega, fun z hz => by rw [obj_upd_ne _ _ (by omega), obj_upd_ne _ _ (by omega), o3.obj z (by omega), o1.obj z hz]⟩ (by simp; omega) (by omega)
 ·rw [if_neg (by decide), if_neg (by decide)] at hQ
  simp (disch := omega) only [c71, ↓R71, ← h1d, f, p', b1, b2, hg3, hg4, hg5, wx, w4, w5, g1, fillIn, Nat.mul_one, Int.reduceBEq, ↓RnP, RnQ, Nat.reduceEqDiff, Nat.reduceAdd, Nat.reduceMul, Nat.reduceSub, Nat.reduceLT, Nat.reduceLeDiff, Nat.reduceBEq, Int.reduceLT, Int.reduceLE, reduceCtorEq, Int.reduceToNat, Int.reduceAdd, Int.reduceSub, Int.reduceMul]
  exact hQ _ (4 + (x : Int)) ⟨by simp only [next_upd, next_new]; omega, fun z hz => by rw [obj_upd_ne _ _ (by omega), obj_upd_ne _ _ (by omega), obj_new_ne _ _ (by omega), o1.obj z hz]⟩ (by simp; omega) (by omega)
 ·have i6 := getD_some (l := l) (i := 6) (by omega)
  have hg6 := Bys.get (cap := cap') hr i6
  have r6 := byt _ (List.mem_of_getElem? i6)
  have w6 : IntKind.i64.wrap (l.getD 6 0) = l.getD 6 0 := by rw [wi64]; omega
  rw [if_neg (by decide), if_pos rfl] at hQ
  simp (disch := omega) only [c71, ↓R71, ← h1d, f, p', b1, b2, hg3, hg4, hg5, hg6, wx, w4, w5, w6, g1, fillIn, Nat.mul_one, Int.reduceBEq, ↓RnP, RnQ, Nat.reduceEqDiff, Nat.reduceAdd, Nat.reduceMul, Nat.reduceSub, Nat.reduceLT, Nat.reduceLeDiff, Nat.reduceBEq, Int.reduceLT, Int.reduceLE, reduceCtorEq, Int.reduceToNat, Int.reduceAdd, Int.reduceSub, Int.reduceMul]
  exact hQ _ (4 + (x : Int)) ⟨by simp only [next_upd, next_new]; omega, fun z hz => by rw [obj_upd_ne _ _ (by omega), obj_upd_ne _ _ (by omega), obj_upd_ne _ _ (by omega), obj_new_ne _ _ (by omega), o1.obj z hz]⟩ (by simp; omega) (by omega)
end Go.Proofs.YtlakhgibjfmjjaaGreat.Can
namespace Go.Proofs.YtlakhgibjfmjjaaGreat.Can
open Go
attribute [local congr] RunR_congr RunC_congr afterR_congr guardR_congr condQ_congr CALL_congr finQ_congr op_congr opg_congr
structure OldF (F : Nat → Prop) (h h' : Heap) : Prop where
 next : h.next ≤ h'.next
 obj : ∀ b, b < h.next → ¬ F b → h'.obj b = h.obj b
theorem OldF.refl (F : Nat → Prop) (h : Heap) : OldF F h h := ⟨Nat.le_refl _, fun _ _ _ => rfl⟩
theorem OldF.trans {F : Nat → Prop} {a b c : Heap} (h : OldF F a b) (k : OldF F b c) : OldF F a c := ⟨Nat.le_trans h.next k.next, fun x hx hn => by rw [k.obj x (Nat.lt_of_lt_of_le hx h.next) hn, h.obj x hx hn]⟩
theorem Old.f {a b : Heap} (o : Old a b) (F : Nat → Prop) : OldF F a b := ⟨o.next, fun x hx _ => o.obj x hx⟩
theorem OldF.mono {F G : Nat → Prop} {a b : Heap} (o : OldF F a b) (h : ∀ x, F x → G x) : OldF G a b := ⟨o.next, fun x hx hn => o.obj x hx fun q => hn (h x q)⟩
theorem OldF.monoN {F G : Nat → Prop} {a b : Heap} (o : OldF F a b) (h : ∀ x, x < a.next → F x → G x) : OldF G a b := ⟨o.next, fun x hx hn => o.obj x hx fun q => hn (h x hx q)⟩
theorem OldF.old {F : Nat → Prop} {a b : Heap} (o : OldF F a b) (h : ∀ x, F x → a.next ≤ x) : Old a b := ⟨o.next, fun x hx => o.obj x hx fun q => by have := h x q; omega⟩
theorem OldX.upd (X : Nat) (h : Heap) (o : Obj) : OldX X h (h.upd X o) := ⟨Nat.le_refl _, fun b _ hb => obj_upd_ne _ _ hb⟩
theorem OldX.f {X : Nat} {a b : Heap} (o : OldX X a b) {F : Nat → Prop} (hX : F X) : OldF F a b := ⟨o.next, fun x hx hn => o.obj x hx fun e => hn (e ▸ hX)⟩
theorem OldF.upd {F : Nat → Prop} (h : Heap) (X : Nat) (o : Obj) (hX : F X) : OldF F h (h.upd X o) := ⟨Nat.le_refl _, fun b _ hb => obj_upd_ne _ _ (fun e => hb (e ▸ hX))⟩
abbrev bufC (nb S a n : Nat) : List Value := [.slice (some ⟨nb, 0, none⟩) S S, .int .i64 a, .int .i64 n]
structure BufAt (h : Heap) (p nb S a : Nat) (B qs : List Int) : Prop where
 op : h.obj p = .cells (bufC nb S a qs.length) 188 .fix
 lp : p < h.next
 on : h.obj nb = .cells (ints .u8 B) 5 .grow
 ln : nb < h.next
 pn : p ≠ nb
 len : B.length = S
 hS : 1 ≤ S ∧ S ≤ 65536
 ha : a < S
 hn : qs.length ≤ S
 byt : Byts B
 at_ : ∀ i, i < qs.length → B[(a + i) % S]? = qs[i]?
section
variable {h h' : Heap} {p nb S a : Nat} {B qs : List Int}
theorem BufAt.keep (b : BufAt h p nb S a B qs) (hn : h.next ≤ h'.next) (h1 : h'.obj p = h.obj p) (h2 : h'.obj nb = h.obj nb) : BufAt h' p nb S a B qs :=
 { b with op := h1.trans b.op, lp := Nat.lt_of_lt_of_le b.lp hn, on := h2.trans b.on, ln := Nat.lt_of_lt_of_le b.ln hn }
theorem BufAt.oldF {F : Nat → Prop} (b : BufAt h p nb S a B qs) (o : OldF F h h') (h1 : ¬ F p) (h2 : ¬ F nb) : BufAt h' p nb S a B qs :=
 b.keep o.next (o.obj p b.lp h1) (o.obj nb b.ln h2)
theorem BufAt.qbyt (b : BufAt h p nb S a B qs) : Byts qs := fun x hx => by
 obtain ⟨i, hi, rfl⟩ := List.mem_iff_getElem.1 hx
 have := b.at_ i hi
 rw [List.getElem?_eq_getElem hi] at this
 exact b.byt _ (List.mem_of_getElem? this)
theorem room_ok (b : BufAt h p nb S a B qs) (Q : Value → Heap → Prop) : CALL cp 63 [.pointer (some ⟨p, 0, none⟩)] h Q ↔ Q (.int .i64 ((S - qs.length : Nat) : Int)) h := by
 refine CALL_det ?_ Q
 rw [CALL_enter cp cp63]
 have op := b.op
 have hn := b.hn
 have hS := b.hS
 have k : (S : Int) - (qs.length : Int) = ((S - qs.length : Nat) : Int) := by omega
 simp (disch := omega) only [c63, ↓R63, op, eqS, k, ↓RnP, RnQ, Nat.reduceEqDiff, Nat.reduceAdd, Nat.reduceMul, Nat.reduceSub, Nat.reduceLT, Nat.reduceLeDiff, Nat.reduceBEq, Int.reduceLT, Int.reduceLE, reduceCtorEq, Int.reduceToNat, Int.reduceAdd, Int.reduceSub, Int.reduceMul]
theorem blen_ok (b : BufAt h p nb S a B qs) (Q : Value → Heap → Prop) : CALL cp 83 [.pointer (some ⟨p, 0, none⟩)] h Q ↔ Q (.int .i64 (qs.length : Nat)) h := by
 refine CALL_det ?_ Q
 rw [CALL_enter cp cp83]
 have op := b.op
 simp (disch := omega) only [c83, ↓R83, op, eqS, ↓RnP, RnQ, Nat.reduceEqDiff, Nat.reduceAdd, Nat.reduceMul, Nat.reduceSub, Nat.reduceLT, Nat.reduceLeDiff, Nat.reduceBEq, Int.reduceLT, Int.reduceLE, reduceCtorEq, Int.reduceToNat, Int.reduceAdd, Int.reduceSub, Int.reduceMul]
theorem clear_ok2 (b : BufAt h p nb S a B qs) {Q : Value → Heap → Prop} (hQ : ∀ h', OldX p h h' → BufAt h' p nb S 0 B [] → Q (.tuple #[]) h') : CALL cp 61 [.pointer (some ⟨p, 0, none⟩)] h Q := by
 rw [CALL_enter cp cp61]
 have op := b.op
 have hS := b.hS
 simp (disch := omega) only [c61, ↓R61, op, eqS, ↓RnP, RnQ, Nat.reduceEqDiff, Nat.reduceAdd, Nat.reduceMul, Nat.reduceSub, Nat.reduceLT, Nat.reduceLeDiff, Nat.reduceBEq, Int.reduceLT, Int.reduceLE, reduceCtorEq, Int.reduceToNat, Int.reduceAdd, Int.reduceSub, Int.reduceMul]
 refine hQ _ ((OldX.upd _ _ _).trans (OldX.upd _ _ _)) { b with op := ?_, on := ?_, ha := by omega, hn := by simp, at_ := by simp, lp := b.lp, ln := b.ln }
 ·rw [obj_upd_same]; rfl
 ·rw [obj_upd_ne _ _ (Ne.symm b.pn), obj_upd_ne _ _ (Ne.symm b.pn)]; exact b.on
theorem bufNew_ok (S : Nat) (hS : 1 ≤ S ∧ S ≤ 65536) {Q : Value → Heap → Prop} (hQ : ∀ h' p nb, Old h h' → h.next ≤ p → h.next ≤ nb → BufAt h' p nb S 0 (List.replicate S 0) [] → Q (.pointer (some ⟨p, 0, none⟩)) h') : CALL cp 77 [.int .i64 S] h Q := by
 rw [CALL_enter cp cp77]
 have a1 : decide ((S : Int) < 1) = false := decide_eq_false (by omega)
 have a2 : decide ((S : Int) > 65536) = false := decide_eq_false (by omega)
 have z0 : ¬ (S : Int) < 0 := by omega
 simp (disch := omega) only [c77, ↓R77, a1, a2, reps_int, ↓RnP, RnQ, Nat.reduceEqDiff, Nat.reduceAdd, Nat.reduceMul, Nat.reduceSub, Nat.reduceLT, Nat.reduceLeDiff, Nat.reduceBEq, Int.reduceLT, Int.reduceLE, reduceCtorEq, Int.reduceToNat, Int.reduceAdd, Int.reduceSub, Int.reduceMul]
 refine hQ _ (h.next + 1) h.next (((Old.refl h).more _).more _) (Nat.le_succ _) (Nat.le_refl _) ⟨?_, ?_, ?_, ?_, by omega, by simp, hS, by omega, by simp, fun x hx => by rw [(List.mem_replicate.1 hx).2]; omega, by simp⟩
 ·exact obj_new2_same _ _ _
 ·exact Nat.lt_succ_self _
 ·rw [obj_new_ne _ _ (by simp only [next_new]; omega)]; exact obj_new_same _ _
 ·simp only [next_new]; omega
def buf2 (p nb : Nat) : Nat → Prop := fun x => x = p ∨ x = nb
theorem mod_shift {S a n : Nat} (hS : 1 ≤ S) (ha : a < S) {i j : Nat} (hi : i < S) (hj : j < S) (h : (a + i) % S = (a + j) % S) : i = j := by
 have e : ∀ k, k < S → (a + k) % S = if a + k < S then a + k else a + k - S := fun k hk => by
  split
  ·exact Nat.mod_eq_of_lt (by assumption)
  ·rw [Nat.mod_eq_sub_mod (by omega), Nat.mod_eq_of_lt (by omega)]
 rw [e i hi, e j hj] at h
 split at h <;> split at h <;> omega
theorem BufAt.push (b : BufAt h p nb S a B qs) (hl : qs.length < S) {x : Int} (hx : 0 ≤ x ∧ x < 256) :
  BufAt ((h.upd nb (.cells (ints .u8 (B.set ((a + qs.length) % S) x)) 5 .grow)).upd p (.cells (bufC nb S a (qs.length + 1)) 188 .fix)) p nb S a (B.set ((a + qs.length) % S) x) (qs ++ [x]) where
 op := by rw [obj_upd_same, List.length_append, List.length_singleton]
 lp := b.lp
 on := by rw [obj_upd_ne _ _ (Ne.symm b.pn), obj_upd_same]
 ln := b.ln
 pn := b.pn
 len := by rw [List.length_set]; exact b.len
 hS := b.hS
 ha := b.ha
 hn := by rw [List.length_append, List.length_singleton]; exact hl
 byt := fun y hy => by
  rcases List.mem_or_eq_of_mem_set hy with hy | rfl
  ·exact b.byt y hy
  ·exact hx
 at_ := fun i hi => by
  rw [List.length_append, List.length_singleton] at hi
  have hS := b.hS
  have ha := b.ha
  have hm : (a + qs.length) % S < B.length := by rw [b.len]; exact Nat.mod_lt _ (by omega)
  by_cases e : i = qs.length
  ·subst e
   rw [List.getElem?_set_self hm, List.getElem?_append_right (Nat.le_refl _), Nat.sub_self]; rfl
  ·rw [List.getElem?_set_ne (fun q => e (mod_shift (n := 0) hS.1 ha (by omega) hl q.symm)), List.getElem?_append_left (by omega)]
   exact b.at_ i (by omega)
theorem bput_ok (b : BufAt h p nb S a B qs) (v : Value) (l : List Int) (s : Bys h v l) (byt : Byts l) (hf : qs.length + l.length ≤ S) (hv : ∀ z o cap, v = .slice (some ⟨z, o, none⟩) l.length cap → ¬ buf2 p nb z) {Q : Value → Heap → Prop}
  (hQ : ∀ h' B', OldF (buf2 p nb) h h' → h'.next = h.next → BufAt h' p nb S a B' (qs ++ l) → Q (.bool true) h') : CALL cp 64 [.pointer (some ⟨p, 0, none⟩), v] h Q := by
 rw [CALL_enter cp cp64]
 obtain ⟨w, cap, rfl, hcap⟩ := s.val
 have hS := b.hS
 have ha := b.ha
 have f := fun Q => room_ok b Q
 have a1 : decide ((l.length : Int) > ((S - qs.length : Nat) : Int)) = false := decide_eq_false (by omega)
 simp (disch := omega) only [c64, ↓R64, f, a1, ↓RnP, RnQ, Nat.reduceEqDiff, Nat.reduceAdd, Nat.reduceMul, Nat.reduceSub, Nat.reduceLT, Nat.reduceLeDiff, Nat.reduceBEq, Int.reduceLT, Int.reduceLE, reduceCtorEq, Int.reduceToNat, Int.reduceAdd, Int.reduceSub, Int.reduceMul]
 refine RunC_loop cp c64_l0 _ (fun d e hh => ∃ (i : Nat) (B' : List Int), i + d = l.length ∧ OldF (buf2 p nb) h hh ∧ hh.next = h.next ∧ BufAt hh p nb S a B' (qs ++ l.take i) ∧
   e 0 = .pointer (some ⟨p, 0, none⟩) ∧ e 12 = .slice w l.length cap ∧ e 13 = .int .i64 l.length ∧ e 14 = .int .i64 i) ?_ l.length _ _
  ⟨0, B, by omega, OldF.refl _ _, rfl, by simpa using b, rfl, rfl, rfl, rfl⟩
 rintro d e hh ⟨i, B', hi, o, hnx, b', e0, e12, e13, e14⟩
 by_cases ci : i < l.length
 ·have b1 : decide ((i : Int) < (l.length : Int)) = true := decide_eq_true (by omega)
  have nx : (i : Int) + 1 = ((i + 1 : Nat) : Int) := by omega
  have hx : l[i]? = some l[i] := List.getElem?_eq_getElem ci
  obtain ⟨c, hc⟩ : ∃ c, c = l[i] := ⟨_, rfl⟩
  rw [← hc] at hx
  have cr := byt c (List.mem_of_getElem? hx)
  obtain ⟨z, of, cap', hv', hcc, hz, _, hr⟩ := s.at (by omega)
  have hnz := hv z of cap' hv'
  simp only [Value.slice.injEq] at hv'
  obtain ⟨rfl, _, rfl⟩ := hv'
  rw [← o.obj z hz hnz] at hr
  have hg := Bys.get (cap := cap) hr hx
  have il : (l.take i).length = i := by rw [List.length_take]; omega
  have ql : (qs ++ l.take i).length = qs.length + i := by rw [List.length_append, il]
  have op := b'.op
  have on := b'.on
  have pn := b'.pn
  have bl := b'.len
  rw [ql] at op
  have n0 : ((S : Int) = 0) = False := by simp; omega
  have k1 : (a : Int) + ((qs.length + i : Nat) : Int) = ((a + (qs.length + i) : Nat) : Int) := by omega
  have t1 : Int.tmod ((a + (qs.length + i) : Nat) : Int) (S : Int) = (((a + (qs.length + i)) % S : Nat) : Int) := by rw [tmod_nn _ _ (by omega)]; rfl
  have t2 : (a + (qs.length + i)) % S < S := Nat.mod_lt _ (by omega)
  have k2 : ((qs.length + i : Nat) : Int) + 1 = ((qs.length + i + 1 : Nat) : Int) := by omega
  have np : b'.pn = b'.pn := rfl
  have push := b'.push (x := c) (by rw [ql]; omega) cr
  rw [ql, List.append_assoc, ← take_get hx] at push
  simp (disch := omega) only [c64_l0, c64, ↓R64, e0, e12, e13, e14, b1, hg, op, on, n0, k1, t1, k2, nx, setAt_one, ints_set, bl, pn, Ne.symm pn, Nat.mul_one, ↓RnP, RnQ, Nat.reduceEqDiff, Nat.reduceAdd, Nat.reduceMul, Nat.reduceSub, Nat.reduceLT, Nat.reduceLeDiff, Nat.reduceBEq, Int.reduceLT, Int.reduceLE, reduceCtorEq, Int.reduceToNat, Int.reduceAdd, Int.reduceSub, Int.reduceMul]
  refine ⟨d - 1, by omega, i + 1, _, by omega, o.trans ((OldF.upd _ _ _ (.inr rfl)).trans (OldF.upd _ _ _ (.inl rfl))), hnx, push, ?_⟩
  repeat' first | assumption | rfl | apply And.intro
 ·have b1 : decide ((i : Int) < (l.length : Int)) = false := decide_eq_false (by omega)
  obtain rfl : i = l.length := by omega
  rw [List.take_length] at b'
  simp (disch := omega) only [c64_l0, c64, ↓R64, e0, e12, e13, e14, b1, ↓RnP, RnQ, Nat.reduceEqDiff, Nat.reduceAdd, Nat.reduceMul, Nat.reduceSub, Nat.reduceLT, Nat.reduceLeDiff, Nat.reduceBEq, Int.reduceLT, Int.reduceLE, reduceCtorEq, Int.reduceToNat, Int.reduceAdd, Int.reduceSub, Int.reduceMul]
  exact hQ _ _ o hnx b'
theorem BufAt.pop (b : BufAt h p nb S a B qs) (hl : 0 < qs.length) :
  BufAt ((h.upd p (.cells (bufC nb S ((a + 1) % S) qs.length) 188 .fix)).upd p (.cells (bufC nb S ((a + 1) % S) (qs.length - 1)) 188 .fix)) p nb S ((a + 1) % S) B qs.tail where
 op := by rw [obj_upd_same, List.length_tail]
 lp := b.lp
 on := by rw [obj_upd_ne _ _ (Ne.symm b.pn), obj_upd_ne _ _ (Ne.symm b.pn)]; exact b.on
 ln := b.ln
 pn := b.pn
 len := b.len
 hS := b.hS
 ha := Nat.mod_lt _ (by have := b.hS; omega)
 hn := by rw [List.length_tail]; have := b.hn; omega
 byt := b.byt
 at_ := fun i hi => by
  rw [List.length_tail] at hi
  have := b.at_ (i + 1) (by omega)
  rw [List.getElem?_tail, ← this, Nat.mod_add_mod, show a + 1 + i = a + (i + 1) by omega]
theorem take_ok (b : BufAt h p nb S a B qs) (n : Int) {Q : Value → Heap → Prop}
  (hQ : ∀ h' v' b' a', OldX p h h' → h.next ≤ b' → Vec h' 5 B8 v' (qs.take n.toNat) b' → BufAt h' p nb S a' B (qs.drop n.toNat) → Q v' h') : CALL cp 66 [.pointer (some ⟨p, 0, none⟩), .int .i64 n] h Q := by
 rw [CALL_enter cp cp66]
 have hS := b.hS
 have ha := b.ha
 have hqn := b.hn
 have f := fun Q => blen_ok b Q
 obtain ⟨k, hk⟩ : ∃ k : Nat, min (max n 0) (qs.length : Int) = k := ⟨(min (max n 0) (qs.length : Int)).toNat, by omega⟩
 have hkn : k = min n.toNat qs.length := by omega
 have ht : qs.take n.toNat = qs.take k := by rw [hkn, ← List.take_take, List.take_length]
 have hd : qs.drop n.toNat = qs.drop k := by
  rw [hkn]
  by_cases c : n.toNat ≤ qs.length
  ·rw [Nat.min_eq_left c]
  ·rw [Nat.min_eq_right (by omega), List.drop_eq_nil_of_le (by omega), List.drop_eq_nil_of_le (by omega)]
 rw [ht, hd] at hQ
 simp (disch := omega) only [c66, ↓R66, f, ↓mm_max, ↓mm_min, hk, ↓RnP, RnQ, Nat.reduceEqDiff, Nat.reduceAdd, Nat.reduceMul, Nat.reduceSub, Nat.reduceLT, Nat.reduceLeDiff, Nat.reduceBEq, Int.reduceLT, Int.reduceLE, reduceCtorEq, Int.reduceToNat, Int.reduceAdd, Int.reduceSub, Int.reduceMul]
 refine RunC_loop cp c66_l0 _ (fun d e hh => ∃ (i a' bb : Nat) (vv : Value), i + d = k ∧ OldX p h hh ∧ h.next ≤ bb ∧ Vec hh 5 B8 vv (qs.take i) bb ∧ BufAt hh p nb S a' B (qs.drop i) ∧
   e 0 = .pointer (some ⟨p, 0, none⟩) ∧ e 5 = vv ∧ e 10 = .int .i64 k ∧ e 11 = .int .i64 i) ?_ k _ _
  ⟨0, a, h.next, _, by omega, OldX.refl _ _, Nat.le_refl _, Vec.nil _ _ _ _, by simpa using b, rfl, rfl, rfl, rfl⟩
 rintro d e hh ⟨i, a', bb, vv, hi, o, hbb, V, b', e0, e5, e10, e11⟩
 by_cases ci : i < k
 ·have b1 : decide ((i : Int) < (k : Int)) = true := decide_eq_true (by omega)
  have nx : (i : Int) + 1 = ((i + 1 : Nat) : Int) := by omega
  have hx : qs[i]? = some qs[i] := List.getElem?_eq_getElem (by omega)
  obtain ⟨c, hc⟩ : ∃ c, c = qs[i] := ⟨_, rfl⟩
  rw [← hc] at hx
  have ha' := b'.ha
  have hg : B[a']? = some c := by
   have := b'.at_ 0 (by rw [List.length_drop]; omega)
   rw [Nat.add_zero, Nat.mod_eq_of_lt ha', List.getElem?_drop, Nat.add_zero, hx] at this
   exact this
  have hg := ints_get .u8 _ hg
  have op := b'.op
  have on := b'.on
  have lp := b'.lp
  have ln := b'.ln
  have pn := b'.pn
  have bl := b'.len
  rw [List.length_drop] at op
  have il : (qs.take i).length = i := by rw [List.length_take]; omega
  simp (disch := omega) only [c66_l0, c66, ↓R66, e0, e5, e10, e11, b1, op, on, hg, bl, reps, List.append_nil, Nat.mul_one, ↓RnP, RnQ, Nat.reduceEqDiff, Nat.reduceAdd, Nat.reduceMul, Nat.reduceSub, Nat.reduceLT, Nat.reduceLeDiff, Nat.reduceBEq, Int.reduceLT, Int.reduceLE, reduceCtorEq, Int.reduceToNat, Int.reduceAdd, Int.reduceSub, Int.reduceMul]
  refine (V.new8 _).app (m := [c]) (bytes := 1) rfl (src_enc B8 hh c 5 1) (by rw [List.length_singleton, il]; omega) (by rw [List.length_singleton, il]; omega) fun v' h' bn V3 hn' hb' ho' => ?_
  have hn'' : hh.next + 1 ≤ h'.next := hn'
  have hbe : bb = bn ∨ hh.next + 1 ≤ bn := by
   rcases hb' with rfl | hb'
   ·exact .inl rfl
   ·exact .inr hb'
  have onx := o.next
  have hpb : p ≠ bb := by have := b.lp; omega
  have hnb : nb ≠ bb := by have := b.ln; omega
  have o3 : ∀ z, z < hh.next → z ≠ bb → h'.obj z = hh.obj z := fun z hz hne => by rw [ho' z (by show z < hh.next + 1; omega) (.inr hne), obj_new_ne _ _ (by omega)]
  have b3 : BufAt h' p nb S a' B (qs.drop i) := b'.keep (by omega) (o3 p lp hpb) (o3 nb ln hnb)
  have op3 := b3.op
  have on3 := b3.on
  rw [List.length_drop] at op3
  have n0 : ((S : Int) = 0) = False := by simp; omega
  have k1 : (a' : Int) + 1 = ((a' + 1 : Nat) : Int) := by omega
  have t1 : Int.tmod ((a' + 1 : Nat) : Int) (S : Int) = (((a' + 1) % S : Nat) : Int) := by rw [tmod_nn _ _ (by omega)]; rfl
  have k2 : ((qs.length - i : Nat) : Int) - 1 = ((qs.length - i - 1 : Nat) : Int) := by omega
  have pop := b3.pop (by rw [List.length_drop]; omega)
  rw [List.length_drop, List.tail_drop] at pop
  simp (disch := omega) only [c66, ↓R66, e0, e5, e10, e11, op3, n0, k1, t1, k2, nx, ↓RnP, RnQ, Nat.reduceEqDiff, Nat.reduceAdd, Nat.reduceMul, Nat.reduceSub, Nat.reduceLT, Nat.reduceLeDiff, Nat.reduceBEq, Int.reduceLT, Int.reduceLE, reduceCtorEq, Int.reduceToNat, Int.reduceAdd, Int.reduceSub, Int.reduceMul]
  refine ⟨d - 1, by omega, i + 1, _, bn, v', by omega, ?_, by omega, ?_, pop, ?_⟩
  ·refine ⟨by simp only [next_upd]; have := o.next; omega, fun z hz hne => ?_⟩
   have := o.next
   rw [obj_upd_ne _ _ hne, obj_upd_ne _ _ hne, o3 z (by omega) (by omega), o.obj z hz hne]
  ·rw [take_get hx]
   exact V3.keep (by simp only [next_upd]; omega) fun hl => by
    have hpn : bn ≠ p := by
     have := b.lp
     have := o.next
     omega
    rw [obj_upd_ne _ _ hpn, obj_upd_ne _ _ hpn]
  ·repeat' first | assumption | rfl | apply And.intro
 ·have b1 : decide ((i : Int) < (k : Int)) = false := decide_eq_false (by omega)
  obtain rfl : i = k := by omega
  simp (disch := omega) only [c66_l0, c66, ↓R66, e0, e5, e10, e11, b1, ↓RnP, RnQ, Nat.reduceEqDiff, Nat.reduceAdd, Nat.reduceMul, Nat.reduceSub, Nat.reduceLT, Nat.reduceLeDiff, Nat.reduceBEq, Int.reduceLT, Int.reduceLE, reduceCtorEq, Int.reduceToNat, Int.reduceAdd, Int.reduceSub, Int.reduceMul]
  exact hQ _ _ _ _ o hbb V b'
end
end Go.Proofs.YtlakhgibjfmjjaaGreat.Can
namespace Go.Proofs.YtlakhgibjfmjjaaGreat.Can
open Go
attribute [local congr] RunR_congr RunC_congr afterR_congr guardR_congr condQ_congr CALL_congr finQ_congr op_congr opg_congr
abbrev rowV (r : RowT) : Value := .agg #[.int .u64 r.1, .int .u64 r.2.1, .int .u64 r.2.2]
structure IdxAt (h : Heap) (x tb st : Nat) (row : RowT) (n : Nat) (tab : List Int) : Prop where
 ox : h.obj x = .cells [.pointer (some ⟨st, 0, none⟩), .int .u64 row.1, .int .u64 row.2.1, .int .u64 row.2.2, .slice (some ⟨tb, 0, none⟩) (2 * n + 1) (2 * n + 1)] 209 .fix
 lx : x < h.next
 ot : h.obj tb = .cells (ints .i32 tab) 21 .grow
 lt : tb < h.next
 len : tab.length = 2 * n + 1
 ne : x ≠ tb
structure StAt (h : Heap) (p : Nat) (A : List Nat) (n : Nat) (keys : Nat → Option ByteArray) (fl : List Nat) : Prop where
 S : Keys.Store h p A n keys fl
 lt : ∀ z ∈ A, z < h.next
theorem StAt.keep {h h' : Heap} {p : Nat} {A : List Nat} {n : Nat} {keys : Nat → Option ByteArray} {fl : List Nat} (s : StAt h p A n keys fl) (hn : h.next ≤ h'.next) (ho : ∀ z ∈ A, h'.obj z = h.obj z) : StAt h' p A n keys fl := by
 refine ⟨?_, fun z hz => Nat.lt_of_lt_of_le (s.lt z hz) hn⟩
 obtain ⟨k, h1, h2, h3, a, g⟩ := s.S
 refine ⟨k, h1, h2, h3, ?_, g⟩
 have m : ∀ z, z = k.p ∨ z = k.bb ∨ z = k.bs ∨ z = k.bn → h'.obj z = h.obj z := fun z hz => ho z (by rw [← h2]; unfold Keys.KS.own; simp only [List.mem_cons, List.not_mem_nil, or_false]; exact hz)
 exact { a with hp := (m _ (.inl rfl)).trans a.hp, hb := (m _ (.inr (.inl rfl))).trans a.hb, hs := (m _ (.inr (.inr (.inl rfl)))).trans a.hs, hn := (m _ (.inr (.inr (.inr rfl)))).trans a.hn }
theorem StAt.old {h h' : Heap} {p : Nat} {A : List Nat} {n : Nat} {keys : Nat → Option ByteArray} {fl : List Nat} (s : StAt h p A n keys fl) (o : Old h h') : StAt h' p A n keys fl := s.keep o.next fun z hz => o.obj z (s.lt z hz)
theorem stNew_ok (h : Heap) (n : Nat) (hn : n ≤ 65536) {Q : Value → Heap → Prop}
  (hQ : ∀ h' p A, Old h h' → StAt h' p A n (fun _ => none) (List.range n) → p ∈ A → A.Nodup → (∀ z ∈ A, h.next ≤ z) → Q (.pointer (some ⟨p, 0, none⟩)) h') : CALL cp 92 [.int .i64 n] h Q := by
 refine Keys.st_new h n hn fun h' S hnx ho => ?_
 refine hQ h' (h.next + 3) _ ⟨by omega, ho⟩ ⟨S, fun z hz => ?_⟩ (by simp) (by simp) fun z hz => ?_
 ·simp only [List.mem_cons, List.not_mem_nil, or_false] at hz; omega
 ·simp only [List.mem_cons, List.not_mem_nil, or_false] at hz; omega
theorem IdxAt.keep {h h' : Heap} {x tb st : Nat} {row : RowT} {n : Nat} {tab : List Int} (i : IdxAt h x tb st row n tab) (hn : h.next ≤ h'.next) (h1 : h'.obj x = h.obj x) (h2 : h'.obj tb = h.obj tb) : IdxAt h' x tb st row n tab :=
 { i with ox := h1.trans i.ox, ot := h2.trans i.ot, lx := Nat.lt_of_lt_of_le i.lx hn, lt := Nat.lt_of_lt_of_le i.lt hn }
theorem idxNew_ok {h : Heap} {st : Nat} {A : List Nat} {n : Nat} {keys : Nat → Option ByteArray} {fl : List Nat} (S : StAt h st A n keys fl) (hn : n ≤ 1024) (row : RowT) {Q : Value → Heap → Prop}
  (hQ : ∀ h' x tb, Old h h' → IdxAt h' x tb st row n (List.replicate (2 * n + 1) 0) → h.next ≤ x → h.next ≤ tb → Q (.pointer (some ⟨x, 0, none⟩)) h') :
  CALL cp 93 [.pointer (some ⟨st, 0, none⟩), rowV row] h Q := by
 rw [CALL_enter cp cp93]
 obtain ⟨h1, h1d⟩ : ∃ h1, h1 = h.new (.cells [.int .u64 row.1, .int .u64 row.2.1, .int .u64 row.2.2] 182 .fix) := ⟨_, rfl⟩
 have o1 : Old h h1 := by rw [h1d]; exact (Old.refl h).more _
 have n1 : h1.next = h.next + 1 := by rw [h1d]; rfl
 have g1 : h1.obj h.next = .cells [.int .u64 row.1, .int .u64 row.2.1, .int .u64 row.2.2] 182 .fix := by rw [h1d]; exact obj_new_same _ _
 have fl := fun Q => Keys.st_len (S.old o1).S Q
 have fs : ∀ Q, CALL cp 99 [.int .i64 (n : Int)] h1 Q ↔ Q (.int .i64 ((2 * n + 1 : Nat) : Int)) h1 := fun Q => by
  refine CALL_det ?_ Q
  rw [CALL_enter cp cp99]
  have k : 2 * (n : Int) + 1 = ((2 * n + 1 : Nat) : Int) := by omega
  simp (disch := omega) only [c99, ↓R99, k, ↓RnP, RnQ, Nat.reduceEqDiff, Nat.reduceAdd, Nat.reduceMul, Nat.reduceSub, Nat.reduceLT, Nat.reduceLeDiff, Nat.reduceBEq, Int.reduceLT, Int.reduceLE, reduceCtorEq, Int.reduceToNat, Int.reduceAdd, Int.reduceSub, Int.reduceMul]
 have z0 : ¬ ((2 * n + 1 : Nat) : Int) < 0 := by omega
 simp (disch := omega) only [c93, ↓R93, eqS, ← h1d, g1, fl, fs, reps_int, fillIn, ↓RnP, RnQ, Nat.reduceEqDiff, Nat.reduceAdd, Nat.reduceMul, Nat.reduceSub, Nat.reduceLT, Nat.reduceLeDiff, Nat.reduceBEq, Int.reduceLT, Int.reduceLE, reduceCtorEq, Int.reduceToNat, Int.reduceAdd, Int.reduceSub, Int.reduceMul]
 refine hQ _ (h1.next + 1) h1.next (o1.trans (((Old.refl h1).more _).more _)) ⟨?_, ?_, ?_, ?_, by simp, by omega⟩ (by omega) (by omega)
 ·exact obj_new2_same _ _ _
 ·exact Nat.lt_succ_self _
 ·rw [obj_new_ne _ _ (by simp only [next_new]; omega)]; exact obj_new_same _ _
 ·simp only [next_new]; omega
end Go.Proofs.YtlakhgibjfmjjaaGreat.Can
namespace Go.Proofs.YtlakhgibjfmjjaaGreat.Can
open Go
attribute [local congr] RunR_congr RunC_congr afterR_congr guardR_congr condQ_congr CALL_congr finQ_congr op_congr opg_congr
abbrev CellT := Int × Int × Int × Int
abbrev CellE : Enc CellT := Enc.pair (Enc.int .i64) (Enc.pair (Enc.int .i64) (Enc.pair (Enc.int .i64) (Enc.int .i64)))
theorem reps_cell (n : Nat) : reps n [.int .i64 0, .int .i64 0, .int .i64 0, .int .i64 0] = CellE.all (List.replicate n (0, 0, 0, 0)) := by
 induction n with
 | zero => rfl
 | succ n ih => rw [List.replicate_succ]; show [Value.int .i64 0, .int .i64 0, .int .i64 0, .int .i64 0] ++ reps n _ = _; rw [ih]; rfl
structure PA where
 p : Nat
 st : Nat
 x : Nat
 tb : Nat
 cb : Nat
 A : List Nat
 n : Nat
 row : RowT
def PA.own (a : PA) : List Nat := a.p :: a.cb :: a.x :: a.tb :: a.A
structure PoolAt (h : Heap) (a : PA) (keys : Nat → Option ByteArray) (fl : List Nat) (tab : List Int) (cells : List CellT) : Prop where
 op : h.obj a.p = .cells [.pointer (some ⟨a.st, 0, none⟩), .pointer (some ⟨a.x, 0, none⟩), .slice (some ⟨a.cb, 0, none⟩) a.n a.n] 165 .fix
 s : StAt h a.st a.A a.n keys fl
 i : IdxAt h a.x a.tb a.st a.row a.n tab
 oc : h.obj a.cb = .cells (CellE.all cells) 250 .grow
 len : cells.length = a.n
 nd : a.own.Nodup
 lt : ∀ z ∈ a.own, z < h.next
 hn : 1 ≤ a.n ∧ a.n ≤ 1024
theorem PoolAt.keep {h h' : Heap} {a : PA} {keys : Nat → Option ByteArray} {fl : List Nat} {tab : List Int} {cells : List CellT} (P : PoolAt h a keys fl tab cells) (hn : h.next ≤ h'.next) (ho : ∀ z ∈ a.own, h'.obj z = h.obj z) : PoolAt h' a keys fl tab cells where
 op := (ho _ (by simp [PA.own])).trans P.op
 s := P.s.keep hn fun z hz => ho z (by simp [PA.own, hz])
 i := P.i.keep hn (ho _ (by simp [PA.own])) (ho _ (by simp [PA.own]))
 oc := (ho _ (by simp [PA.own])).trans P.oc
 len := P.len
 nd := P.nd
 lt := fun z hz => Nat.lt_of_lt_of_le (P.lt z hz) hn
 hn := P.hn
theorem poolNew_ok (h : Heap) (n : Nat) (hn : 1 ≤ n ∧ n ≤ 1024) (row : RowT) {Q : Value → Heap → Prop}
  (hQ : ∀ h' a, Old h h' → PoolAt h' a (fun _ => none) (List.range n) (List.replicate (2 * n + 1) 0) (List.replicate n (0, 0, 0, 0)) → a.n = n → a.row = row → (∀ z ∈ a.own, h.next ≤ z) → Q (.pointer (some ⟨a.p, 0, none⟩)) h') :
  CALL cp 80 [.int .i64 n, rowV row] h Q := by
 rw [CALL_enter cp cp80]
 obtain ⟨h1, h1d⟩ : ∃ h1, h1 = h.new (.cells [.int .u64 row.1, .int .u64 row.2.1, .int .u64 row.2.2] 182 .fix) := ⟨_, rfl⟩
 have o1 : Old h h1 := by rw [h1d]; exact (Old.refl h).more _
 have n1 : h1.next = h.next + 1 := by rw [h1d]; rfl
 have g1 : h1.obj h.next = .cells [.int .u64 row.1, .int .u64 row.2.1, .int .u64 row.2.2] 182 .fix := by rw [h1d]; exact obj_new_same _ _
 have a1 : decide ((n : Int) < 1) = false := decide_eq_false (by omega)
 have a2 : decide ((n : Int) > 1024) = false := decide_eq_false (by omega)
 have z0 : ¬ (n : Int) < 0 := by omega
 simp (disch := omega) only [c80, ↓R80, a1, a2, ← h1d, ↓RnP, RnQ, Nat.reduceEqDiff, Nat.reduceAdd, Nat.reduceMul, Nat.reduceSub, Nat.reduceLT, Nat.reduceLeDiff, Nat.reduceBEq, Int.reduceLT, Int.reduceLE, reduceCtorEq, Int.reduceToNat, Int.reduceAdd, Int.reduceSub, Int.reduceMul]
 refine stNew_ok h1 n (by omega) fun h2 st A o2 s2 hst nd hA => ?_
 have n2 := o2.next
 have g2 := (o2.obj h.next (by omega)).trans g1
 obtain ⟨h3, h3d⟩ : ∃ h3, h3 = (h2.new (.cells (CellE.all (List.replicate n (0, 0, 0, 0))) 250 .grow)).new (.cells [.pointer (some ⟨st, 0, none⟩), .pointer none, .slice (some ⟨h2.next, 0, none⟩) n n] 165 .fix) := ⟨_, rfl⟩
 have o3 : Old h2 h3 := by rw [h3d]; exact ((Old.refl h2).more _).more _
 have n3 : h3.next = h2.next + 1 + 1 := by rw [h3d]; rfl
 have gp3 : h3.obj (h2.next + 1) = .cells [.pointer (some ⟨st, 0, none⟩), .pointer none, .slice (some ⟨h2.next, 0, none⟩) n n] 165 .fix := by rw [h3d]; exact obj_new2_same _ _ _
 have gc3 : h3.obj h2.next = .cells (CellE.all (List.replicate n (0, 0, 0, 0))) 250 .grow := by rw [h3d, obj_new_ne _ _ (by simp only [next_new]; omega)]; exact obj_new_same _ _
 have g3 := (o3.obj h.next (by omega)).trans g2
 have s3 := s2.old o3
 simp (disch := omega) only [c80, ↓R80, reps_cell, fillIn, ← h3d, gp3, g3, ↓RnP, RnQ, Nat.reduceEqDiff, Nat.reduceAdd, Nat.reduceMul, Nat.reduceSub, Nat.reduceLT, Nat.reduceLeDiff, Nat.reduceBEq, Int.reduceLT, Int.reduceLE, reduceCtorEq, Int.reduceToNat, Int.reduceAdd, Int.reduceSub, Int.reduceMul]
 refine idxNew_ok s3 (by omega) row fun h4 x tb o4 i4 hx ht => ?_
 have gp4 := (o4.obj _ (by omega)).trans gp3
 have n4 := o4.next
 have lx := i4.lx
 have lt := i4.lt
 simp (disch := omega) only [c80, ↓R80, gp4, ↓RnP, RnQ, Nat.reduceEqDiff, Nat.reduceAdd, Nat.reduceMul, Nat.reduceSub, Nat.reduceLT, Nat.reduceLeDiff, Nat.reduceBEq, Int.reduceLT, Int.reduceLE, reduceCtorEq, Int.reduceToNat, Int.reduceAdd, Int.reduceSub, Int.reduceMul]
 have hlt := s2.lt
 refine hQ _ ⟨h2.next + 1, st, x, tb, h2.next, A, n, row⟩ ⟨by rw [next_upd]; omega, fun z hz => by rw [obj_upd_ne _ _ (by omega), o4.obj z (by omega), o3.obj z (by omega), o2.obj z (by omega), o1.obj z hz]⟩ ⟨?_, ?_, ?_, ?_, ?_, ?_, ?_, hn⟩ rfl rfl ?_
 ·exact obj_upd_same _ _ _
 ·refine (s3.old o4).keep (Nat.le_refl _) fun z hz => obj_upd_ne _ _ (by have := hlt z hz; omega)
 ·exact i4.keep (Nat.le_refl _) (obj_upd_ne _ _ (by omega)) (obj_upd_ne _ _ (by omega))
 ·show (h4.upd _ _).obj h2.next = _
  rw [obj_upd_ne _ _ (by omega), o4.obj _ (by omega)]; exact gc3
 ·simp
 ·have ne := i4.ne
  simp only [PA.own, List.nodup_cons, List.mem_cons, not_or]
  refine ⟨⟨by omega, by omega, by omega, fun hz => by have := hlt _ hz; omega⟩, ⟨by omega, by omega, fun hz => by have := hlt _ hz; omega⟩, ⟨ne, fun hz => by have := hlt _ hz; omega⟩, fun hz => by have := hlt _ hz; omega, nd⟩
 ·intro z hz
  simp only [PA.own, List.mem_cons] at hz
  rw [next_upd]
  rcases hz with rfl | rfl | rfl | rfl | hz
  ·omega
  ·omega
  ·omega
  ·omega
  ·have := hlt _ hz; omega
 ·intro z hz
  simp only [PA.own, List.mem_cons] at hz
  rcases hz with rfl | rfl | rfl | rfl | hz
  ·omega
  ·omega
  ·omega
  ·omega
  ·have := hA _ hz; omega
end Go.Proofs.YtlakhgibjfmjjaaGreat.Can
namespace Go.Proofs.YtlakhgibjfmjjaaGreat.Can
open Go
attribute [local congr] RunR_congr RunC_congr afterR_congr guardR_congr condQ_congr CALL_congr finQ_congr op_congr opg_congr
structure SA where
 p : Nat
 st : Nat
 x : Nat
 tb : Nat
 nb : Nat
 eb : Nat
 ob : Nat
 wb : Nat
 A : List Nat
 n : Nat
 row : RowT
def SA.own (a : SA) : List Nat := a.p :: a.nb :: a.eb :: a.ob :: a.wb :: a.x :: a.tb :: a.A
abbrev sumC (a : SA) (tot : Int) : List Value := [.pointer (some ⟨a.st, 0, none⟩), .pointer (some ⟨a.x, 0, none⟩), .slice (some ⟨a.nb, 0, none⟩) a.n a.n, .slice (some ⟨a.eb, 0, none⟩) a.n a.n, .slice (some ⟨a.ob, 0, none⟩) a.n a.n, .slice (some ⟨a.wb, 0, none⟩) a.n a.n, .int .i64 tot]
structure SumAt (h : Heap) (a : SA) (keys : Nat → Option ByteArray) (fl : List Nat) (tab ns es os ws : List Int) (tot : Int) : Prop where
 op : h.obj a.p = .cells (sumC a tot) 169 .fix
 s : StAt h a.st a.A a.n keys fl
 i : IdxAt h a.x a.tb a.st a.row a.n tab
 on : h.obj a.nb = .cells (ints .i64 ns) 2 .grow
 oe : h.obj a.eb = .cells (ints .i64 es) 2 .grow
 oo : h.obj a.ob = .cells (ints .i32 os) 21 .grow
 ow : h.obj a.wb = .cells (ints .i32 ws) 21 .grow
 ln : ns.length = a.n
 le : es.length = a.n
 lo : os.length = a.n
 lw : ws.length = a.n
 nd : a.own.Nodup
 lt : ∀ z ∈ a.own, z < h.next
 hn : 1 ≤ a.n ∧ a.n ≤ 64
theorem SumAt.keep {h h' : Heap} {a : SA} {keys : Nat → Option ByteArray} {fl : List Nat} {tab ns es os ws : List Int} {tot : Int} (P : SumAt h a keys fl tab ns es os ws tot) (hn : h.next ≤ h'.next) (ho : ∀ z ∈ a.own, h'.obj z = h.obj z) : SumAt h' a keys fl tab ns es os ws tot :=
 { P with
   op := (ho _ (by simp [SA.own])).trans P.op
   s := P.s.keep hn fun z hz => ho z (by simp [SA.own, hz])
   i := P.i.keep hn (ho _ (by simp [SA.own])) (ho _ (by simp [SA.own]))
   on := (ho _ (by simp [SA.own])).trans P.on
   oe := (ho _ (by simp [SA.own])).trans P.oe
   oo := (ho _ (by simp [SA.own])).trans P.oo
   ow := (ho _ (by simp [SA.own])).trans P.ow
   lt := fun z hz => Nat.lt_of_lt_of_le (P.lt z hz) hn }
theorem sumNew_ok (h : Heap) (n : Nat) (hn : 1 ≤ n ∧ n ≤ 64) (row : RowT) {Q : Value → Heap → Prop}
  (hQ : ∀ h' a, Old h h' → SumAt h' a (fun _ => none) (List.range n) (List.replicate (2 * n + 1) 0) (List.replicate n 0) (List.replicate n 0) (List.replicate n 0) (List.replicate n 0) 0 → a.n = n → a.row = row → (∀ z ∈ a.own, h.next ≤ z) → Q (.pointer (some ⟨a.p, 0, none⟩)) h') :
  CALL cp 82 [.int .i64 n, rowV row] h Q := by
 rw [CALL_enter cp cp82]
 obtain ⟨h1, h1d⟩ : ∃ h1, h1 = h.new (.cells [.int .u64 row.1, .int .u64 row.2.1, .int .u64 row.2.2] 182 .fix) := ⟨_, rfl⟩
 have o1 : Old h h1 := by rw [h1d]; exact (Old.refl h).more _
 have n1 : h1.next = h.next + 1 := by rw [h1d]; rfl
 have g1 : h1.obj h.next = .cells [.int .u64 row.1, .int .u64 row.2.1, .int .u64 row.2.2] 182 .fix := by rw [h1d]; exact obj_new_same _ _
 have a1 : decide ((n : Int) < 1) = false := decide_eq_false (by omega)
 have a2 : decide ((n : Int) > 64) = false := decide_eq_false (by omega)
 have z0 : ¬ (n : Int) < 0 := by omega
 simp (disch := omega) only [c82, ↓R82, a1, a2, ← h1d, ↓RnP, RnQ, Nat.reduceEqDiff, Nat.reduceAdd, Nat.reduceMul, Nat.reduceSub, Nat.reduceLT, Nat.reduceLeDiff, Nat.reduceBEq, Int.reduceLT, Int.reduceLE, reduceCtorEq, Int.reduceToNat, Int.reduceAdd, Int.reduceSub, Int.reduceMul]
 refine stNew_ok h1 n (by omega) fun h2 st A o2 s2 hst nd hA => ?_
 have n2 := o2.next
 have g2 := (o2.obj h.next (by omega)).trans g1
 obtain ⟨ha, had⟩ : ∃ ha, ha = ((h2.new (.cells (ints .i64 (List.replicate n 0)) 2 .grow)).new (.cells (ints .i64 (List.replicate n 0)) 2 .grow)) := ⟨_, rfl⟩
 have oa : Old h2 ha := by rw [had]; exact ((Old.refl h2).more _).more _
 have na : ha.next = h2.next + 1 + 1 := by rw [had]; rfl
 have gn : ha.obj h2.next = .cells (ints .i64 (List.replicate n 0)) 2 .grow := by rw [had, obj_new_ne _ _ (by simp only [next_new]; omega)]; exact obj_new_same _ _
 have ge : ha.obj (h2.next + 1) = .cells (ints .i64 (List.replicate n 0)) 2 .grow := by rw [had]; exact obj_new_same _ _
 obtain ⟨h3, h3d⟩ : ∃ h3, h3 = ((ha.new (.cells (ints .i32 (List.replicate n 0)) 21 .grow)).new (.cells (ints .i32 (List.replicate n 0)) 21 .grow)).new (.cells [.pointer (some ⟨st, 0, none⟩), .pointer none, .slice (some ⟨h2.next, 0, none⟩) n n, .slice (some ⟨h2.next + 1, 0, none⟩) n n, .slice (some ⟨ha.next, 0, none⟩) n n, .slice (some ⟨ha.next + 1, 0, none⟩) n n, .int .i64 0] 169 .fix) := ⟨_, rfl⟩
 have o3 : Old ha h3 := by rw [h3d]; exact (((Old.refl ha).more _).more _).more _
 have n3 : h3.next = ha.next + 1 + 1 + 1 := by rw [h3d]; rfl
 have gp3 : h3.obj (ha.next + 1 + 1) = .cells [.pointer (some ⟨st, 0, none⟩), .pointer none, .slice (some ⟨h2.next, 0, none⟩) n n, .slice (some ⟨h2.next + 1, 0, none⟩) n n, .slice (some ⟨ha.next, 0, none⟩) n n, .slice (some ⟨ha.next + 1, 0, none⟩) n n, .int .i64 0] 169 .fix := by rw [h3d]; exact obj_new_same _ _
 have go : h3.obj ha.next = .cells (ints .i32 (List.replicate n 0)) 21 .grow := by rw [h3d, obj_new_ne _ _ (by simp only [next_new]; omega), obj_new_ne _ _ (by simp only [next_new]; omega)]; exact obj_new_same _ _
 have gw : h3.obj (ha.next + 1) = .cells (ints .i32 (List.replicate n 0)) 21 .grow := by rw [h3d, obj_new_ne _ _ (by simp only [next_new]; omega)]; exact obj_new_same _ _
 have g3 := ((o3.obj h.next (by omega)).trans (oa.obj h.next (by omega))).trans g2
 have s3 := (s2.old oa).old o3
 simp (disch := omega) only [c82, ↓R82, reps_int, fillIn, ← had, ← h3d, gp3, g3, ↓RnP, RnQ, Nat.reduceEqDiff, Nat.reduceAdd, Nat.reduceMul, Nat.reduceSub, Nat.reduceLT, Nat.reduceLeDiff, Nat.reduceBEq, Int.reduceLT, Int.reduceLE, reduceCtorEq, Int.reduceToNat, Int.reduceAdd, Int.reduceSub, Int.reduceMul]
 refine idxNew_ok s3 (by omega) row fun h4 x tb o4 i4 hx ht => ?_
 have gp4 := (o4.obj _ (by omega)).trans gp3
 have n4 := o4.next
 have lx := i4.lx
 have lt := i4.lt
 simp (disch := omega) only [c82, ↓R82, gp4, ↓RnP, RnQ, Nat.reduceEqDiff, Nat.reduceAdd, Nat.reduceMul, Nat.reduceSub, Nat.reduceLT, Nat.reduceLeDiff, Nat.reduceBEq, Int.reduceLT, Int.reduceLE, reduceCtorEq, Int.reduceToNat, Int.reduceAdd, Int.reduceSub, Int.reduceMul]
 have hlt := s2.lt
 have keep : ∀ z, z < ha.next → z ≠ ha.next + 1 + 1 → ∀ c, (h4.upd (ha.next + 1 + 1) c).obj z = ha.obj z := fun z hz hne c => by rw [obj_upd_ne _ _ hne, o4.obj z (by omega), o3.obj z (by omega)]
 refine hQ _ ⟨ha.next + 1 + 1, st, x, tb, h2.next, h2.next + 1, ha.next, ha.next + 1, A, n, row⟩ ⟨by rw [next_upd]; omega, fun z hz => by rw [obj_upd_ne _ _ (by omega), o4.obj z (by omega), o3.obj z (by omega), oa.obj z (by omega), o2.obj z (by omega), o1.obj z hz]⟩ ⟨?_, ?_, ?_, ?_, ?_, ?_, ?_, by simp, by simp, by simp, by simp, ?_, ?_, hn⟩ rfl rfl ?_
 ·exact obj_upd_same _ _ _
 ·refine (s3.old o4).keep (Nat.le_refl _) fun z hz => obj_upd_ne _ _ (by have := hlt z hz; omega)
 ·exact i4.keep (Nat.le_refl _) (obj_upd_ne _ _ (by omega)) (obj_upd_ne _ _ (by omega))
 ·exact (keep _ (by show h2.next < _; omega) (by show h2.next ≠ _; omega) _).trans gn
 ·exact (keep _ (by show h2.next + 1 < _; omega) (by show h2.next + 1 ≠ _; omega) _).trans ge
 ·show (h4.upd _ _).obj ha.next = _
  rw [obj_upd_ne _ _ (by omega), o4.obj _ (by omega)]; exact go
 ·show (h4.upd _ _).obj (ha.next + 1) = _
  rw [obj_upd_ne _ _ (by omega), o4.obj _ (by omega)]; exact gw
 ·have ne := i4.ne
  have hl : ∀ z, h2.next ≤ z → ¬ z ∈ A := fun z hz hm => by have := hlt _ hm; omega
  simp only [SA.own, List.nodup_cons, List.mem_cons, not_or]
  refine ⟨⟨by omega, by omega, by omega, by omega, by omega, by omega, hl _ (by omega)⟩, ⟨by omega, by omega, by omega, by omega, by omega, hl _ (by omega)⟩, ⟨by omega, by omega, by omega, by omega, hl _ (by omega)⟩, ⟨by omega, by omega, by omega, hl _ (by omega)⟩, ⟨by omega, by omega, hl _ (by omega)⟩, ⟨ne, hl _ (by omega)⟩, hl _ (by omega), nd⟩
 ·intro z hz
  simp only [SA.own, List.mem_cons] at hz
  rw [next_upd]
  rcases hz with rfl | rfl | rfl | rfl | rfl | rfl | rfl | hz
  iterate 7 omega
  have := hlt _ hz; omega
 ·intro z hz
  simp only [SA.own, List.mem_cons] at hz
  rcases hz with rfl | rfl | rfl | rfl | rfl | rfl | rfl | hz
  iterate 7 omega
  have := hA _ hz; omega
end Go.Proofs.YtlakhgibjfmjjaaGreat.Can
namespace Go.Proofs.YtlakhgibjfmjjaaGreat.Can
open Go
attribute [local congr] RunR_congr RunC_congr afterR_congr guardR_congr condQ_congr CALL_congr finQ_congr op_congr opg_congr
structure RuleV where
 L : Int
 Wd : Int
 B : Int
 S : Nat
 C : Nat
 R : Nat
 W : Nat
 T : Nat
 sm : Bool
structure RuleV.OK (r : RuleV) : Prop where
 L : 1 ≤ r.L ∧ r.L ≤ 32
 Wd : 1 ≤ r.Wd ∧ r.Wd ≤ 256
 B : 1 ≤ r.B ∧ r.B ≤ r.L
 S : 1 ≤ r.S ∧ r.S ≤ 8
 Sd : r.Wd % (r.S : Int) = 0
 C : 1 ≤ r.C ∧ r.C ≤ 8
 R : 1 ≤ r.R ∧ r.R ≤ 4
 W : 1 ≤ r.W ∧ r.W ≤ 16
 T : 1 ≤ r.T ∧ r.T ≤ 8
 sm : r.sm = true → 2 ≤ r.S
abbrev RuleV.c (r : RuleV) : List Value := ruleC r.L r.Wd r.B r.S r.C r.R r.W r.T r.sm
def RuleV.u (r : RuleV) : Int := ceilD r.Wd (r.L + 1 - r.B)
theorem cellOf_ok (h : Heap) (r : RuleV) (ok : r.OK) {Q : Value → Heap → Prop} (hQ : ∀ h', Old h h' → Q (.agg #[.int .i64 r.u, .int .i64 r.Wd, .int .i64 r.B, .int .i64 r.L]) h') :
  CALL cp 79 [.agg r.c.toArray] h Q := by
 rw [CALL_enter cp cp79]
 have h1 := ok.L
 have h2 := ok.Wd
 have h3 := ok.B
 have f := fun h => ceil_ok h r.Wd (r.L + 1 - r.B) (by unfold I64; omega) (by omega) (by unfold I64; omega) (by omega)
 simp (disch := first | omega | (simp only [next_new, next_upd, ne_eq]; omega)) only [c79, ↓R79, f, fillIn, ↓RnP, RnQ, Nat.reduceEqDiff, Nat.reduceAdd, Nat.reduceMul, Nat.reduceSub, Nat.reduceLT, Nat.reduceLeDiff, Nat.reduceBEq, Int.reduceLT, Int.reduceLE, reduceCtorEq, Int.reduceToNat, Int.reduceAdd, Int.reduceSub, Int.reduceMul]
 exact hQ _ ⟨by simp only [next_upd, next_new]; omega, fun z hz => by rw [obj_upd_ne _ _ (by omega), obj_new_ne _ _ (by simp only [next_new]; omega), obj_new_ne _ _ (by omega)]⟩
def RP.own (r : RP) : Nat → Prop := fun z => z = r.x ∨ z = r.sb ∨ z = r.tb ∨ ∃ i, i < r.N ∧ (z = r.ps i ∨ z = r.nbs i)
theorem SlotAt.keep {h h' : Heap} {p nb rb w : Nat} {rv : Value} {rows : List RowT} {c : List Int} (S : SlotAt h p nb rv rb rows w c) (hn : h.next ≤ h'.next) (h1 : h'.obj p = h.obj p) (h2 : h'.obj nb = h.obj nb) (h3 : h'.obj rb = h.obj rb) : SlotAt h' p nb rv rb rows w c :=
 { S with op := h1.trans S.op, lp := Nat.lt_of_lt_of_le S.lp hn, on := h2.trans S.on, ln := Nat.lt_of_lt_of_le S.ln hn, v := S.v.keep hn fun _ => h3 }
theorem RingAt.keep {h h' : Heap} {r : RP} {now : Int} {st : List Int} {cs : Nat → List Int} (R : RingAt h r now st cs) (hn : h.next ≤ h'.next) (ho : ∀ z, r.own z ∨ z = r.rb → h'.obj z = h.obj z) : RingAt h' r now st cs :=
 { R with
   ox := (ho _ (.inl (.inl rfl))).trans R.ox
   lx := Nat.lt_of_lt_of_le R.lx hn
   os := (ho _ (.inl (.inr (.inl rfl)))).trans R.os
   ls := Nat.lt_of_lt_of_le R.ls hn
   ot := (ho _ (.inl (.inr (.inr (.inl rfl))))).trans R.ot
   lt := Nat.lt_of_lt_of_le R.lt hn
   sl := fun i hi => (R.sl i hi).keep hn (ho _ (.inl (.inr (.inr (.inr ⟨i, hi, .inl rfl⟩))))) (ho _ (.inl (.inr (.inr (.inr ⟨i, hi, .inr rfl⟩))))) (ho _ (.inr rfl)) }
theorem RingAt.ltn {h : Heap} {r : RP} {now : Int} {st : List Int} {cs : Nat → List Int} (R : RingAt h r now st cs) {z : Nat} (hz : r.own z) : z < h.next := by
 rcases hz with rfl | rfl | rfl | ⟨i, hi, rfl | rfl⟩
 ·exact R.lx
 ·exact R.ls
 ·exact R.lt
 ·exact (R.sl i hi).lp
 ·exact (R.sl i hi).ln
structure LA where
 p : Nat
 pa : PA
 rp : RP
 sa : SA
 R : RuleV
 b0 : Nat
 b1 : Nat
 b2 : Nat
 b3 : Nat
 b4 : Nat
 b5 : Nat
structure PoolV where
 keys : Nat → Option ByteArray
 fl : List Nat
 tab : List Int
 cells : List CellT
structure RingV where
 now : Int
 st : List Int
 cs : Nat → List Int
structure SumV where
 keys : Nat → Option ByteArray
 fl : List Nat
 tab : List Int
 ns : List Int
 es : List Int
 os : List Int
 ws : List Int
 tot : Int
structure LimV where
 P : PoolV
 G : RingV
 U : SumV
 al : Int
 de : Int
 bd : Int
abbrev limC (a : LA) (v : LimV) : List Value := [.int .i64 a.R.L, .int .i64 a.R.Wd, .int .i64 a.R.B, .int .i64 a.R.S, .int .i64 a.R.C, .int .i64 a.R.R, .int .i64 a.R.W, .int .i64 a.R.T, .bool a.R.sm,
 .int .i64 a.R.u, .int .i64 a.R.Wd, .int .i64 a.R.B, .int .i64 a.R.L, .pointer (some ⟨a.pa.p, 0, none⟩), .pointer (some ⟨a.rp.x, 0, none⟩), .pointer (some ⟨a.sa.p, 0, none⟩), .int .i64 v.al, .int .i64 v.de, .int .i64 v.bd, .int .i64 0, .int .i64 0]
structure LimAt (h : Heap) (a : LA) (v : LimV) : Prop where
 ol : h.obj a.p = .cells (limC a v) 131 .fix
 P : PoolAt h a.pa v.P.keys v.P.fl v.P.tab v.P.cells
 G : RingAt h a.rp v.G.now v.G.st v.G.cs
 U : SumAt h a.sa v.U.keys v.U.fl v.U.tab v.U.ns v.U.es v.U.os v.U.ws v.U.tot
 ok : a.R.OK
 ip : ∀ z ∈ a.pa.own, a.b1 ≤ z ∧ z < a.b2
 ig : ∀ z, a.rp.own z → a.b2 ≤ z ∧ z < a.b3
 iu : ∀ z ∈ a.sa.own, a.b3 ≤ z ∧ z < a.b4
 ir : a.b0 ≤ a.rp.rb ∧ a.rp.rb < a.b1
 il : a.b4 ≤ a.p ∧ a.p < a.b5
 ib : a.b0 ≤ a.b1 ∧ a.b1 ≤ a.b2 ∧ a.b2 ≤ a.b3 ∧ a.b3 ≤ a.b4 ∧ a.b4 ≤ a.b5
 lt : a.b5 ≤ h.next
 pn : a.pa.n = a.R.C
 un : a.sa.n = a.R.T
 gN : a.rp.N = a.R.S + 1
 gw : a.rp.w = a.R.W
 gW : a.rp.W = a.R.Wd / (a.R.S : Int)
 gL : a.rp.L = a.R.L
 gs : a.rp.part = a.R.sm
 gr : a.rp.rows.length = a.R.R
def LA.own (a : LA) : Nat → Prop := fun z => a.b0 ≤ z ∧ z < a.b5
theorem LimAt.keep {h h' : Heap} {a : LA} {v : LimV} (L : LimAt h a v) (hn : h.next ≤ h'.next) (ho : ∀ z, a.own z → h'.obj z = h.obj z) : LimAt h' a v := by
 have b := L.ib
 have ir := L.ir
 have il := L.il
 exact { L with
  ol := (ho _ (by unfold LA.own; omega)).trans L.ol
  P := L.P.keep hn fun z hz => ho z (by have := L.ip z hz; unfold LA.own; omega)
  G := L.G.keep hn fun z hz => ho z (by
   unfold LA.own
   rcases hz with hz | rfl
   ·have := L.ig z hz; omega
   ·omega)
  U := L.U.keep hn fun z hz => ho z (by have := L.iu z hz; unfold LA.own; omega)
  lt := Nat.le_trans L.lt hn }
theorem LimAt.old {h h' : Heap} {a : LA} {v : LimV} (L : LimAt h a v) (o : Old h h') : LimAt h' a v := L.keep o.next fun z hz => o.obj z (Nat.lt_of_lt_of_le hz.2 L.lt)
def limV0 (r : RuleV) : LimV := ⟨⟨fun _ => none, List.range r.C, List.replicate (2 * r.C + 1) 0, List.replicate r.C (0, 0, 0, 0)⟩, ⟨0, List.replicate (r.S + 1) 0, fun _ => List.replicate (r.R * r.W) 0⟩,
 ⟨fun _ => none, List.range r.T, List.replicate (2 * r.T + 1) 0, List.replicate r.T 0, List.replicate r.T 0, List.replicate r.T 0, List.replicate r.T 0, 0⟩, 0, 0, 0⟩
end Go.Proofs.YtlakhgibjfmjjaaGreat.Can
namespace Go.Proofs.YtlakhgibjfmjjaaGreat.Can
open Go
attribute [local congr] RunR_congr RunC_congr afterR_congr guardR_congr condQ_congr CALL_congr finQ_congr op_congr opg_congr
theorem rowsN_get (l : List Int) (n i : Nat) (h : i < n) : (rowsN l n)[i]? = some (rowN l i) := by
 unfold rowsN; rw [List.getElem?_map, List.getElem?_range h]; rfl
set_option maxHeartbeats 4000000 in
theorem limNew_ok (h : Heap) (r : RuleV) (ok : r.OK) (dr : List Int) (hd : U64s dr) (dv : Value) (sd : Lst h (Enc.int .u64) dv dr) {Q : Value → Heap → Prop}
  (hQ : ∀ h' a, Old h h' → LimAt h' a (limV0 r) → a.R = r → h.next ≤ a.b0 → a.rp.rows = rowsN dr r.R → a.pa.row = rowN dr r.R → a.sa.row = rowN dr r.R → Q (.pointer (some ⟨a.p, 0, none⟩)) h') :
  CALL cp 59 [.agg r.c.toArray, dv] h Q := by
 rw [CALL_enter cp cp59]
 have hR := ok.R
 have hS := ok.S
 have hW := ok.W
 have hWd := ok.Wd
 have hL := ok.L
 have hC := ok.C
 have hT := ok.T
 obtain ⟨h1, h1d⟩ : ∃ h1, h1 = h.new (.cells r.c 34 .fix) := ⟨_, rfl⟩
 have o1 : Old h h1 := by rw [h1d]; exact (Old.refl h).more _
 have n1 : h1.next = h.next + 1 := by rw [h1d]; rfl
 have g1 : h1.obj h.next = .cells r.c 34 .fix := by rw [h1d]; exact obj_new_same _ _
 have k1 : (r.R : Int) + 1 = ((r.R + 1 : Nat) : Int) := by omega
 have k1t : (((r.R + 1 : Nat) : Int)).toNat = r.R + 1 := Int.toNat_natCast _
 simp (disch := omega) only [c59, ↓R59, ← h1d, g1, k1, ↓RnP, RnQ, Nat.reduceEqDiff, Nat.reduceAdd, Nat.reduceMul, Nat.reduceSub, Nat.reduceLT, Nat.reduceLeDiff, Nat.reduceBEq, Int.reduceLT, Int.reduceLE, reduceCtorEq, Int.reduceToNat, Int.reduceAdd, Int.reduceSub, Int.reduceMul]
 refine rows_ok h1 dr hd dv (sd.old o1) _ (by omega) fun h2 rv rb o2 V2 hrb => ?_
 rw [k1t] at V2
 have n2 := o2.next
 have g2 := (o2.obj h.next (by omega)).trans g1
 have rl := rowsN_len dr (r.R + 1)
 obtain ⟨cap, rest, hrv, hb2, ob2, _, hcap⟩ := V2.at (by omega)
 obtain ⟨_, hrv', hrd⟩ := V2.read (rowsN_get dr (r.R + 1) r.R (by omega))
 rw [rl] at hrv hcap
 subst hrv
 rw [Nat.zero_add] at hrd
 have hrd : (h2.obj rb).read (r.R * 3) 3 = some [.int .u64 (rowN dr r.R).1, .int .u64 (rowN dr r.R).2.1, .int .u64 (rowN dr r.R).2.2] := hrd
 have k2 : ((r.R + 1 : Nat) : Int) - 1 = (r.R : Int) := by omega
 obtain ⟨h3, h3d⟩ : ∃ h3, h3 = (h2.new (.cells [.int .u64 0, .int .u64 0, .int .u64 0] 182 .fix)).upd h2.next (.cells [.int .u64 (rowN dr r.R).1, .int .u64 (rowN dr r.R).2.1, .int .u64 (rowN dr r.R).2.2] 182 .fix) := ⟨_, rfl⟩
 have o3 : Old h2 h3 := by rw [h3d]; exact ⟨Nat.le_succ _, fun z hz => by rw [obj_upd_ne _ _ (by omega), obj_new_ne _ _ (by omega)]⟩
 have n3 : h3.next = h2.next + 1 := by rw [h3d]; rfl
 have q3 : h3.obj h2.next = .cells [.int .u64 (rowN dr r.R).1, .int .u64 (rowN dr r.R).2.1, .int .u64 (rowN dr r.R).2.2] 182 .fix := by rw [h3d]; exact obj_upd_same _ _ _
 have g3 := (o3.obj h.next (by omega)).trans g2
 have ob3 := (o3.obj rb hb2).trans ob2
 simp (disch := omega) only [c59, ↓R59, k2, hrd, ← h3d, g3, q3, Nat.mul_one, ↓RnP, RnQ, Nat.reduceEqDiff, Nat.reduceAdd, Nat.reduceMul, Nat.reduceSub, Nat.reduceLT, Nat.reduceLeDiff, Nat.reduceBEq, Int.reduceLT, Int.reduceLE, reduceCtorEq, Int.reduceToNat, Int.reduceAdd, Int.reduceSub, Int.reduceMul]
 refine cellOf_ok h3 r ok fun h4 o4 => ?_
 have n4 := o4.next
 have g4 := (o4.obj h.next (by omega)).trans g3
 have q4 := (o4.obj _ (by omega)).trans q3
 have ob4 := (o4.obj rb (by omega)).trans ob3
 simp (disch := omega) only [c59, ↓R59, g3, g4, q3, q4, ↓RnP, RnQ, Nat.reduceEqDiff, Nat.reduceAdd, Nat.reduceMul, Nat.reduceSub, Nat.reduceLT, Nat.reduceLeDiff, Nat.reduceBEq, Int.reduceLT, Int.reduceLE, reduceCtorEq, Int.reduceToNat, Int.reduceAdd, Int.reduceSub, Int.reduceMul]
 refine poolNew_ok h4 r.C (by omega) (rowN dr r.R) fun h5 pa o5 P5 pn prow plo => ?_
 have n5 := o5.next
 have g5 := (o5.obj h.next (by omega)).trans g4
 have q5 := (o5.obj _ (by omega)).trans q4
 have ob5 := (o5.obj rb (by omega)).trans ob4
 simp (disch := omega) only [c59, ↓R59, g3, g4, g5, q3, q4, q5, ob3, ob4, ob5, Nat.sub_zero, ↓RnP, RnQ, Nat.reduceEqDiff, Nat.reduceAdd, Nat.reduceMul, Nat.reduceSub, Nat.reduceLT, Nat.reduceLeDiff, Nat.reduceBEq, Int.reduceLT, Int.reduceLE, reduceCtorEq, Int.reduceToNat, Int.reduceAdd, Int.reduceSub, Int.reduceMul]
 have hrows : (rowsN dr (r.R + 1)).take r.R = rowsN dr r.R := by
  unfold rowsN
  rw [← List.map_take, List.take_range, Nat.min_eq_left (by omega)]
 have V5 : Vec h5 182 RowE (.slice (some ⟨rb, 0, none⟩) r.R cap) (rowsN dr r.R) rb := by
  have := (V2.keep (h' := h5) (by omega) fun hl => by rw [o5.obj _ (by omega), o4.obj _ (by omega), o3.obj _ hb2]).cut r.R (by rw [rl]; omega)
  rw [hrows] at this
  exact this
 have rl2 := rowsN_len dr r.R
 have hq : 1 ≤ r.Wd / (r.S : Int) ∧ r.Wd / (r.S : Int) ≤ 1099511627776 := by
  have e := Int.mul_ediv_add_emod r.Wd (r.S : Int)
  rw [ok.Sd, Int.add_zero] at e
  have h0 : 0 ≤ r.Wd / (r.S : Int) := Int.ediv_nonneg (by omega) (by omega)
  have h2 : r.Wd / (r.S : Int) ≤ r.Wd := Int.ediv_le_self _ (by omega)
  refine ⟨?_, by omega⟩
  rcases Int.lt_or_eq_of_le h0 with h | h
  ·omega
  ·rw [← h, Int.mul_zero] at e; omega
 refine rnew_ok h5 _ rb (rowsN dr r.R) V5 (rowsN_ok dr r.R) (by omega) r.L r.Wd r.B r.C r.R r.T r.S r.W r.sm (by omega) (by omega) (by omega) hq (by unfold I64; omega) fun h6 rp o6 G6 gN gw gW gL gs gr glx glt gln gls glp grb => ?_
 have n6 := o6.next
 have g6 := (o6.obj h.next (by omega)).trans g5
 have q6 := (o6.obj _ (by omega)).trans q5
 simp (disch := omega) only [c59, ↓R59, g3, g4, g5, g6, q3, q4, q5, q6, Nat.sub_zero, ↓RnP, RnQ, Nat.reduceEqDiff, Nat.reduceAdd, Nat.reduceMul, Nat.reduceSub, Nat.reduceLT, Nat.reduceLeDiff, Nat.reduceBEq, Int.reduceLT, Int.reduceLE, reduceCtorEq, Int.reduceToNat, Int.reduceAdd, Int.reduceSub, Int.reduceMul]
 refine sumNew_ok h6 r.T (by omega) (rowN dr r.R) fun h7 sa o7 U7 un urow ulo => ?_
 have n7 := o7.next
 have g7 := (o7.obj h.next (by omega)).trans g6
 simp (disch := omega) only [c59, ↓R59, g7, fillIn, ↓RnP, RnQ, Nat.reduceEqDiff, Nat.reduceAdd, Nat.reduceMul, Nat.reduceSub, Nat.reduceLT, Nat.reduceLeDiff, Nat.reduceBEq, Int.reduceLT, Int.reduceLE, reduceCtorEq, Int.reduceToNat, Int.reduceAdd, Int.reduceSub, Int.reduceMul]
 have o8 : Old h7 (h7.new (.cells (limC ⟨h7.next, pa, rp, sa, r, h1.next, h4.next, h5.next, h6.next, h7.next, h7.next + 1⟩ (limV0 r)) 131 .fix)) := (Old.refl h7).more _
 have P7 := P5.keep (h' := h7) (by omega) fun z hz => by
  have := P5.lt z hz
  rw [o7.obj z (by omega), o6.obj z this]
 have G7 := G6.keep (h' := h7) n7 fun z hz => by
  rcases hz with hz | rfl
  ·exact o7.obj z (G6.ltn hz)
  ·rw [grb]; exact o7.obj _ (by omega)
 have q := hQ _ ⟨h7.next, pa, rp, sa, r, h1.next, h4.next, h5.next, h6.next, h7.next, h7.next + 1⟩ (((((((o1.trans o2).trans o3).trans o4).trans o5).trans o6).trans o7).trans o8) ⟨obj_new_same _ _, P7.keep o8.next fun z hz => o8.obj z (P7.lt z hz), ?_, U7.keep o8.next fun z hz => o8.obj z (U7.lt z hz), ok, fun z hz => ⟨plo z hz, P5.lt z hz⟩, fun z hz => ⟨?_, G6.ltn hz⟩, fun z hz => ⟨ulo z hz, U7.lt z hz⟩, ?_, ⟨Nat.le_refl _, Nat.lt_succ_self _⟩, ?_, Nat.le_refl _, pn, un, gN, gw, gW, gL, gs, ?_⟩ rfl ?_ gr prow urow
 ·exact q
 ·have e : G7 = G7 := rfl
  rw [rl2] at G7
  refine RingAt.keep (now := 0) (st := List.replicate (r.S + 1) 0) G7 o8.next fun z hz => ?_
  rcases hz with hz | rfl
  ·exact o8.obj z (Nat.lt_of_lt_of_le (G6.ltn hz) n7)
  ·rw [grb]; exact o8.obj _ (by omega)
 ·rcases hz with rfl | rfl | rfl | ⟨i, hi, rfl | rfl⟩
  ·exact glx
  ·exact gls
  ·exact glt
  ·exact glp i hi
  ·exact gln i hi
 ·show h1.next ≤ rp.rb ∧ rp.rb < h4.next
  rw [grb]; omega
 ·show h1.next ≤ h4.next ∧ h4.next ≤ h5.next ∧ h5.next ≤ h6.next ∧ h6.next ≤ h7.next ∧ h7.next ≤ h7.next + 1
  omega
 ·show rp.rows.length = r.R
  rw [gr]; exact rl2
 ·show h.next ≤ h1.next
  omega
end Go.Proofs.YtlakhgibjfmjjaaGreat.Can
namespace Go.Proofs.YtlakhgibjfmjjaaGreat.Can
open Go
attribute [local congr] RunR_congr RunC_congr afterR_congr guardR_congr condQ_congr CALL_congr finQ_congr op_congr opg_congr
abbrev rc (L W B S C R D T : Int) (m : Bool) : List Value := [.int .i64 L, .int .i64 W, .int .i64 B, .int .i64 S, .int .i64 C, .int .i64 R, .int .i64 D, .int .i64 T, .bool m]
def RuleOK (L W B S C R D T : Int) (m : Bool) : Prop :=
 (1 ≤ L ∧ L ≤ 2147483648) ∧ (1 ≤ W ∧ W ≤ 1099511627776) ∧ (1 ≤ B ∧ B ≤ L) ∧ (1 ≤ S ∧ S ≤ 64) ∧ (W % S = 0) ∧ (1 ≤ C ∧ C ≤ 1024) ∧ (1 ≤ R ∧ R ≤ 8) ∧ (1 ≤ D ∧ D ≤ 4096) ∧ (1 ≤ T ∧ T ≤ 64) ∧ (m = true → 2 ≤ S) ∧ (B * ceilD W (L + 1 - B) ≤ 1152921504606846976)
instance (L W B S C R D T : Int) (m : Bool) : Decidable (RuleOK L W B S C R D T m) := by unfold RuleOK; infer_instance
theorem ceilD_range (W D : Int) (hW : 1 ≤ W) (hD : 1 ≤ D) : 1 ≤ ceilD W D ∧ ceilD W D ≤ W := by
 have h1 := Int.mul_ediv_add_emod W D
 have h4 := Int.emod_nonneg W (show D ≠ 0 by omega)
 have h5 := Int.emod_lt_of_pos W (show 0 < D by omega)
 have h0 : 0 ≤ W / D := Int.ediv_nonneg (by omega) (by omega)
 have h2 : W / D ≤ W := Int.ediv_le_self D (by omega)
 unfold ceilD
 split
 ·rename_i hr
  rw [hr, Int.add_zero] at h1
  refine ⟨?_, h2⟩
  rcases Int.lt_or_eq_of_le h0 with h | h
  ·omega
  ·rw [← h] at h1; simp at h1; omega
 ·refine ⟨by omega, ?_⟩
  by_cases hd : D = 1
  ·subst hd; omega
  ·have := Int.ediv_lt_self_of_pos_of_ne_one (x := W) (y := D) (by omega) hd
   omega
theorem within_ok (h : Heap) (n m : Int) (Q : Value → Heap → Prop) : CALL cp 54 [.int .i64 n, .int .i64 m] h Q ↔ Q (.bool (decide (1 ≤ n ∧ n ≤ m))) h := by
 refine CALL_det ?_ Q
 rw [CALL_enter cp cp54]
 by_cases c : 1 ≤ n
 ·have a1 : decide (n ≥ 1) = true := decide_eq_true c
  simp (disch := omega) only [c54, ↓R54, a1, ↓RnP, RnQ, Nat.reduceEqDiff, Nat.reduceAdd, Nat.reduceMul, Nat.reduceSub, Nat.reduceLT, Nat.reduceLeDiff, Nat.reduceBEq, Int.reduceLT, Int.reduceLE, reduceCtorEq, Int.reduceToNat, Int.reduceAdd, Int.reduceSub, Int.reduceMul]
  exact (by simp [c])
 ·have a1 : decide (n ≥ 1) = false := decide_eq_false c
  simp (disch := omega) only [c54, ↓R54, a1, ↓RnP, RnQ, Nat.reduceEqDiff, Nat.reduceAdd, Nat.reduceMul, Nat.reduceSub, Nat.reduceLT, Nat.reduceLeDiff, Nat.reduceBEq, Int.reduceLT, Int.reduceLE, reduceCtorEq, Int.reduceToNat, Int.reduceAdd, Int.reduceSub, Int.reduceMul]
  exact (by simp [c])
set_option maxHeartbeats 2000000 in
theorem ruleRight_ok (h : Heap) (L W B S C R D T : Int) (m : Bool) (Q : Value → Heap → Prop) :
  CALL cp 55 [.agg #[.int .i64 L, .int .i64 W, .int .i64 B, .int .i64 S, .int .i64 C, .int .i64 R, .int .i64 D, .int .i64 T, .bool m]] h Q ↔ Q (.bool (decide (RuleOK L W B S C R D T m))) (h.new (.cells (rc L W B S C R D T m) 34 .fix)) := by
 refine CALL_det ?_ Q
 rw [CALL_enter cp cp55]
 have f := within_ok (h.new (.cells (rc L W B S C R D T m) 34 .fix))
 by_cases c0 : 1 ≤ L ∧ L ≤ 2147483648
 rotate_left
 ·have w := decide_eq_false c0
  cases z : (L == 0 && (W == 0 && (B == 0 && (S == 0 && (C == 0 && (R == 0 && (D == 0 && (T == 0 && m == false))))))))
  all_goals
   simp (disch := omega) only [c55, ↓R55, eqL, eqS, f, z, w, ↓RnP, RnQ, Nat.reduceEqDiff, Nat.reduceAdd, Nat.reduceMul, Nat.reduceSub, Nat.reduceLT, Nat.reduceLeDiff, Nat.reduceBEq, Int.reduceLT, Int.reduceLE, reduceCtorEq, Int.reduceToNat, Int.reduceAdd, Int.reduceSub, Int.reduceMul]
   exact (by rw [show decide (RuleOK L W B S C R D T m) = false from decide_eq_false fun q => c0 q.1])
 have z : (L == 0) = false := beq_eq_false_iff_ne.2 (by omega)
 have w0 := decide_eq_true c0
 by_cases c1 : 1 ≤ W ∧ W ≤ 1099511627776
 rotate_left
 ·have w := decide_eq_false c1
  simp (disch := omega) only [c55, ↓R55, eqL, eqS, f, z, Bool.false_and, w0, w, ↓RnP, RnQ, Nat.reduceEqDiff, Nat.reduceAdd, Nat.reduceMul, Nat.reduceSub, Nat.reduceLT, Nat.reduceLeDiff, Nat.reduceBEq, Int.reduceLT, Int.reduceLE, reduceCtorEq, Int.reduceToNat, Int.reduceAdd, Int.reduceSub, Int.reduceMul]
  exact (by rw [show decide (RuleOK L W B S C R D T m) = false from decide_eq_false fun q => c1 q.2.1])
 have w1 := decide_eq_true c1
 by_cases c2 : 1 ≤ B ∧ B ≤ L
 rotate_left
 ·have w := decide_eq_false c2
  simp (disch := omega) only [c55, ↓R55, eqL, eqS, f, z, Bool.false_and, w0, w1, w, ↓RnP, RnQ, Nat.reduceEqDiff, Nat.reduceAdd, Nat.reduceMul, Nat.reduceSub, Nat.reduceLT, Nat.reduceLeDiff, Nat.reduceBEq, Int.reduceLT, Int.reduceLE, reduceCtorEq, Int.reduceToNat, Int.reduceAdd, Int.reduceSub, Int.reduceMul]
  exact (by rw [show decide (RuleOK L W B S C R D T m) = false from decide_eq_false fun q => c2 q.2.2.1])
 have w2 := decide_eq_true c2
 by_cases c3 : 1 ≤ S ∧ S ≤ 64
 rotate_left
 ·have w := decide_eq_false c3
  simp (disch := omega) only [c55, ↓R55, eqL, eqS, f, z, Bool.false_and, w0, w1, w2, w, ↓RnP, RnQ, Nat.reduceEqDiff, Nat.reduceAdd, Nat.reduceMul, Nat.reduceSub, Nat.reduceLT, Nat.reduceLeDiff, Nat.reduceBEq, Int.reduceLT, Int.reduceLE, reduceCtorEq, Int.reduceToNat, Int.reduceAdd, Int.reduceSub, Int.reduceMul]
  exact (by rw [show decide (RuleOK L W B S C R D T m) = false from decide_eq_false fun q => c3 q.2.2.2.1])
 have w3 := decide_eq_true c3
 have n0 : (S = 0) = False := by simp; omega
 have t0 : W.tmod S = W % S := tmod_nn W S (by omega)
 by_cases c4 : W % S = 0
 rotate_left
 ·have w : (W % S != 0) = true := bne_iff_ne.2 c4
  simp (disch := omega) only [c55, ↓R55, eqL, eqS, f, z, Bool.false_and, w0, w1, w2, w3, n0, t0, w, ↓RnP, RnQ, Nat.reduceEqDiff, Nat.reduceAdd, Nat.reduceMul, Nat.reduceSub, Nat.reduceLT, Nat.reduceLeDiff, Nat.reduceBEq, Int.reduceLT, Int.reduceLE, reduceCtorEq, Int.reduceToNat, Int.reduceAdd, Int.reduceSub, Int.reduceMul]
  exact (by rw [show decide (RuleOK L W B S C R D T m) = false from decide_eq_false fun q => c4 q.2.2.2.2.1])
 have w4 : (W % S != 0) = false := by rw [c4]; rfl
 by_cases c5 : 1 ≤ C ∧ C ≤ 1024
 rotate_left
 ·have w := decide_eq_false c5
  simp (disch := omega) only [c55, ↓R55, eqL, eqS, f, z, Bool.false_and, w0, w1, w2, w3, n0, t0, w4, w, ↓RnP, RnQ, Nat.reduceEqDiff, Nat.reduceAdd, Nat.reduceMul, Nat.reduceSub, Nat.reduceLT, Nat.reduceLeDiff, Nat.reduceBEq, Int.reduceLT, Int.reduceLE, reduceCtorEq, Int.reduceToNat, Int.reduceAdd, Int.reduceSub, Int.reduceMul]
  exact (by rw [show decide (RuleOK L W B S C R D T m) = false from decide_eq_false fun q => c5 q.2.2.2.2.2.1])
 have w5 := decide_eq_true c5
 by_cases c6 : 1 ≤ R ∧ R ≤ 8
 rotate_left
 ·have w := decide_eq_false c6
  simp (disch := omega) only [c55, ↓R55, eqL, eqS, f, z, Bool.false_and, w0, w1, w2, w3, n0, t0, w4, w5, w, ↓RnP, RnQ, Nat.reduceEqDiff, Nat.reduceAdd, Nat.reduceMul, Nat.reduceSub, Nat.reduceLT, Nat.reduceLeDiff, Nat.reduceBEq, Int.reduceLT, Int.reduceLE, reduceCtorEq, Int.reduceToNat, Int.reduceAdd, Int.reduceSub, Int.reduceMul]
  exact (by rw [show decide (RuleOK L W B S C R D T m) = false from decide_eq_false fun q => c6 q.2.2.2.2.2.2.1])
 have w6 := decide_eq_true c6
 by_cases c7 : 1 ≤ D ∧ D ≤ 4096
 rotate_left
 ·have w := decide_eq_false c7
  simp (disch := omega) only [c55, ↓R55, eqL, eqS, f, z, Bool.false_and, w0, w1, w2, w3, n0, t0, w4, w5, w6, w, ↓RnP, RnQ, Nat.reduceEqDiff, Nat.reduceAdd, Nat.reduceMul, Nat.reduceSub, Nat.reduceLT, Nat.reduceLeDiff, Nat.reduceBEq, Int.reduceLT, Int.reduceLE, reduceCtorEq, Int.reduceToNat, Int.reduceAdd, Int.reduceSub, Int.reduceMul]
  exact (by rw [show decide (RuleOK L W B S C R D T m) = false from decide_eq_false fun q => c7 q.2.2.2.2.2.2.2.1])
 have w7 := decide_eq_true c7
 by_cases c8 : 1 ≤ T ∧ T ≤ 64
 rotate_left
 ·have w := decide_eq_false c8
  simp (disch := omega) only [c55, ↓R55, eqL, eqS, f, z, Bool.false_and, w0, w1, w2, w3, n0, t0, w4, w5, w6, w7, w, ↓RnP, RnQ, Nat.reduceEqDiff, Nat.reduceAdd, Nat.reduceMul, Nat.reduceSub, Nat.reduceLT, Nat.reduceLeDiff, Nat.reduceBEq, Int.reduceLT, Int.reduceLE, reduceCtorEq, Int.reduceToNat, Int.reduceAdd, Int.reduceSub, Int.reduceMul]
  exact (by rw [show decide (RuleOK L W B S C R D T m) = false from decide_eq_false fun q => c8 q.2.2.2.2.2.2.2.2.1])
 have w8 := decide_eq_true c8
 have hD : 1 ≤ L + 1 - B := by omega
 have cr := ceilD_range W (L + 1 - B) c1.1 hD
 have g1 := fun h => ceil_ok h W (L + 1 - B) (by unfold I64; omega) (by omega) (by unfold I64; omega) hD
 have g2 := fun h => mul_ok h B (ceilD W (L + 1 - B)) (by unfold I64; omega) (by unfold I64; omega)
 have hp : 0 ≤ B * ceilD W (L + 1 - B) := Int.mul_nonneg (by omega) (by omega)
 have ends : ∀ b : Bool, (m = true → 2 ≤ S) → b = decide (B * ceilD W (L + 1 - B) ≤ 1152921504606846976) → (Value.bool b = .bool (decide (RuleOK L W B S C R D T m))) := fun b c9 hb => by
  rw [hb]; congr 1; rw [decide_eq_decide]; unfold RuleOK
  exact ⟨fun q => ⟨c0, c1, c2, c3, c4, c5, c6, c7, c8, c9, q⟩, fun q => q.2.2.2.2.2.2.2.2.2.2⟩
 cases m with
 | false =>
  have c9 : false = true → 2 ≤ S := fun h => absurd h Bool.false_ne_true
  by_cases ci : I64 (B * ceilD W (L + 1 - B))
  ·have wi := decide_eq_true ci
   have we := i64_conv _ ci
   simp (disch := omega) only [c55, ↓R55, eqL, eqS, f, z, Bool.false_and, w0, w1, w2, w3, n0, t0, w4, w5, w6, w7, w8, g1, g2, wi, we, ↓RnP, RnQ, Nat.reduceEqDiff, Nat.reduceAdd, Nat.reduceMul, Nat.reduceSub, Nat.reduceLT, Nat.reduceLeDiff, Nat.reduceBEq, Int.reduceLT, Int.reduceLE, reduceCtorEq, Int.reduceToNat, Int.reduceAdd, Int.reduceSub, Int.reduceMul]
   exact ends _ c9 rfl
  ·have wi := decide_eq_false ci
   simp (disch := omega) only [c55, ↓R55, eqL, eqS, f, z, Bool.false_and, w0, w1, w2, w3, n0, t0, w4, w5, w6, w7, w8, g1, g2, wi, ↓RnP, RnQ, Nat.reduceEqDiff, Nat.reduceAdd, Nat.reduceMul, Nat.reduceSub, Nat.reduceLT, Nat.reduceLeDiff, Nat.reduceBEq, Int.reduceLT, Int.reduceLE, reduceCtorEq, Int.reduceToNat, Int.reduceAdd, Int.reduceSub, Int.reduceMul]
   exact ends _ c9 (decide_eq_false (by unfold I64 at ci; omega)).symm
 | true =>
  by_cases cs : S < 2
  ·have c9 : ¬ (true = true → 2 ≤ S) := fun h => by have := h rfl; omega
   have w := decide_eq_true cs
   simp (disch := omega) only [c55, ↓R55, eqL, eqS, f, z, Bool.false_and, w0, w1, w2, w3, n0, t0, w4, w5, w6, w7, w8, w, ↓RnP, RnQ, Nat.reduceEqDiff, Nat.reduceAdd, Nat.reduceMul, Nat.reduceSub, Nat.reduceLT, Nat.reduceLeDiff, Nat.reduceBEq, Int.reduceLT, Int.reduceLE, reduceCtorEq, Int.reduceToNat, Int.reduceAdd, Int.reduceSub, Int.reduceMul]
   exact (by rw [show decide (RuleOK L W B S C R D T true) = false from decide_eq_false fun q => c9 q.2.2.2.2.2.2.2.2.2.1])
  ·have c9 : true = true → 2 ≤ S := fun _ => by omega
   have ws := decide_eq_false cs
   by_cases ci : I64 (B * ceilD W (L + 1 - B))
   ·have wi := decide_eq_true ci
    have we := i64_conv _ ci
    simp (disch := omega) only [c55, ↓R55, eqL, eqS, f, z, Bool.false_and, w0, w1, w2, w3, n0, t0, w4, w5, w6, w7, w8, ws, g1, g2, wi, we, ↓RnP, RnQ, Nat.reduceEqDiff, Nat.reduceAdd, Nat.reduceMul, Nat.reduceSub, Nat.reduceLT, Nat.reduceLeDiff, Nat.reduceBEq, Int.reduceLT, Int.reduceLE, reduceCtorEq, Int.reduceToNat, Int.reduceAdd, Int.reduceSub, Int.reduceMul]
    exact ends _ c9 rfl
   ·have wi := decide_eq_false ci
    simp (disch := omega) only [c55, ↓R55, eqL, eqS, f, z, Bool.false_and, w0, w1, w2, w3, n0, t0, w4, w5, w6, w7, w8, ws, g1, g2, wi, ↓RnP, RnQ, Nat.reduceEqDiff, Nat.reduceAdd, Nat.reduceMul, Nat.reduceSub, Nat.reduceLT, Nat.reduceLeDiff, Nat.reduceBEq, Int.reduceLT, Int.reduceLE, reduceCtorEq, Int.reduceToNat, Int.reduceAdd, Int.reduceSub, Int.reduceMul]
    exact ends _ c9 (decide_eq_false (by unfold I64 at ci; omega)).symm
end Go.Proofs.YtlakhgibjfmjjaaGreat.Can
namespace Go.Proofs.YtlakhgibjfmjjaaGreat.Can
open Go
attribute [local congr] RunR_congr RunC_congr afterR_congr guardR_congr condQ_congr CALL_congr finQ_congr op_congr opg_congr
def ruleBytes (S C R D T : Int) : Int := C * 69 + 4 * (2 * C + 1) + 32 * C + (S + 1) * (16 + 8 * (R * D)) + (T * 69 + 4 * (2 * T + 1) + 24 * T) + 24 * (R + 1)
structure Small (S C R D T : Int) : Prop where
 s : 1 ≤ S ∧ S ≤ 64
 c : 1 ≤ C ∧ C ≤ 1024
 r : 1 ≤ R ∧ R ≤ 8
 d : 1 ≤ D ∧ D ≤ 4096
 t : 1 ≤ T ∧ T ≤ 64
theorem Small.of {L W B S C R D T : Int} {m : Bool} (h : RuleOK L W B S C R D T m) : Small S C R D T := by
 obtain ⟨_, _, _, h4, _, h6, h7, h8, h9, _⟩ := h
 exact ⟨h4, h6, h7, h8, h9⟩
theorem Small.bounds {S C R D T : Int} (h : Small S C R D T) : (0 ≤ R * D ∧ R * D ≤ 32768) ∧ (0 ≤ (S + 1) * (16 + 8 * (R * D)) ∧ (S + 1) * (16 + 8 * (R * D)) ≤ 17040400) := by
 obtain ⟨s, c, r, d, t⟩ := h
 have p0 : 0 ≤ R * D := Int.mul_nonneg (by omega) (by omega)
 have p1 : R * D ≤ 8 * 4096 := Int.mul_le_mul r.2 d.2 (by omega) (by omega)
 have q0 : 0 ≤ (S + 1) * (16 + 8 * (R * D)) := Int.mul_nonneg (by omega) (by omega)
 have q1 : (S + 1) * (16 + 8 * (R * D)) ≤ 65 * 262160 := Int.mul_le_mul (by omega) (by omega) (by omega) (by omega)
 omega
theorem ruleBytes_range {S C R D T : Int} (h : Small S C R D T) : 0 ≤ ruleBytes S C R D T ∧ ruleBytes S C R D T ≤ 20000000 := by
 obtain ⟨⟨p0, p1⟩, q0, q1⟩ := h.bounds
 obtain ⟨s, c, r, d, t⟩ := h
 unfold ruleBytes; omega
theorem kbytes_ok (h : Heap) (n : Int) (Q : Value → Heap → Prop) : CALL cp 96 [.int .i64 n] h Q ↔ Q (.int .i64 (IntKind.i64.wrap (n * 69))) h := by
 refine CALL_det ?_ Q
 rw [CALL_enter cp cp96]
 simp (disch := omega) only [c96, ↓R96, ↓RnP, RnQ, Nat.reduceEqDiff, Nat.reduceAdd, Nat.reduceMul, Nat.reduceSub, Nat.reduceLT, Nat.reduceLeDiff, Nat.reduceBEq, Int.reduceLT, Int.reduceLE, reduceCtorEq, Int.reduceToNat, Int.reduceAdd, Int.reduceSub, Int.reduceMul]
theorem isize_ok (h : Heap) (n : Int) (hn : 0 ≤ n ∧ n ≤ 100000) (Q : Value → Heap → Prop) : CALL cp 99 [.int .i64 n] h Q ↔ Q (.int .i64 (2 * n + 1)) h := by
 refine CALL_det ?_ Q
 rw [CALL_enter cp cp99]
 simp (disch := omega) only [c99, ↓R99, ↓RnP, RnQ, Nat.reduceEqDiff, Nat.reduceAdd, Nat.reduceMul, Nat.reduceSub, Nat.reduceLT, Nat.reduceLeDiff, Nat.reduceBEq, Int.reduceLT, Int.reduceLE, reduceCtorEq, Int.reduceToNat, Int.reduceAdd, Int.reduceSub, Int.reduceMul]
theorem ibytes_ok (h : Heap) (n : Int) (hn : 0 ≤ n ∧ n ≤ 100000) (Q : Value → Heap → Prop) : CALL cp 97 [.int .i64 n] h Q ↔ Q (.int .i64 (4 * (2 * n + 1))) h := by
 refine CALL_det ?_ Q
 rw [CALL_enter cp cp97]
 have f := fun h => isize_ok h n hn
 simp (disch := omega) only [c97, ↓R97, f, ↓RnP, RnQ, Nat.reduceEqDiff, Nat.reduceAdd, Nat.reduceMul, Nat.reduceSub, Nat.reduceLT, Nat.reduceLeDiff, Nat.reduceBEq, Int.reduceLT, Int.reduceLE, reduceCtorEq, Int.reduceToNat, Int.reduceAdd, Int.reduceSub, Int.reduceMul]
theorem sbytes_ok (h : Heap) (R D : Int) (hr : 1 ≤ R ∧ R ≤ 8) (hp : 0 ≤ R * D ∧ R * D ≤ 32768) (Q : Value → Heap → Prop) : CALL cp 98 [.int .i64 R, .int .i64 D] h Q ↔ Q (.int .i64 (8 * (R * D))) h := by
 refine CALL_det ?_ Q
 rw [CALL_enter cp cp98]
 have h8 : 8 * R * D = 8 * (R * D) := Int.mul_assoc _ _ _
 simp (disch := omega) only [c98, ↓R98, h8, ↓RnP, RnQ, Nat.reduceEqDiff, Nat.reduceAdd, Nat.reduceMul, Nat.reduceSub, Nat.reduceLT, Nat.reduceLeDiff, Nat.reduceBEq, Int.reduceLT, Int.reduceLE, reduceCtorEq, Int.reduceToNat, Int.reduceAdd, Int.reduceSub, Int.reduceMul]
theorem pbytes_ok (h : Heap) (n : Int) (hn : 0 ≤ n ∧ n ≤ 100000) (Q : Value → Heap → Prop) : CALL cp 86 [.int .i64 n] h Q ↔ Q (.int .i64 (n * 69 + 4 * (2 * n + 1) + 32 * n)) h := by
 refine CALL_det ?_ Q
 rw [CALL_enter cp cp86]
 have f := fun h => ibytes_ok h n hn
 simp (disch := omega) only [c86, ↓R86, f, kbytes_ok, ↓RnP, RnQ, Nat.reduceEqDiff, Nat.reduceAdd, Nat.reduceMul, Nat.reduceSub, Nat.reduceLT, Nat.reduceLeDiff, Nat.reduceBEq, Int.reduceLT, Int.reduceLE, reduceCtorEq, Int.reduceToNat, Int.reduceAdd, Int.reduceSub, Int.reduceMul]
theorem sumbytes_ok (h : Heap) (n : Int) (hn : 0 ≤ n ∧ n ≤ 100000) (Q : Value → Heap → Prop) : CALL cp 88 [.int .i64 n] h Q ↔ Q (.int .i64 (n * 69 + 4 * (2 * n + 1) + n * 24)) h := by
 refine CALL_det ?_ Q
 rw [CALL_enter cp cp88]
 have f := fun h => ibytes_ok h n hn
 simp (disch := omega) only [c88, ↓R88, f, kbytes_ok, ↓RnP, RnQ, Nat.reduceEqDiff, Nat.reduceAdd, Nat.reduceMul, Nat.reduceSub, Nat.reduceLT, Nat.reduceLeDiff, Nat.reduceBEq, Int.reduceLT, Int.reduceLE, reduceCtorEq, Int.reduceToNat, Int.reduceAdd, Int.reduceSub, Int.reduceMul]
theorem rbytes_ok (h : Heap) (L W B S C R D T : Int) (m : Bool) (hs : Small S C R D T) (Q : Value → Heap → Prop) :
  CALL cp 87 [.agg #[.int .i64 L, .int .i64 W, .int .i64 B, .int .i64 S, .int .i64 C, .int .i64 R, .int .i64 D, .int .i64 T, .bool m]] h Q ↔ Q (.int .i64 ((S + 1) * (16 + 8 * (R * D)))) (h.new (.cells (rc L W B S C R D T m) 34 .fix)) := by
 refine CALL_det ?_ Q
 rw [CALL_enter cp cp87]
 obtain ⟨⟨p0, p1⟩, q0, q1⟩ := hs.bounds
 obtain ⟨s, c, r, d, t⟩ := hs
 have f := fun h => sbytes_ok h R D r ⟨p0, p1⟩
 simp (disch := omega) only [c87, ↓R87, f, ↓RnP, RnQ, Nat.reduceEqDiff, Nat.reduceAdd, Nat.reduceMul, Nat.reduceSub, Nat.reduceLT, Nat.reduceLeDiff, Nat.reduceBEq, Int.reduceLT, Int.reduceLE, reduceCtorEq, Int.reduceToNat, Int.reduceAdd, Int.reduceSub, Int.reduceMul]
theorem limBytes_ok (h : Heap) (L W B S C R D T : Int) (m : Bool) (hs : Small S C R D T) (Q : Value → Heap → Prop) :
  CALL cp 76 [.agg #[.int .i64 L, .int .i64 W, .int .i64 B, .int .i64 S, .int .i64 C, .int .i64 R, .int .i64 D, .int .i64 T, .bool m]] h Q ↔ Q (.int .i64 (ruleBytes S C R D T)) ((h.new (.cells (rc L W B S C R D T m) 34 .fix)).new (.cells (rc L W B S C R D T m) 34 .fix)) := by
 refine CALL_det ?_ Q
 rw [CALL_enter cp cp76]
 obtain ⟨⟨p0, p1⟩, q0, q1⟩ := hs.bounds
 have f1 := fun h => rbytes_ok h L W B S C R D T m hs
 obtain ⟨s, c, r, d, t⟩ := hs
 have f2 := fun h => pbytes_ok h C (by omega)
 have f3 := fun h => sumbytes_ok h T (by omega)
 simp (disch := omega) only [c76, ↓R76, f1, f2, f3, ↓RnP, RnQ, Nat.reduceEqDiff, Nat.reduceAdd, Nat.reduceMul, Nat.reduceSub, Nat.reduceLT, Nat.reduceLeDiff, Nat.reduceBEq, Int.reduceLT, Int.reduceLE, reduceCtorEq, Int.reduceToNat, Int.reduceAdd, Int.reduceSub, Int.reduceMul]
 congr 1
 unfold ruleBytes
 omega
end Go.Proofs.YtlakhgibjfmjjaaGreat.Can
namespace Go.Proofs.YtlakhgibjfmjjaaGreat.Can
open Go
attribute [local congr] RunR_congr RunC_congr afterR_congr guardR_congr condQ_congr CALL_congr finQ_congr op_congr opg_congr
abbrev RuleT := Int × Int × Int × Int × Int × Int × Int × Int × Bool
abbrev RE : Enc RuleT := Enc.pair (Enc.int .i64) (Enc.pair (Enc.int .i64) (Enc.pair (Enc.int .i64) (Enc.pair (Enc.int .i64) (Enc.pair (Enc.int .i64) (Enc.pair (Enc.int .i64) (Enc.pair (Enc.int .i64) (Enc.pair (Enc.int .i64) Enc.bool)))))))
def RuleT.OK (r : RuleT) : Prop := RuleOK r.1 r.2.1 r.2.2.1 r.2.2.2.1 r.2.2.2.2.1 r.2.2.2.2.2.1 r.2.2.2.2.2.2.1 r.2.2.2.2.2.2.2.1 r.2.2.2.2.2.2.2.2
def RuleT.T (r : RuleT) : Int := r.2.2.2.2.2.2.2.1
def RuleT.Sm (r : RuleT) : Prop := Small r.2.2.2.1 r.2.2.2.2.1 r.2.2.2.2.2.1 r.2.2.2.2.2.2.1 r.2.2.2.2.2.2.2.1
def RuleT.by_ (r : RuleT) : Int := ruleBytes r.2.2.2.1 r.2.2.2.2.1 r.2.2.2.2.2.1 r.2.2.2.2.2.2.1 r.2.2.2.2.2.2.2.1
instance (r : RuleT) : Decidable r.OK := by unfold RuleT.OK; infer_instance
theorem RuleT.OK.sm {r : RuleT} (h : r.OK) : r.Sm := Small.of h
def sumB : List RuleT → Int
 | [] => 0
 | r :: l => r.by_ + sumB l
theorem sumB_app : ∀ (l m : List RuleT), sumB (l ++ m) = sumB l + sumB m
 | [], m => by simp [sumB]
 | r :: l, m => by simp only [List.cons_append, sumB, sumB_app l m]; omega
theorem sumB_range : ∀ (l : List RuleT), (∀ r ∈ l, r.Sm) → 0 ≤ sumB l ∧ sumB l ≤ 20000000 * l.length
 | [], _ => by simp [sumB]
 | r :: l, h => by
  have h1 := sumB_range l fun x hx => h x (List.mem_cons_of_mem _ hx)
  have h2 := ruleBytes_range (h r List.mem_cons_self)
  simp only [sumB, List.length_cons]
  have : r.by_ = ruleBytes r.2.2.2.1 r.2.2.2.2.1 r.2.2.2.2.2.1 r.2.2.2.2.2.2.1 r.2.2.2.2.2.2.2.1 := rfl
  rw [this]; omega
def mo : Int → List RuleT → Int
 | n, [] => n
 | n, r :: l => mo (max n (max 46 (7 + 81 * r.T))) l
theorem mo_app : ∀ (l m : List RuleT) (n : Int), mo n (l ++ m) = mo (mo n l) m
 | [], m, n => rfl
 | r :: l, m, n => mo_app l m _
theorem mo_max : ∀ (l : List RuleT) (n k : Int), mo (max n k) l = max (mo n l) k
 | [], n, k => rfl
 | r :: l, n, k => by
  show mo (max (max n k) (max 46 (7 + 81 * r.T))) l = _
  rw [show max (max n k) (max 46 (7 + 81 * r.T)) = max (max n (max 46 (7 + 81 * r.T))) k by omega, mo_max l]
  rfl
theorem mo_start (l : List RuleT) (n : Int) (hn : n ≤ 46) (hl : l ≠ []) : mo n l = mo 0 l := by
 cases l with
 | nil => exact absurd rfl hl
 | cons r l => show mo (max n (max 46 (7 + 81 * r.T))) l = mo (max 0 (max 46 (7 + 81 * r.T))) l; congr 1; omega
theorem mo_le (l : List RuleT) (n k : Int) : mo n l ≤ k ↔ n ≤ k ∧ (l = [] ∨ 46 ≤ k) ∧ ∀ r ∈ l, 7 + 81 * r.T ≤ k := by
 induction l generalizing n with
 | nil => simp [mo]
 | cons r l ih =>
  show mo (max n (max 46 (7 + 81 * r.T))) l ≤ k ↔ _
  rw [ih]
  constructor
  ·rintro ⟨h1, h2, h3⟩
   exact ⟨by omega, .inr (by omega), fun x hx => by
    rcases List.mem_cons.1 hx with rfl | hx
    ·omega
    ·exact h3 x hx⟩
  ·rintro ⟨h1, h2, h3⟩
   have h4 := h3 r List.mem_cons_self
   have h5 : 46 ≤ k := h2.resolve_left (by simp)
   exact ⟨by omega, .inr h5, fun x hx => h3 x (List.mem_cons_of_mem _ hx)⟩
theorem mo_range (l : List RuleT) (n : Int) (h : ∀ r ∈ l, r.Sm) : n ≤ mo n l ∧ (n ≤ 10000 → mo n l ≤ 10000) := by
 induction l generalizing n with
 | nil => exact ⟨Int.le_refl _, fun h => h⟩
 | cons r l ih =>
  have h1 := ih (max n (max 46 (7 + 81 * r.T))) fun x hx => h x (List.mem_cons_of_mem _ hx)
  have h2 : 1 ≤ r.T ∧ r.T ≤ 64 := (h r List.mem_cons_self).t
  show n ≤ mo (max n (max 46 (7 + 81 * r.T))) l ∧ (n ≤ 10000 → mo (max n (max 46 (7 + 81 * r.T))) l ≤ 10000)
  exact ⟨by omega, fun h => h1.2 (by omega)⟩
theorem rd9 {ob : Obj} {o : Nat} {L W B S C R D T : Int} {m : Bool} (h : ob.read o 9 = some (rc L W B S C R D T m)) : ob.read o 9 = some (rc L W B S C R D T m) := h
theorem cbytes_ok (h : Heap) (n : Int) (hn : I64 n) (Q : Value → Heap → Prop) : CALL cp 75 [.int .i64 n] h Q ↔ Q (.int .i64 n) h := by
 refine CALL_det ?_ Q
 rw [CALL_enter cp cp75]
 simp (disch := omega) only [c75, ↓R75, ↓RnP, RnQ, Nat.reduceEqDiff, Nat.reduceAdd, Nat.reduceMul, Nat.reduceSub, Nat.reduceLT, Nat.reduceLeDiff, Nat.reduceBEq, Int.reduceLT, Int.reduceLE, reduceCtorEq, Int.reduceToNat, Int.reduceAdd, Int.reduceSub, Int.reduceMul]
theorem foot_ok (h : Heap) (bu co ou : Int) (v : Value) (l : List RuleT) (s : Lst h RE v l) (hl : l.length ≤ 100) (hco : 1 ≤ co ∧ co ≤ 16) (hou : 0 ≤ ou ∧ ou ≤ 65536) (hsm : ∀ r ∈ l, r.Sm) {Q : Value → Heap → Prop}
  (hQ : ∀ h', Old h h' → Q (.int .i64 (co * ou + sumB l)) h') : CALL cp 57 [.agg #[.int .i64 bu, .int .i64 co, .int .i64 ou, v]] h Q := by
 rw [CALL_enter cp cp57]
 have p0 : 0 ≤ co * ou := Int.mul_nonneg (by omega) (by omega)
 have p1 : co * ou ≤ 16 * 65536 := Int.mul_le_mul hco.2 hou.2 (by omega) (by omega)
 have f1 := fun h => cbytes_ok h ou (by unfold I64; omega)
 obtain ⟨a, cap, rfl, hrd⟩ := s
 simp (disch := omega) only [c57, ↓R57, f1, ↓RnP, RnQ, Nat.reduceEqDiff, Nat.reduceAdd, Nat.reduceMul, Nat.reduceSub, Nat.reduceLT, Nat.reduceLeDiff, Nat.reduceBEq, Int.reduceLT, Int.reduceLE, reduceCtorEq, Int.reduceToNat, Int.reduceAdd, Int.reduceSub, Int.reduceMul]
 refine RunC_loop cp c57_l0 _ (fun d e hh => ∃ j, j + d = l.length ∧ Old h hh ∧ e 3 = .int .i64 (co * ou + sumB (l.take j)) ∧ e 13 = .slice a l.length cap ∧ e 14 = .int .i64 l.length ∧ e 15 = .int .i64 j) ?_ l.length _ _
  ⟨0, by omega, (Old.refl h).more _, by simp [sumB, Env.upd], rfl, rfl, rfl⟩
 rintro d e hh ⟨j, hj, old, i3, i13, i14, i15⟩
 by_cases hjl : j < l.length
 ·have b1 : decide ((j : Int) < l.length) = true := decide_eq_true (by omega)
  have hx : l[j]? = some l[j] := List.getElem?_eq_getElem hjl
  have hmem : l[j] ∈ l := List.getElem_mem hjl
  obtain ⟨b, o, rfl, hb, hr⟩ := hrd j l[j] hx
  rw [← old.obj b hb] at hr
  have ht := take_get hx
  have hs := sumB_range (l.take j) fun r hr => hsm r (List.mem_of_mem_take hr)
  have hlen : (l.take j).length ≤ 100 := by rw [List.length_take]; omega
  have hsr := hsm _ hmem
  have hbr := ruleBytes_range hsr
  have hsum : sumB (l.take (j + 1)) = sumB (l.take j) + (l[j]).by_ := by rw [ht, sumB_app]; simp [sumB]
  generalize l[j] = x at hr hsum hsr hbr
  obtain ⟨L, W, B, S, C, R, D, T, m⟩ := x
  have hr : (hh.obj b).read (o + j * 9) 9 = some (rc L W B S C R D T m) := hr
  have hsum : sumB (l.take (j + 1)) = sumB (l.take j) + ruleBytes S C R D T := hsum
  have hbr : 0 ≤ ruleBytes S C R D T ∧ ruleBytes S C R D T ≤ 20000000 := hbr
  have f2 := fun h => limBytes_ok h L W B S C R D T m hsr
  have w1 : IntKind.i64.wrap (co * ou + sumB (l.take j) + ruleBytes S C R D T) = co * ou + sumB (l.take (j + 1)) := by rw [hsum, wrap_i64] <;> omega
  simp (disch := omega) only [c57_l0, c57, ↓R57, i3, i13, i14, i15, b1, hr, f2, w1, ↓RnP, RnQ, Nat.reduceEqDiff, Nat.reduceAdd, Nat.reduceMul, Nat.reduceSub, Nat.reduceLT, Nat.reduceLeDiff, Nat.reduceBEq, Int.reduceLT, Int.reduceLE, reduceCtorEq, Int.reduceToNat, Int.reduceAdd, Int.reduceSub, Int.reduceMul]
  exact ⟨d - 1, by omega, j + 1, by omega, ((old.put _ _).more _).more _, rfl, rfl⟩
 ·have b1 : decide ((j : Int) < l.length) = false := decide_eq_false (by omega)
  obtain rfl : j = l.length := by omega
  rw [List.take_length] at i3
  simp (disch := omega) only [c57_l0, c57, ↓R57, i3, i13, i14, i15, b1, ↓RnP, RnQ, Nat.reduceEqDiff, Nat.reduceAdd, Nat.reduceMul, Nat.reduceSub, Nat.reduceLT, Nat.reduceLeDiff, Nat.reduceBEq, Int.reduceLT, Int.reduceLE, reduceCtorEq, Int.reduceToNat, Int.reduceAdd, Int.reduceSub, Int.reduceMul]
  exact hQ _ old
def largest (op k t : Int) : Int := if op = 3 then 46 else if op = 4 then 7 + min (max k 1) t * 81 else 22
theorem largest_ok (h : Heap) (op ru co : Int) (key : ByteArray) (k t : Int) (ht : 1 ≤ t ∧ t ≤ 64) (Q : Value → Heap → Prop) :
  CALL cp 74 [.agg #[.int .i64 op, .int .i64 ru, .int .u32 co, .string key, .int .i64 k], .int .i64 t] h Q ↔ Q (.int .i64 (largest op k t)) (h.new (.cells [.int .i64 op, .int .i64 ru, .int .u32 co, .string key, .int .i64 k] 61 .fix)) := by
 refine CALL_det ?_ Q
 rw [CALL_enter cp cp74]
 unfold largest
 by_cases h3 : op = 3
 ·have a1 : (op == 3) = true := beq_iff_eq.2 h3
  rw [if_pos h3]
  simp (disch := omega) only [c74, ↓R74, a1, ↓RnP, RnQ, Nat.reduceEqDiff, Nat.reduceAdd, Nat.reduceMul, Nat.reduceSub, Nat.reduceLT, Nat.reduceLeDiff, Nat.reduceBEq, Int.reduceLT, Int.reduceLE, reduceCtorEq, Int.reduceToNat, Int.reduceAdd, Int.reduceSub, Int.reduceMul]
 ·have a1 : (op == 3) = false := beq_eq_false_iff_ne.2 h3
  by_cases h4 : op = 4
  ·have a2 : (op == 4) = true := beq_iff_eq.2 h4
   rw [if_neg h3, if_pos h4]
   simp (disch := omega) only [c74, ↓R74, a1, a2, minmaxL, minmax2, if_max, if_min, ↓RnP, RnQ, Nat.reduceEqDiff, Nat.reduceAdd, Nat.reduceMul, Nat.reduceSub, Nat.reduceLT, Nat.reduceLeDiff, Nat.reduceBEq, Int.reduceLT, Int.reduceLE, reduceCtorEq, Int.reduceToNat, Int.reduceAdd, Int.reduceSub, Int.reduceMul]
  ·have a2 : (op == 4) = false := beq_eq_false_iff_ne.2 h4
   rw [if_neg h3, if_neg h4]
   simp (disch := omega) only [c74, ↓R74, a1, a2, ↓RnP, RnQ, Nat.reduceEqDiff, Nat.reduceAdd, Nat.reduceMul, Nat.reduceSub, Nat.reduceLT, Nat.reduceLeDiff, Nat.reduceBEq, Int.reduceLT, Int.reduceLE, reduceCtorEq, Int.reduceToNat, Int.reduceAdd, Int.reduceSub, Int.reduceMul]
theorem most_step (n T : Int) (hT : 1 ≤ T) : max (max (max n 22) 46) (7 + min (max T 1) T * 81) = max n (max 46 (7 + 81 * T)) := by omega
theorem most_ok (h : Heap) (bu co ou : Int) (v : Value) (l : List RuleT) (s : Lst h RE v l) (hl : l.length ≤ 100) (hsm : ∀ r ∈ l, r.Sm) {Q : Value → Heap → Prop}
  (hQ : ∀ h', Old h h' → Q (.int .i64 (mo 6 l)) h') : CALL cp 56 [.agg #[.int .i64 bu, .int .i64 co, .int .i64 ou, v]] h Q := by
 rw [CALL_enter cp cp56]
 obtain ⟨a, cap, rfl, hrd⟩ := s
 simp (disch := omega) only [c56, ↓R56, ↓RnP, RnQ, Nat.reduceEqDiff, Nat.reduceAdd, Nat.reduceMul, Nat.reduceSub, Nat.reduceLT, Nat.reduceLeDiff, Nat.reduceBEq, Int.reduceLT, Int.reduceLE, reduceCtorEq, Int.reduceToNat, Int.reduceAdd, Int.reduceSub, Int.reduceMul]
 refine RunC_loop cp c56_l1 _ (fun d e hh => ∃ j, j + d = l.length ∧ Old h hh ∧ e 3 = .int .i64 (mo 6 (l.take j)) ∧ e 9 = .slice a l.length cap ∧ e 10 = .int .i64 l.length ∧ e 11 = .int .i64 j) ?_ l.length _ _
  (by refine ⟨0, by omega, (Old.refl h).more _, ?_, ?_, ?_, ?_⟩ <;> rfl)
 rintro d e hh ⟨j, hj, old, i3, i9, i10, i11⟩
 by_cases hjl : j < l.length
 ·have b1 : decide ((j : Int) < l.length) = true := decide_eq_true (by omega)
  have hx : l[j]? = some l[j] := List.getElem?_eq_getElem hjl
  have hmem : l[j] ∈ l := List.getElem_mem hjl
  obtain ⟨b, o, rfl, hb, hr⟩ := hrd j l[j] hx
  rw [← old.obj b hb] at hr
  have ht := take_get hx
  have hsr := hsm _ hmem
  have hsum : mo 6 (l.take (j + 1)) = max (mo 6 (l.take j)) (max 46 (7 + 81 * (l[j]).T)) := by rw [ht, mo_app]; rfl
  generalize l[j] = x at hr hsum hsr
  obtain ⟨L, W, B, S, C, R, D, T, m⟩ := x
  have hr : (hh.obj b).read (o + j * 9) 9 = some (rc L W B S C R D T m) := hr
  have hT : 1 ≤ T ∧ T ≤ 64 := hsr.t
  have hsum : mo 6 (l.take (j + 1)) = max (mo 6 (l.take j)) (max 46 (7 + 81 * T)) := hsum
  have f1 := fun h op => largest_ok h op 0 0 ⟨#[]⟩ T T hT
  have l1 : largest 1 T T = 22 := rfl
  have l3 : largest 3 T T = 46 := rfl
  have l4 : largest 4 T T = 7 + min (max T 1) T * 81 := rfl
  have n1 : (1 : Int) + 1 = 2 := rfl
  have n2 : (2 : Int) + 1 = 3 := rfl
  simp (disch := omega) only [c56_l1, c56, ↓R56, i3, i9, i10, i11, b1, hr, ↓RnP, RnQ, Nat.reduceEqDiff, Nat.reduceAdd, Nat.reduceMul, Nat.reduceSub, Nat.reduceLT, Nat.reduceLeDiff, Nat.reduceBEq, Int.reduceLT, Int.reduceLE, reduceCtorEq, Int.reduceToNat, Int.reduceAdd, Int.reduceSub, Int.reduceMul]
  refine RunC_unroll cp _ _ _ _ ?_
  simp (disch := first | omega | (simp only [next_new, next_upd, ne_eq]; omega)) only [c56_l0, c56, ↓R56, i3, f1, l1, minmaxL, minmax2, if_max, if_min, ↓RnP, RnQ, Nat.reduceEqDiff, Nat.reduceAdd, Nat.reduceMul, Nat.reduceSub, Nat.reduceLT, Nat.reduceLeDiff, Nat.reduceBEq, Int.reduceLT, Int.reduceLE, reduceCtorEq, Int.reduceToNat, Int.reduceAdd, Int.reduceSub, Int.reduceMul]
  refine RunC_unroll cp _ _ _ _ ?_
  simp (disch := first | omega | (simp only [next_new, next_upd, ne_eq]; omega)) only [c56, ↓R56, i3, f1, l3, minmaxL, minmax2, if_max, if_min, ↓RnP, RnQ, Nat.reduceEqDiff, Nat.reduceAdd, Nat.reduceMul, Nat.reduceSub, Nat.reduceLT, Nat.reduceLeDiff, Nat.reduceBEq, Int.reduceLT, Int.reduceLE, reduceCtorEq, Int.reduceToNat, Int.reduceAdd, Int.reduceSub, Int.reduceMul]
  refine RunC_unroll cp _ _ _ _ ?_
  simp (disch := first | omega | (simp only [next_new, next_upd, ne_eq]; omega)) only [c56, ↓R56, i3, f1, l4, minmaxL, minmax2, if_max, if_min, ↓RnP, RnQ, Nat.reduceEqDiff, Nat.reduceAdd, Nat.reduceMul, Nat.reduceSub, Nat.reduceLT, Nat.reduceLeDiff, Nat.reduceBEq, Int.reduceLT, Int.reduceLE, reduceCtorEq, Int.reduceToNat, Int.reduceAdd, Int.reduceSub, Int.reduceMul]
  refine RunC_unroll cp _ _ _ _ ?_
  simp (disch := first | omega | (simp only [next_new, next_upd, ne_eq]; omega)) only [c56, ↓R56, i3, i11, ↓RnP, RnQ, Nat.reduceEqDiff, Nat.reduceAdd, Nat.reduceMul, Nat.reduceSub, Nat.reduceLT, Nat.reduceLeDiff, Nat.reduceBEq, Int.reduceLT, Int.reduceLE, reduceCtorEq, Int.reduceToNat, Int.reduceAdd, Int.reduceSub, Int.reduceMul]
  exact ⟨d - 1, by omega, j + 1, by omega, (((old.put _ _).more _).more _).more _, by rw [hsum, most_step _ _ hT.1], i9, i10, rfl⟩
 ·have b1 : decide ((j : Int) < l.length) = false := decide_eq_false (by omega)
  obtain rfl : j = l.length := by omega
  rw [List.take_length] at i3
  simp (disch := omega) only [c56_l1, c56, ↓R56, i3, i9, i10, i11, b1, ↓RnP, RnQ, Nat.reduceEqDiff, Nat.reduceAdd, Nat.reduceMul, Nat.reduceSub, Nat.reduceLT, Nat.reduceLeDiff, Nat.reduceBEq, Int.reduceLT, Int.reduceLE, reduceCtorEq, Int.reduceToNat, Int.reduceAdd, Int.reduceSub, Int.reduceMul]
  exact hQ _ old
def CfgOK (bu co ou : Int) (l : List RuleT) : Prop := (1 ≤ co ∧ co ≤ 16) ∧ (1 ≤ (l.length : Int) ∧ (l.length : Int) ≤ 8) ∧ (1 ≤ bu ∧ bu ≤ 4294967296) ∧ (46 ≤ ou ∧ ou ≤ 65536) ∧ (∀ r ∈ l, r.OK ∧ 7 + 81 * r.T ≤ ou) ∧ co * ou + sumB l ≤ bu
instance (bu co ou : Int) (l : List RuleT) : Decidable (CfgOK bu co ou l) := by unfold CfgOK; infer_instance
abbrev cfgc (bu co ou : Int) (v : Value) : List Value := [.int .i64 bu, .int .i64 co, .int .i64 ou, v]
end Go.Proofs.YtlakhgibjfmjjaaGreat.Can
namespace Go.Proofs.YtlakhgibjfmjjaaGreat.Can
open Go
attribute [local congr] RunR_congr RunC_congr afterR_congr guardR_congr condQ_congr CALL_congr finQ_congr op_congr opg_congr
set_option maxHeartbeats 2000000 in
theorem right_ok (h : Heap) (bu co ou : Int) (v : Value) (l : List RuleT) (s : Lst h RE v l) (hl : l.length ≤ 100) {Q : Value → Heap → Prop}
  (hQ : ∀ h', Old h h' → Q (.bool (decide (CfgOK bu co ou l))) h') : CALL cp 31 [.agg #[.int .i64 bu, .int .i64 co, .int .i64 ou, v]] h Q := by
 rw [CALL_enter cp cp31]
 have no : ¬ CfgOK bu co ou l → ∀ h', Old h h' → Q (.bool false) h' := fun hn h' o => by
  have := hQ h' o
  rwa [decide_eq_false hn] at this
 have s0 := s
 obtain ⟨a, cap, rfl, hrd⟩ := s
 have old1 : Old h (h.new (.cells (cfgc bu co ou (.slice a l.length cap)) 30 .fix)) := (Old.refl h).more _
 have f := within_ok (h.new (.cells (cfgc bu co ou (.slice a l.length cap)) 30 .fix))
 by_cases c0 : 1 ≤ co ∧ co ≤ 16
 rotate_left
 ·have w := decide_eq_false c0
  simp (disch := omega) only [c31, ↓R31, f, w, ↓RnP, RnQ, Nat.reduceEqDiff, Nat.reduceAdd, Nat.reduceMul, Nat.reduceSub, Nat.reduceLT, Nat.reduceLeDiff, Nat.reduceBEq, Int.reduceLT, Int.reduceLE, reduceCtorEq, Int.reduceToNat, Int.reduceAdd, Int.reduceSub, Int.reduceMul]
  exact no (fun q => c0 q.1) _ old1
 have w0 := decide_eq_true c0
 by_cases c1 : 1 ≤ (l.length : Int) ∧ (l.length : Int) ≤ 8
 rotate_left
 ·have w := decide_eq_false c1
  simp (disch := omega) only [c31, ↓R31, f, w0, w, ↓RnP, RnQ, Nat.reduceEqDiff, Nat.reduceAdd, Nat.reduceMul, Nat.reduceSub, Nat.reduceLT, Nat.reduceLeDiff, Nat.reduceBEq, Int.reduceLT, Int.reduceLE, reduceCtorEq, Int.reduceToNat, Int.reduceAdd, Int.reduceSub, Int.reduceMul]
  exact no (fun q => c1 q.2.1) _ old1
 have w1 := decide_eq_true c1
 by_cases c2 : 1 ≤ bu ∧ bu ≤ 4294967296
 rotate_left
 ·have w := decide_eq_false c2
  simp (disch := omega) only [c31, ↓R31, f, w0, w1, w, ↓RnP, RnQ, Nat.reduceEqDiff, Nat.reduceAdd, Nat.reduceMul, Nat.reduceSub, Nat.reduceLT, Nat.reduceLeDiff, Nat.reduceBEq, Int.reduceLT, Int.reduceLE, reduceCtorEq, Int.reduceToNat, Int.reduceAdd, Int.reduceSub, Int.reduceMul]
  exact no (fun q => c2 q.2.2.1) _ old1
 have w2 := decide_eq_true c2
 by_cases c3 : ou > 65536
 ·have w := decide_eq_true c3
  simp (disch := omega) only [c31, ↓R31, f, w0, w1, w2, w, ↓RnP, RnQ, Nat.reduceEqDiff, Nat.reduceAdd, Nat.reduceMul, Nat.reduceSub, Nat.reduceLT, Nat.reduceLeDiff, Nat.reduceBEq, Int.reduceLT, Int.reduceLE, reduceCtorEq, Int.reduceToNat, Int.reduceAdd, Int.reduceSub, Int.reduceMul]
  exact no (fun q => by have := q.2.2.2.1; omega) _ old1
 have w3 := decide_eq_false c3
 simp (disch := omega) only [c31, ↓R31, f, w0, w1, w2, w3, ↓RnP, RnQ, Nat.reduceEqDiff, Nat.reduceAdd, Nat.reduceMul, Nat.reduceSub, Nat.reduceLT, Nat.reduceLeDiff, Nat.reduceBEq, Int.reduceLT, Int.reduceLE, reduceCtorEq, Int.reduceToNat, Int.reduceAdd, Int.reduceSub, Int.reduceMul]
 refine RunC_loop cp c31_l0 _ (fun d e hh => ∃ j, j + d = l.length ∧ Old (h.new (.cells (cfgc bu co ou (.slice a l.length cap)) 30 .fix)) hh ∧ (∀ r ∈ l.take j, r.OK) ∧ e 1 = .pointer (some ⟨h.next, 0, none⟩) ∧ e 28 = .slice a l.length cap ∧ e 29 = .int .i64 l.length ∧ e 30 = .int .i64 j) ?_ l.length _ _
  ⟨0, by omega, Old.refl _, fun r hr => by simp at hr, rfl, rfl, rfl, rfl⟩
 rintro d e hh ⟨j, hj, old, hok, i1, i28, i29, i30⟩
 have g0 : hh.obj h.next = .cells (cfgc bu co ou (.slice a l.length cap)) 30 .fix := (old.obj h.next (Nat.lt_succ_self _)).trans (obj_new_same _ _)
 have hn0 : h.next + 1 ≤ hh.next := old.next
 have oldh := old1.trans old
 by_cases hjl : j < l.length
 ·have b1 : decide ((j : Int) < l.length) = true := decide_eq_true (by omega)
  have hx : l[j]? = some l[j] := List.getElem?_eq_getElem hjl
  have hmem : l[j] ∈ l := List.getElem_mem hjl
  obtain ⟨b, o, rfl, hb, hr⟩ := hrd j l[j] hx
  rw [← oldh.obj b hb] at hr
  have ht := take_get hx
  have hall : (l[j]).OK → ∀ r ∈ l.take (j + 1), r.OK := fun q r hr => by
   rw [ht] at hr
   rcases List.mem_append.1 hr with hr | hr
   ·exact hok r hr
   ·obtain rfl := List.mem_singleton.1 hr; exact q
  generalize l[j] = x at hr hmem hall
  obtain ⟨L, W, B, S, C, R, D, T, m⟩ := x
  have hr : (hh.obj b).read (o + j * 9) 9 = some (rc L W B S C R D T m) := hr
  have f3 := fun h => ruleRight_ok h L W B S C R D T m
  by_cases hk : RuleOK L W B S C R D T m
  ·have k1 := decide_eq_true hk
   simp (disch := omega) only [c31_l0, c31, ↓R31, i1, i28, i29, i30, b1, hr, f3, k1, ↓RnP, RnQ, Nat.reduceEqDiff, Nat.reduceAdd, Nat.reduceMul, Nat.reduceSub, Nat.reduceLT, Nat.reduceLeDiff, Nat.reduceBEq, Int.reduceLT, Int.reduceLE, reduceCtorEq, Int.reduceToNat, Int.reduceAdd, Int.reduceSub, Int.reduceMul]
   exact ⟨d - 1, by omega, j + 1, by omega, (old.put _ _).more _, hall hk, rfl⟩
  ·have k1 := decide_eq_false hk
   simp (disch := omega) only [c31_l0, c31, ↓R31, i1, i28, i29, i30, b1, hr, f3, k1, ↓RnP, RnQ, Nat.reduceEqDiff, Nat.reduceAdd, Nat.reduceMul, Nat.reduceSub, Nat.reduceLT, Nat.reduceLeDiff, Nat.reduceBEq, Int.reduceLT, Int.reduceLE, reduceCtorEq, Int.reduceToNat, Int.reduceAdd, Int.reduceSub, Int.reduceMul]
   exact no (fun q => hk (q.2.2.2.2.1 _ hmem).1) _ ((oldh.put _ _).more _)
 ·have b1 : decide ((j : Int) < l.length) = false := decide_eq_false (by omega)
  obtain rfl : j = l.length := by omega
  rw [List.take_length] at hok
  have hsm : ∀ r ∈ l, r.Sm := fun r hr => (hok r hr).sm
  have hle := mo_le l 6 ou
  simp (disch := omega) only [c31_l0, c31, ↓R31, i1, i29, i30, b1, g0, ↓RnP, RnQ, Nat.reduceEqDiff, Nat.reduceAdd, Nat.reduceMul, Nat.reduceSub, Nat.reduceLT, Nat.reduceLeDiff, Nat.reduceBEq, Int.reduceLT, Int.reduceLE, reduceCtorEq, Int.reduceToNat, Int.reduceAdd, Int.reduceSub, Int.reduceMul]
  refine most_ok hh bu co ou _ l (s0.old oldh) hl hsm fun h4 o4 => ?_
  have g4 : h4.obj h.next = .cells (cfgc bu co ou (.slice a l.length cap)) 30 .fix := (o4.obj h.next (by omega)).trans g0
  have n4 : hh.next ≤ h4.next := o4.next
  by_cases hm : ou ≥ mo 6 l
  ·have k1 := decide_eq_true hm
   obtain ⟨q1, q2, q3⟩ := hle.1 hm
   have c4 : 46 ≤ ou := q2.resolve_left fun hnil => by subst hnil; simp at c1
   simp (disch := omega) only [c31, ↓R31, i1, g0, g4, k1, ↓RnP, RnQ, Nat.reduceEqDiff, Nat.reduceAdd, Nat.reduceMul, Nat.reduceSub, Nat.reduceLT, Nat.reduceLeDiff, Nat.reduceBEq, Int.reduceLT, Int.reduceLE, reduceCtorEq, Int.reduceToNat, Int.reduceAdd, Int.reduceSub, Int.reduceMul]
   refine foot_ok h4 bu co ou _ l (s0.old (oldh.trans o4)) hl c0 (by omega) hsm fun h5 o5 => ?_
   have g5 : h5.obj h.next = .cells (cfgc bu co ou (.slice a l.length cap)) 30 .fix := (o5.obj h.next (by omega)).trans g4
   have fin : decide (co * ou + sumB l ≤ bu) = decide (CfgOK bu co ou l) := by
    rw [decide_eq_decide]; exact ⟨fun q => ⟨c0, c1, c2, ⟨c4, by omega⟩, fun r hr => ⟨hok r hr, q3 r hr⟩, q⟩, fun q => q.2.2.2.2.2⟩
   simp (disch := omega) only [c31, ↓R31, i1, g5, g4, g0, fin, ↓RnP, RnQ, Nat.reduceEqDiff, Nat.reduceAdd, Nat.reduceMul, Nat.reduceSub, Nat.reduceLT, Nat.reduceLeDiff, Nat.reduceBEq, Int.reduceLT, Int.reduceLE, reduceCtorEq, Int.reduceToNat, Int.reduceAdd, Int.reduceSub, Int.reduceMul]
   exact hQ _ ((oldh.trans o4).trans o5)
  ·have k1 := decide_eq_false hm
   simp (disch := omega) only [c31, ↓R31, i1, g0, g4, k1, ↓RnP, RnQ, Nat.reduceEqDiff, Nat.reduceAdd, Nat.reduceMul, Nat.reduceSub, Nat.reduceLT, Nat.reduceLeDiff, Nat.reduceBEq, Int.reduceLT, Int.reduceLE, reduceCtorEq, Int.reduceToNat, Int.reduceAdd, Int.reduceSub, Int.reduceMul]
   exact no (fun q => hm (hle.2 ⟨by have := q.2.2.2.1; omega, .inr q.2.2.2.1.1, fun r hr => (q.2.2.2.2.1 r hr).2⟩)) _ (oldh.trans o4)
end Go.Proofs.YtlakhgibjfmjjaaGreat.Can
namespace Go.Proofs.YtlakhgibjfmjjaaGreat.Can
open Go
attribute [local congr] RunR_congr RunC_congr afterR_congr guardR_congr condQ_congr CALL_congr finQ_congr op_congr opg_congr
def connL (bs : List Int) (n r e : Int) (ob : Nat) (rr : Int) (w : Bool) : List Value := ints .u8 bs ++ [.int .i64 n, .int .i64 r, .int .i64 e, .pointer (some ⟨ob, 0, none⟩), .int .i64 rr, .bool w]
section
variable {bs : List Int} {n r e : Int} {ob : Nat} {rr : Int} {w : Bool}
theorem connL_len (hl : bs.length = 75) : (connL bs n r e ob rr w).length = 81 := by simp [connL, ints, hl]
theorem connL_b (hl : bs.length = 75) (i : Nat) (x : Int) (hx : bs[i]? = some x) : (connL bs n r e ob rr w)[i]? = some (.int .u8 x) := by
 have hi := (List.getElem?_eq_some_iff.1 hx).1
 unfold connL
 rw [List.getElem?_append_left (by rw [ints_len]; exact hi)]
 exact ints_get .u8 _ hx
theorem connL_75 (hl : bs.length = 75) : (connL bs n r e ob rr w)[75]? = some (.int .i64 n) := by
 unfold connL; rw [List.getElem?_append_right (by rw [ints_len, hl]; decide), ints_len, hl]; rfl
theorem connL_76 (hl : bs.length = 75) : (connL bs n r e ob rr w)[76]? = some (.int .i64 r) := by
 unfold connL; rw [List.getElem?_append_right (by rw [ints_len, hl]; decide), ints_len, hl]; rfl
theorem connL_77 (hl : bs.length = 75) : (connL bs n r e ob rr w)[77]? = some (.int .i64 e) := by
 unfold connL; rw [List.getElem?_append_right (by rw [ints_len, hl]; decide), ints_len, hl]; rfl
theorem connL_78 (hl : bs.length = 75) : (connL bs n r e ob rr w)[78]? = some (.pointer (some ⟨ob, 0, none⟩)) := by
 unfold connL; rw [List.getElem?_append_right (by rw [ints_len, hl]; decide), ints_len, hl]; rfl
theorem connL_79 (hl : bs.length = 75) : (connL bs n r e ob rr w)[79]? = some (.int .i64 rr) := by
 unfold connL; rw [List.getElem?_append_right (by rw [ints_len, hl]; decide), ints_len, hl]; rfl
theorem connL_80 (hl : bs.length = 75) : (connL bs n r e ob rr w)[80]? = some (.bool w) := by
 unfold connL; rw [List.getElem?_append_right (by rw [ints_len, hl]; decide), ints_len, hl]; rfl
theorem connL_sb (hl : bs.length = 75) (i : Nat) (hi : i < 75) (x : Int) : (connL bs n r e ob rr w).set i (.int .u8 x) = connL (bs.set i x) n r e ob rr w := by
 unfold connL; rw [List.set_append_left _ _ (by rw [ints_len]; omega), ints_set]
theorem connL_s75 (hl : bs.length = 75) (x : Int) : (connL bs n r e ob rr w).set 75 (.int .i64 x) = connL bs x r e ob rr w := by
 unfold connL; rw [List.set_append_right _ _ (by rw [ints_len, hl]; decide), ints_len, hl]; rfl
theorem connL_s77 (hl : bs.length = 75) (x : Int) : (connL bs n r e ob rr w).set 77 (.int .i64 x) = connL bs n r x ob rr w := by
 unfold connL; rw [List.set_append_right _ _ (by rw [ints_len, hl]; decide), ints_len, hl]; rfl
theorem connL_s80 (hl : bs.length = 75) (x : Bool) : (connL bs n r e ob rr w).set 80 (.bool x) = connL bs n r e ob rr x := by
 unfold connL; rw [List.set_append_right _ _ (by rw [ints_len, hl]; decide), ints_len, hl]; rfl
end
theorem B8_ints (l : List Int) : B8.all l = ints .u8 l := by
 induction l with
 | nil => rfl
 | cons x t ih => show Value.int .u8 x :: B8.all t = _; rw [ih]; rfl
theorem set_take {bs : List Int} {n : Nat} (h : n < bs.length) (c : Int) : (bs.set n c).take (n + 1) = bs.take n ++ [c] := by
 rw [List.take_add_one, List.take_set_of_le (Nat.le_refl n)]
 simp [h]
structure ConnO (h : Heap) (x : Nat) (bs : List Int) (n : Nat) (r e : Int) (ob : Nat) (rr : Int) (w : Bool) : Prop where
 ox : h.obj x = .cells (connL bs n r e ob rr w) 149 .fix
 lx : x < h.next
 len : bs.length = 75
 byt : Byts bs
section
variable {h h' : Heap} {x : Nat} {bs : List Int} {n : Nat} {r e : Int} {ob : Nat} {rr : Int} {w : Bool}
theorem err_ok (c : ConnO h x bs n r e ob rr w) (Q : Value → Heap → Prop) : CALL cp 62 [.pointer (some ⟨x, 0, none⟩)] h Q ↔ Q (.int .i64 e) h := by
 refine CALL_det ?_ Q
 rw [CALL_enter cp cp62]
 have ox := c.ox
 have hl := c.len
 simp (disch := omega) only [c62, ↓R62, ox, connL_77 hl, ↓RnP, RnQ, Nat.reduceEqDiff, Nat.reduceAdd, Nat.reduceMul, Nat.reduceSub, Nat.reduceLT, Nat.reduceLeDiff, Nat.reduceBEq, Int.reduceLT, Int.reduceLE, reduceCtorEq, Int.reduceToNat, Int.reduceAdd, Int.reduceSub, Int.reduceMul]
set_option maxHeartbeats 2000000 in
theorem try_ok (c : ConnO h x bs n r 0 ob rr w) (hn : n ≤ 74) (y : Int) (hy : 0 ≤ y ∧ y < 256) {Q : Value → Heap → Prop}
  (hQ : ∀ h', Old h h' → Q (.tuple #[((parseS (bs.take n ++ [y]) r).1.getD req0).val, .bool (parseS (bs.take n ++ [y]) r).1.isSome, .int .i64 (parseS (bs.take n ++ [y]) r).2]) h') :
  CALL cp 52 [.pointer (some ⟨x, 0, none⟩), .int .u8 y] h Q := by
 rw [CALL_enter cp cp52]
 have ox := c.ox
 have lx := c.lx
 have hl := c.len
 have hx : bs[n]? = some bs[n] := List.getElem?_eq_getElem (by omega)
 obtain ⟨old, hold⟩ : ∃ old, old = bs[n]'(by omega) := ⟨_, rfl⟩
 rw [← hold] at hx
 have k1 : (n : Int) + 1 = ((n + 1 : Nat) : Int) := by omega
 have hl2 : (bs.set n y).length = 75 := by rw [List.length_set]; exact hl
 obtain ⟨h1, h1d⟩ : ∃ h1, h1 = h.new (.cells [.int .i64 0, .int .i64 0, .int .u32 0, .string ⟨#[]⟩, .int .i64 0] 61 .fix) := ⟨_, rfl⟩
 have o1 : Old h h1 := by rw [h1d]; exact (Old.refl h).more _
 have g1 : h1.obj h.next = .cells [.int .i64 0, .int .i64 0, .int .u32 0, .string ⟨#[]⟩, .int .i64 0] 61 .fix := by rw [h1d]; exact obj_new_same _ _
 have n1 : h1.next = h.next + 1 := by rw [h1d]; rfl
 have ox1 := (o1.obj x lx).trans ox
 obtain ⟨h2, h2d⟩ : ∃ h2, h2 = h1.upd x (.cells (connL (bs.set n y) n r 0 ob rr w) 149 .fix) := ⟨_, rfl⟩
 have ox2 : h2.obj x = .cells (connL (bs.set n y) n r 0 ob rr w) 149 .fix := by rw [h2d]; exact obj_upd_same _ _ _
 simp (disch := omega) only [c52, ↓R52, ← h1d, ox1, connL_77 hl, connL_75 hl, connL_len hl, connL_b hl n old hx, setAt_one, connL_sb hl n (by omega) y, ← h2d, ox2, connL_75 hl2, connL_76 hl2, connL_len hl2, k1, Nat.mul_one, Nat.sub_zero, bne_self_eq_false, ↓RnP, RnQ, Nat.reduceEqDiff, Nat.reduceAdd, Nat.reduceMul, Nat.reduceSub, Nat.reduceLT, Nat.reduceLeDiff, Nat.reduceBEq, Int.reduceLT, Int.reduceLE, reduceCtorEq, Int.reduceToNat, Int.reduceAdd, Int.reduceSub, Int.reduceMul]
 have tl : (bs.take n ++ [y]).length = n + 1 := by rw [List.length_append, List.length_take, hl, List.length_singleton]; omega
 have S : Bys h2 (.slice (some ⟨x, 0, none⟩) (n + 1) (n + 1)) (bs.take n ++ [y]) := by
  refine .inr ⟨x, 0, n + 1, by rw [tl], by omega, ?_, by rw [ox2]; rfl, ?_⟩
  ·rw [h2d, next_upd, n1]; omega
  ·rw [ox2, tl, read_cells, connL_len hl2, if_pos (by omega), List.drop_zero, B8_ints]
   unfold connL
   rw [List.take_append_of_le_length (by rw [ints_len, hl2]; omega), ← set_take (by omega)]
   simp [ints]
 have tb : Byts (bs.take n ++ [y]) := fun z hz => by
  rcases List.mem_append.1 hz with hz | hz
  ·exact c.byt z (List.mem_of_mem_take hz)
  ·rw [List.mem_singleton.1 hz]; exact hy
 refine parse_ok h2 _ _ S (by omega) tb r fun h3 m o3 hm hm0 => ?_
 have n2 : h2.next = h.next + 1 := by rw [h2d, next_upd, n1]
 have n3 := o3.next
 have ox3 := (o3.obj x (by omega)).trans ox2
 have g3 : h3.obj h.next = .cells [.int .i64 0, .int .i64 0, .int .u32 0, .string ⟨#[]⟩, .int .i64 0] 61 .fix := by rw [o3.obj _ (by omega), h2d, obj_upd_ne _ _ (by omega)]; exact g1
 obtain ⟨q, hq⟩ : ∃ q, q = (parseS (bs.take n ++ [y]) r).1.getD req0 := ⟨_, rfl⟩
 have hb : decide (m > 0) = (parseS (bs.take n ++ [y]) r).1.isSome := by
  cases hs : (parseS (bs.take n ++ [y]) r).1.isSome with
  | true => exact decide_eq_true (hm.2 hs)
  | false => exact decide_eq_false fun h => by rw [hm.1 h] at hs; exact absurd hs (by simp)
 have hback : (bs.set n y).set n old = bs := by
  rw [List.set_set, hold]; exact List.set_getElem_self _
 rw [← hq] at hQ ⊢
 unfold ReqV.val reqV at hQ ⊢
 simp (disch := omega) only [c52, ↓R52, ox3, g3, hb, connL_75 hl2, connL_len hl2, setAt_one, connL_sb hl2 n (by omega) old, hback, fillIn, Nat.mul_one, Nat.sub_zero, ↓RnP, RnQ, Nat.reduceEqDiff, Nat.reduceAdd, Nat.reduceMul, Nat.reduceSub, Nat.reduceLT, Nat.reduceLeDiff, Nat.reduceBEq, Int.reduceLT, Int.reduceLE, reduceCtorEq, Int.reduceToNat, Int.reduceAdd, Int.reduceSub, Int.reduceMul]
 refine hQ _ ⟨by simp only [next_upd, next_new]; omega, fun z hz => ?_⟩
 have : ∀ z, z < h.next → z ≠ x → h3.obj z = h.obj z := fun z hz hne => by rw [o3.obj z (by omega), h2d, obj_upd_ne _ _ hne, o1.obj z hz]
 rw [obj_upd_ne _ _ (by omega)]
 by_cases e : z = x
 ·subst e; rw [obj_upd_same]; exact ox.symm
 ·rw [obj_upd_ne _ _ e, obj_upd_ne _ _ (by omega), obj_new_ne _ _ (by omega), this z hz e]
def feedS (bs : List Int) (n : Nat) (y r : Int) : List Int × Nat × Int :=
 if (parseS (bs.take n ++ [y]) r).2 ≠ 0 then (bs, 0, (parseS (bs.take n ++ [y]) r).2)
 else if (parseS (bs.take n ++ [y]) r).1.isSome = true then (bs, 0, 0) else (bs.set n y, n + 1, 0)
theorem ConnO.new (c : ConnO h x bs n r e ob rr w) {bs' : List Int} {n' : Nat} {e' : Int} {w' : Bool} (hn : h.next ≤ h'.next) (hl : bs'.length = 75) (hb : Byts bs') (ho : h'.obj x = .cells (connL bs' n' r e' ob rr w') 149 .fix) : ConnO h' x bs' n' r e' ob rr w' :=
 ⟨ho, Nat.lt_of_lt_of_le c.lx hn, hl, hb⟩
set_option maxHeartbeats 2000000 in
theorem feed_ok (c : ConnO h x bs n r 0 ob rr w) (hn : n ≤ 74) (y : Int) (hy : 0 ≤ y ∧ y < 256) {Q : Value → Heap → Prop}
  (hQ : ∀ h' v, OldX x h h' → ConnO h' x (feedS bs n y r).1 (feedS bs n y r).2.1 r (feedS bs n y r).2.2 ob rr w → Q v h') :
  CALL cp 53 [.pointer (some ⟨x, 0, none⟩), .int .u8 y] h Q := by
 rw [CALL_enter cp cp53]
 have ox := c.ox
 have lx := c.lx
 have hl := c.len
 obtain ⟨h1, h1d⟩ : ∃ h1, h1 = h.new (.cells [.int .i64 0, .int .i64 0, .int .u32 0, .string ⟨#[]⟩, .int .i64 0] 61 .fix) := ⟨_, rfl⟩
 have o1 : Old h h1 := by rw [h1d]; exact (Old.refl h).more _
 have g1 : h1.obj h.next = .cells [.int .i64 0, .int .i64 0, .int .u32 0, .string ⟨#[]⟩, .int .i64 0] 61 .fix := by rw [h1d]; exact obj_new_same _ _
 have n1 : h1.next = h.next + 1 := by rw [h1d]; rfl
 have c1 : ConnO h1 x bs n r 0 ob rr w := ⟨(o1.obj x lx).trans ox, by omega, hl, c.byt⟩
 simp (disch := omega) only [c53, ↓R53, ← h1d, ↓RnP, RnQ, Nat.reduceEqDiff, Nat.reduceAdd, Nat.reduceMul, Nat.reduceSub, Nat.reduceLT, Nat.reduceLeDiff, Nat.reduceBEq, Int.reduceLT, Int.reduceLE, reduceCtorEq, Int.reduceToNat, Int.reduceAdd, Int.reduceSub, Int.reduceMul]
 refine try_ok c1 hn y hy fun h3 o3 => ?_
 have n3 := o3.next
 have ox3 := (o3.obj x (by omega)).trans c1.ox
 have g3 := (o3.obj h.next (by omega)).trans g1
 have k1 : (n : Int) + 1 = ((n + 1 : Nat) : Int) := by omega
 obtain ⟨q, hq⟩ : ∃ q, q = (parseS (bs.take n ++ [y]) r).1.getD req0 := ⟨_, rfl⟩
 rw [← hq]
 unfold ReqV.val reqV
 unfold feedS at hQ
 by_cases p : (parseS (bs.take n ++ [y]) r).2 ≠ 0
 ·rw [if_pos p] at hQ
  have p' : ((parseS (bs.take n ++ [y]) r).2 != 0) = true := bne_iff_ne.2 p
  simp (disch := omega) only [c53, ↓R53, ox3, g3, p', connL_len hl, connL_s77 hl, connL_s75 hl, setAt_one, fillIn, Nat.mul_one, Nat.sub_zero, ↓RnP, RnQ, Nat.reduceEqDiff, Nat.reduceAdd, Nat.reduceMul, Nat.reduceSub, Nat.reduceLT, Nat.reduceLeDiff, Nat.reduceBEq, Int.reduceLT, Int.reduceLE, reduceCtorEq, Int.reduceToNat, Int.reduceAdd, Int.reduceSub, Int.reduceMul]
  refine hQ _ _ ⟨by simp only [next_upd, next_new]; omega, fun z hz hne => ?_⟩ (c.new (by simp only [next_upd, next_new]; omega) hl c.byt ?_)
  ·rw [obj_upd_ne _ _ (by omega), obj_upd_ne _ _ hne, obj_upd_ne _ _ hne, obj_upd_ne _ _ (by omega), obj_new_ne _ _ (by omega), o3.obj z (by omega), o1.obj z hz]
  ·rw [obj_upd_ne _ _ (by omega), obj_upd_same]; rfl
 rw [if_neg p] at hQ
 have p0 : (parseS (bs.take n ++ [y]) r).2 = 0 := by omega
 have p' : ((parseS (bs.take n ++ [y]) r).2 != 0) = false := by rw [p0]; rfl
 cases hw : (parseS (bs.take n ++ [y]) r).1.isSome with
 | true =>
  rw [if_pos hw] at hQ
  simp (disch := omega) only [c53, ↓R53, ox3, g3, p', hw, connL_len hl, connL_s77 hl, connL_s75 hl, setAt_one, fillIn, Nat.mul_one, Nat.sub_zero, ↓RnP, RnQ, Nat.reduceEqDiff, Nat.reduceAdd, Nat.reduceMul, Nat.reduceSub, Nat.reduceLT, Nat.reduceLeDiff, Nat.reduceBEq, Int.reduceLT, Int.reduceLE, reduceCtorEq, Int.reduceToNat, Int.reduceAdd, Int.reduceSub, Int.reduceMul]
  refine hQ _ _ ⟨by simp only [next_upd, next_new]; omega, fun z hz hne => ?_⟩ (c.new (by simp only [next_upd, next_new]; omega) hl c.byt ?_)
  ·rw [obj_upd_ne _ _ (by omega), obj_upd_ne _ _ hne, obj_upd_ne _ _ (by omega), obj_new_ne _ _ (by omega), o3.obj z (by omega), o1.obj z hz]
  ·rw [obj_upd_ne _ _ (by omega), obj_upd_same]; rfl
 | false =>
  rw [if_neg (by rw [hw]; exact Bool.false_ne_true)] at hQ
  have hl2 : (bs.set n y).length = 75 := by rw [List.length_set]; exact hl
  simp (disch := omega) only [c53, ↓R53, ox3, g3, p', hw, k1, connL_75 hl, connL_75 hl2, connL_len hl, connL_len hl2, connL_sb hl n (by omega) y, connL_s75 hl2, setAt_one, fillIn, Nat.mul_one, Nat.sub_zero, ↓RnP, RnQ, Nat.reduceEqDiff, Nat.reduceAdd, Nat.reduceMul, Nat.reduceSub, Nat.reduceLT, Nat.reduceLeDiff, Nat.reduceBEq, Int.reduceLT, Int.reduceLE, reduceCtorEq, Int.reduceToNat, Int.reduceAdd, Int.reduceSub, Int.reduceMul]
  refine hQ _ _ ⟨by simp only [next_upd, next_new]; omega, fun z hz hne => ?_⟩ (c.new (by simp only [next_upd, next_new]; omega) hl2 (fun z hz => ?_) ?_)
  ·rw [obj_upd_ne _ _ (by omega), obj_upd_ne _ _ hne, obj_upd_ne _ _ hne, obj_upd_ne _ _ (by omega), obj_new_ne _ _ (by omega), o3.obj z (by omega), o1.obj z hz]
  ·rcases List.mem_or_eq_of_mem_set hz with hz | rfl
   ·exact c.byt z hz
   ·exact hy
  ·rw [obj_upd_ne _ _ (by omega), obj_upd_same]
def DecInv (bs : List Int) (n : Nat) (r : Int) : Prop := n ≤ 74 ∧ (n = 0 ∨ parseS (bs.take n) r = (none, 0))
theorem feed_inv (hl : bs.length = 75) (I : DecInv bs n r) (y : Int) (he : (feedS bs n y r).2.2 = 0) : DecInv (feedS bs n y r).1 (feedS bs n y r).2.1 r := by
 unfold feedS at he ⊢
 split
 ·exact ⟨by simp, .inl rfl⟩
 rename_i p
 rw [if_neg p] at he
 split
 ·exact ⟨by simp, .inl rfl⟩
 rename_i q
 have hn := I.1
 have e : parseS (bs.take n ++ [y]) r = (none, 0) := by
  have h1 : (parseS (bs.take n ++ [y]) r).2 = 0 := by omega
  have h2 : (parseS (bs.take n ++ [y]) r).1 = none := by
   cases h : (parseS (bs.take n ++ [y]) r).1 with
   | none => rfl
   | some _ => rw [h] at q; exact absurd rfl q
  exact Prod.ext h2 h1
 have tl : (bs.take n ++ [y]).length = n + 1 := by rw [List.length_append, List.length_take, hl, List.length_singleton]; omega
 refine ⟨?_, .inr ?_⟩
 ·show n + 1 ≤ 74
  unfold parseS at e
  split at e
  ·rename_i h; exact absurd (Prod.mk.inj e).2 h
  rename_i hp
  split at e
  ·rename_i hs
   rw [tl] at hs
   by_cases c4 : n + 1 < 4
   ·omega
   have := pfx_l3 (l := bs.take n ++ [y]) (rules := r) (by omega) (by omega)
   unfold l3OK at this
   omega
  ·exact absurd (Prod.mk.inj e).1 (by simp)
 ·show parseS ((bs.set n y).take (n + 1)) r = _
  rw [set_take (by omega)]; exact e
end
end Go.Proofs.YtlakhgibjfmjjaaGreat.Can
namespace Go.Proofs.YtlakhgibjfmjjaaGreat.Can
open Go
attribute [local congr] RunR_congr RunC_congr afterR_congr guardR_congr condQ_congr CALL_congr finQ_congr op_congr opg_congr
theorem setAt_full (vs c : List Value) (h : vs.length = c.length) : setAt c 0 vs = vs := by
 have := setAt_over [] vs c (by omega)
 rw [List.nil_append, List.nil_append, List.length_nil, h, List.drop_eq_nil_of_le (Nat.le_refl _), List.append_nil] at this
 exact this
def decL (r : Int) : List Value := ints .u8 (List.replicate 75 0) ++ [.int .i64 0, .int .i64 r, .int .i64 0]
set_option maxRecDepth 4000 in
theorem decNew_ok (h : Heap) (r : Int) {Q : Value → Heap → Prop} (hQ : ∀ h', Old h h' → Q (.agg (decL r).toArray) h') : CALL cp 51 [.int .i64 r] h Q := by
 rw [CALL_enter cp cp51]
 have e := hQ ((h.new (.cells (decL 0) 135 .fix)).upd h.next (.cells (decL r) 135 .fix)) ⟨by simp only [next_upd, next_new]; omega, fun z hz => by rw [obj_upd_ne _ _ (by omega), obj_new_ne _ _ (by omega)]⟩
 simp (disch := omega) only [c51, ↓R51, fillIn, ↓RnP, RnQ, Nat.reduceEqDiff, Nat.reduceAdd, Nat.reduceMul, Nat.reduceSub, Nat.reduceLT, Nat.reduceLeDiff, Nat.reduceBEq, Int.reduceLT, Int.reduceLE, reduceCtorEq, Int.reduceToNat, Int.reduceAdd, Int.reduceSub, Int.reduceMul]
 exact e
section
variable {bs : List Int} {n r e : Int} {ob : Nat} {rr : Int} {w : Bool}
theorem decL_len (r : Int) : (decL r).length = 78 := by simp [decL, ints]
theorem decL_scalar (r : Int) : (decL r).all scalar = true := rfl
theorem connL_dec (hl : bs.length = 75) (r' : Int) : setAt (connL bs n r e ob rr w) 0 (decL r') = connL (List.replicate 75 0) 0 r' 0 ob rr w := by
 have h1 : connL bs n r e ob rr w = (ints .u8 bs ++ [.int .i64 n, .int .i64 r, .int .i64 e]) ++ [.pointer (some ⟨ob, 0, none⟩), .int .i64 rr, .bool w] := by simp [connL]
 have h2 : connL (List.replicate 75 0) 0 r' 0 ob rr w = decL r' ++ [.pointer (some ⟨ob, 0, none⟩), .int .i64 rr, .bool w] := by simp [connL, decL]
 rw [h1, h2, setAt_app _ _ _ _ (by simp [decL, ints, hl]), setAt_full _ _ (by simp [decL, ints, hl])]
end
structure CA where
 x : Nat
 p : Nat
 nb : Nat
 S : Nat
 rr : Int
structure CV where
 bs : List Int
 n : Nat
 r : Int
 e : Int
 w : Bool
 qs : List Int
def CA.own (A : CA) : Nat → Prop := fun z => z = A.x ∨ z = A.p ∨ z = A.nb
structure ConnAt (h : Heap) (A : CA) (v : CV) : Prop where
 o : ConnO h A.x v.bs v.n v.r v.e A.p A.rr v.w
 b : ∃ a B, BufAt h A.p A.nb A.S a B v.qs
 xp : A.x ≠ A.p ∧ A.x ≠ A.nb
theorem ConnO.keep {h h' : Heap} {x n ob : Nat} {bs : List Int} {r e rr : Int} {w : Bool} (c : ConnO h x bs n r e ob rr w) (hn : h.next ≤ h'.next) (ho : h'.obj x = h.obj x) : ConnO h' x bs n r e ob rr w := ⟨ho.trans c.ox, Nat.lt_of_lt_of_le c.lx hn, c.len, c.byt⟩
section
variable {h h' : Heap} {A : CA} {v : CV}
theorem ConnAt.keep (c : ConnAt h A v) (hn : h.next ≤ h'.next) (ho : ∀ z, A.own z → h'.obj z = h.obj z) : ConnAt h' A v :=
 ⟨c.o.keep hn (ho _ (.inl rfl)), c.b.imp fun a b => b.imp fun B b => b.keep hn (ho _ (.inr (.inl rfl))) (ho _ (.inr (.inr rfl))), c.xp⟩
theorem ConnAt.lt (c : ConnAt h A v) {z : Nat} (hz : A.own z) : z < h.next := by
 rcases hz with rfl | rfl | rfl
 ·exact c.o.lx
 ·obtain ⟨_, _, b⟩ := c.b; exact b.lp
 ·obtain ⟨_, _, b⟩ := c.b; exact b.ln
theorem ConnAt.old (c : ConnAt h A v) (o : Old h h') : ConnAt h' A v := c.keep o.next fun z hz => o.obj z (c.lt hz)
theorem ConnAt.oldF {F : Nat → Prop} (c : ConnAt h A v) (o : OldF F h h') (hF : ∀ z, A.own z → ¬ F z) : ConnAt h' A v := c.keep o.next fun z hz => o.obj z (c.lt hz) (hF z hz)
def cv0 : CV := ⟨List.replicate 75 0, 0, 0, 0, false, []⟩
theorem connNew_ok (h : Heap) (r : Int) (S : Nat) (hS : 1 ≤ S ∧ S ≤ 65536) {Q : Value → Heap → Prop}
  (hQ : ∀ h' x p nb, Old h h' → (∀ z, CA.own ⟨x, p, nb, S, r⟩ z → h.next ≤ z) → ConnAt h' ⟨x, p, nb, S, r⟩ cv0 → Q (.pointer (some ⟨x, 0, none⟩)) h') :
  CALL cp 58 [.int .i64 r, .int .i64 S] h Q := by
 rw [CALL_enter cp cp58]
 simp (disch := omega) only [c58, ↓R58, ↓RnP, RnQ, Nat.reduceEqDiff, Nat.reduceAdd, Nat.reduceMul, Nat.reduceSub, Nat.reduceLT, Nat.reduceLeDiff, Nat.reduceBEq, Int.reduceLT, Int.reduceLE, reduceCtorEq, Int.reduceToNat, Int.reduceAdd, Int.reduceSub, Int.reduceMul]
 refine bufNew_ok S hS fun h1 p nb o1 hp hnb b1 => ?_
 have n1 := o1.next
 have lp := b1.lp
 have ln := b1.ln
 have q := hQ (h1.new (.cells (connL (List.replicate 75 0) 0 0 0 p r false) 149 .fix)) h1.next p nb (o1.trans ((Old.refl h1).more _)) (fun z hz => by rcases hz with rfl | rfl | rfl <;> first | exact n1 | exact hp | exact hnb)
  ⟨⟨obj_new_same _ _, Nat.lt_succ_self _, List.length_replicate, fun x hx => by rw [(List.mem_replicate.1 hx).2]; omega⟩, ⟨_, _, b1.keep (Nat.le_succ _) (obj_new_ne _ _ (by omega)) (obj_new_ne _ _ (by omega))⟩, ⟨by show h1.next ≠ p; omega, by show h1.next ≠ nb; omega⟩⟩
 simp (disch := omega) only [c58, ↓R58, eqS, fillIn, ↓RnP, RnQ, Nat.reduceEqDiff, Nat.reduceAdd, Nat.reduceMul, Nat.reduceSub, Nat.reduceLT, Nat.reduceLeDiff, Nat.reduceBEq, Int.reduceLT, Int.reduceLE, reduceCtorEq, Int.reduceToNat, Int.reduceAdd, Int.reduceSub, Int.reduceMul]
 exact q
theorem isOpen_ok (c : ConnAt h A v) (Q : Value → Heap → Prop) : CALL cp 38 [.pointer (some ⟨A.x, 0, none⟩)] h Q ↔ Q (.bool v.w) h := by
 refine CALL_det ?_ Q
 rw [CALL_enter cp cp38]
 have ox := c.o.ox
 have hl := c.o.len
 simp (disch := omega) only [c38, ↓R38, eqS, ox, connL_80 hl, ↓RnP, RnQ, Nat.reduceEqDiff, Nat.reduceAdd, Nat.reduceMul, Nat.reduceSub, Nat.reduceLT, Nat.reduceLeDiff, Nat.reduceBEq, Int.reduceLT, Int.reduceLE, reduceCtorEq, Int.reduceToNat, Int.reduceAdd, Int.reduceSub, Int.reduceMul]
def cvOpen (rr : Int) : CV := ⟨List.replicate 75 0, 0, rr, 0, true, []⟩
theorem open_ok (c : ConnAt h A v) (hw : v.w = false) {Q : Value → Heap → Prop} (hQ : ∀ h', OldF A.own h h' → ConnAt h' A (cvOpen A.rr) → Q (.bool true) h') : CALL cp 36 [.pointer (some ⟨A.x, 0, none⟩)] h Q := by
 rw [CALL_enter cp cp36]
 obtain ⟨ba, bB, b⟩ := c.b
 have ox := c.o.ox
 have hl := c.o.len
 have lx := c.o.lx
 have xp := c.xp
 have hl0 : (List.replicate 75 (0 : Int)).length = 75 := List.length_replicate
 have tl : (decL A.rr).toArray.toList = decL A.rr := rfl
 rw [hw] at ox
 simp (disch := omega) only [c36, ↓R36, eqS, ox, connL_80 hl, connL_79 hl, connL_len hl, ↓RnP, RnQ, Nat.reduceEqDiff, Nat.reduceAdd, Nat.reduceMul, Nat.reduceSub, Nat.reduceLT, Nat.reduceLeDiff, Nat.reduceBEq, Int.reduceLT, Int.reduceLE, reduceCtorEq, Int.reduceToNat, Int.reduceAdd, Int.reduceSub, Int.reduceMul]
 refine decNew_ok h A.rr fun h1 o1 => ?_
 have ox1 := (o1.obj _ lx).trans ox
 have n1 := o1.next
 simp (disch := omega) only [c36, ↓R36, ox1, tl, decL_len, decL_scalar, connL_dec hl, connL_len hl, connL_len hl0, connL_s80 hl0, connL_78 hl0, ↓RnP, RnQ, Nat.reduceEqDiff, Nat.reduceAdd, Nat.reduceMul, Nat.reduceSub, Nat.reduceLT, Nat.reduceLeDiff, Nat.reduceBEq, Int.reduceLT, Int.reduceLE, reduceCtorEq, Int.reduceToNat, Int.reduceAdd, Int.reduceSub, Int.reduceMul]
 have c1 : ConnO ((h1.upd A.x (.cells (connL (List.replicate 75 0) 0 A.rr 0 A.p A.rr false) 149 .fix)).upd A.x (.cells (connL (List.replicate 75 0) 0 A.rr 0 A.p A.rr true) 149 .fix)) A.x (List.replicate 75 0) 0 A.rr 0 A.p A.rr true :=
  ⟨obj_upd_same _ _ _, by simp only [next_upd]; omega, hl0, fun x hx => by rw [(List.mem_replicate.1 hx).2]; omega⟩
 have b1 : BufAt ((h1.upd A.x (.cells (connL (List.replicate 75 0) 0 A.rr 0 A.p A.rr false) 149 .fix)).upd A.x (.cells (connL (List.replicate 75 0) 0 A.rr 0 A.p A.rr true) 149 .fix)) A.p A.nb A.S ba bB v.qs :=
  b.keep (by simp only [next_upd]; omega) (by rw [obj_upd_ne _ _ (Ne.symm xp.1), obj_upd_ne _ _ (Ne.symm xp.1), o1.obj _ b.lp]) (by rw [obj_upd_ne _ _ (Ne.symm xp.2), obj_upd_ne _ _ (Ne.symm xp.2), o1.obj _ b.ln])
 have ofs : OldF A.own h ((h1.upd A.x (.cells (connL (List.replicate 75 0) 0 A.rr 0 A.p A.rr false) 149 .fix)).upd A.x (.cells (connL (List.replicate 75 0) 0 A.rr 0 A.p A.rr true) 149 .fix)) :=
  (o1.f A.own).trans ((OldF.upd _ _ _ (.inl rfl)).trans (OldF.upd _ _ _ (.inl rfl)))
 refine clear_ok2 b1 fun h2 o2 b2 => ?_
 simp (disch := omega) only [c36, ↓R36, ↓RnP, RnQ, Nat.reduceEqDiff, Nat.reduceAdd, Nat.reduceMul, Nat.reduceSub, Nat.reduceLT, Nat.reduceLeDiff, Nat.reduceBEq, Int.reduceLT, Int.reduceLE, reduceCtorEq, Int.reduceToNat, Int.reduceAdd, Int.reduceSub, Int.reduceMul]
 exact hQ h2 (ofs.trans (o2.f (.inr (.inl rfl)))) ⟨c1.keep o2.next (o2.obj _ c1.lx xp.1), ⟨_, _, b2⟩, xp⟩
theorem drain_ok (c : ConnAt h A v) (hw : v.w = true) (n : Int) {Q : Value → Heap → Prop}
  (hQ : ∀ h' u b', OldX A.p h h' → h.next ≤ b' → Vec h' 5 B8 u (v.qs.take n.toNat) b' → ConnAt h' A { v with qs := v.qs.drop n.toNat } → Q u h') : CALL cp 40 [.pointer (some ⟨A.x, 0, none⟩), .int .i64 n] h Q := by
 rw [CALL_enter cp cp40]
 have ox := c.o.ox
 have hl := c.o.len
 have f := fun Q => isOpen_ok c Q
 rw [hw] at f
 simp (disch := omega) only [c40, ↓R40, f, ox, connL_78 hl, ↓RnP, RnQ, Nat.reduceEqDiff, Nat.reduceAdd, Nat.reduceMul, Nat.reduceSub, Nat.reduceLT, Nat.reduceLeDiff, Nat.reduceBEq, Int.reduceLT, Int.reduceLE, reduceCtorEq, Int.reduceToNat, Int.reduceAdd, Int.reduceSub, Int.reduceMul]
 obtain ⟨ba, bB, b0⟩ := c.b
 refine take_ok b0 n fun h' u b' a' o hb V b => ?_
 simp (disch := omega) only [c40, ↓R40, ↓RnP, RnQ, Nat.reduceEqDiff, Nat.reduceAdd, Nat.reduceMul, Nat.reduceSub, Nat.reduceLT, Nat.reduceLeDiff, Nat.reduceBEq, Int.reduceLT, Int.reduceLE, reduceCtorEq, Int.reduceToNat, Int.reduceAdd, Int.reduceSub, Int.reduceMul]
 exact hQ h' u b' o hb V ⟨c.o.keep o.next (o.obj _ c.o.lx c.xp.1), ⟨_, _, b⟩, c.xp⟩
end
end Go.Proofs.YtlakhgibjfmjjaaGreat.Can
namespace Go.Proofs.YtlakhgibjfmjjaaGreat.Can
open Go
attribute [local congr] RunR_congr RunC_congr afterR_congr guardR_congr condQ_congr CALL_congr finQ_congr op_congr opg_congr
def ansB (op ver rem ret : Int) : List Int := wholeB 168 (([op + 128, ver] ++ encN 8 (rem % 18446744073709551616)) ++ encN 8 (ret % 18446744073709551616))
theorem ansB_len (op ver rem ret : Int) : (ansB op ver rem ret).length = 22 := by simp [ansB, wholeB, encN_len]
theorem answered_ok (h : Heap) (op : Int) (hop : op = 1 ∨ op = 2) (ver rem ret : Int) (hv : 0 ≤ ver ∧ ver < 256) {Q : Value → Heap → Prop}
  (hQ : ∀ h' v' b', Vec h' 5 B8 v' (ansB op ver rem ret) b' → Old h h' → h.next ≤ b' → Q v' h') :
  CALL cp 121 [.int .i64 op, .agg #[.int .i64 ver, .int .i64 rem, .int .i64 ret]] h Q := by
 rw [CALL_enter cp cp121]
 have hor : IntKind.u8.wrap (IntKind.i64.wrap ((BitVec.ofInt IntKind.i64.bits op ||| BitVec.ofInt IntKind.i64.bits 128).toNat : Int)) = op + 128 := by
  rcases hop with rfl | rfl <;> decide
 have hver : IntKind.u8.wrap ver = ver := by rw [wu8]; omega
 obtain ⟨h1, h1d⟩ : ∃ h1, h1 = h.new (.cells [.int .i64 ver, .int .i64 rem, .int .i64 ret] 55 .fix) := ⟨_, rfl⟩
 have o1 : Old h h1 := by rw [h1d]; exact (Old.refl h).more _
 have n1 : h1.next = h.next + 1 := by rw [h1d]; rfl
 have ga : h1.obj h.next = .cells [.int .i64 ver, .int .i64 rem, .int .i64 ret] 55 .fix := by rw [h1d]; exact obj_new_same _ _
 obtain ⟨h2, h2d⟩ : ∃ h2, h2 = h1.new (.cells [.int .u8 (op + 128), .int .u8 ver] 5 .grow) := ⟨_, rfl⟩
 have o2 : Old h1 h2 := by rw [h2d]; exact (Old.refl h1).more _
 have n2 : h2.next = h1.next + 1 := by rw [h2d]; rfl
 have ga2 := (o2.obj h.next (by omega)).trans ga
 have V2 : Vec h2 5 B8 (.slice (some ⟨h1.next, 0, none⟩) 2 2) [op + 128, ver] h1.next := .inr ⟨2, [], rfl, by rw [h2d]; exact Nat.lt_succ_self _, by rw [h2d, obj_new_same]; rfl, rfl, Nat.le_refl _⟩
 simp (disch := omega) only [c121, ↓R121, ← h1d, ga, hor, hver, reps, List.cons_append, List.nil_append, ← h2d, ga2, wu64, ↓RnP, RnQ, Nat.reduceEqDiff, Nat.reduceAdd, Nat.reduceMul, Nat.reduceSub, Nat.reduceLT, Nat.reduceLeDiff, Nat.reduceBEq, Int.reduceLT, Int.reduceLE, reduceCtorEq, Int.reduceToNat, Int.reduceAdd, Int.reduceSub, Int.reduceMul]
 refine fput_ok h2 h1.next (by omega) _ _ h1.next V2 (Nat.le_refl _) (by simp) 8 (by decide) _ fun h3 v3 b3 V3 hn3 hb3 ho3 => ?_
 have ga3 := (ho3 h.next (by omega)).trans ga2
 simp (disch := omega) only [c121, ↓R121, ga2, ga3, wu64, ↓RnP, RnQ, Nat.reduceEqDiff, Nat.reduceAdd, Nat.reduceMul, Nat.reduceSub, Nat.reduceLT, Nat.reduceLeDiff, Nat.reduceBEq, Int.reduceLT, Int.reduceLE, reduceCtorEq, Int.reduceToNat, Int.reduceAdd, Int.reduceSub, Int.reduceMul]
 refine fput_ok h3 h1.next (by omega) _ _ b3 V3 hb3 (by simp only [List.length_append, encN_len, List.length_cons, List.length_nil]; omega) 8 (by decide) _ fun h4 v4 b4 V4 hn4 hb4 ho4 => ?_
 have ga4 := (ho4 h.next (by omega)).trans ga3
 simp (disch := omega) only [c121, ↓R121, ga3, ga4, ↓RnP, RnQ, Nat.reduceEqDiff, Nat.reduceAdd, Nat.reduceMul, Nat.reduceSub, Nat.reduceLT, Nat.reduceLeDiff, Nat.reduceBEq, Int.reduceLT, Int.reduceLE, reduceCtorEq, Int.reduceToNat, Int.reduceAdd, Int.reduceSub, Int.reduceMul]
 refine fwhole_ok h4 h1.next (by omega) 168 _ _ b4 V4 (by simp only [List.length_append, encN_len, List.length_cons, List.length_nil]; omega) fun h5 v5 b5 V5 hn5 hb5 ho5 => ?_
 simp (disch := omega) only [c121, ↓R121, ↓RnP, RnQ, Nat.reduceEqDiff, Nat.reduceAdd, Nat.reduceMul, Nat.reduceSub, Nat.reduceLT, Nat.reduceLeDiff, Nat.reduceBEq, Int.reduceLT, Int.reduceLE, reduceCtorEq, Int.reduceToNat, Int.reduceAdd, Int.reduceSub, Int.reduceMul]
 exact hQ _ _ _ V5 ⟨by omega, fun z hz => by rw [ho5 z (by omega), ho4 z (by omega), ho3 z (by omega), o2.obj z (by omega), o1.obj z hz]⟩ (by omega)
def fauB (e : Int) : List Int := wholeB 168 [255, e]
theorem faulted_ok (h : Heap) (e : Int) (he : 0 ≤ e ∧ e < 256) {Q : Value → Heap → Prop}
  (hQ : ∀ h' v' b', Vec h' 5 B8 v' (fauB e) b' → Old h h' → h.next ≤ b' → Q v' h') : CALL cp 65 [.int .i64 e] h Q := by
 rw [CALL_enter cp cp65]
 have w : IntKind.u8.wrap e = e := by rw [wu8]; omega
 obtain ⟨h2, h2d⟩ : ∃ h2, h2 = h.new (.cells [.int .u8 255, .int .u8 e] 5 .grow) := ⟨_, rfl⟩
 have o2 : Old h h2 := by rw [h2d]; exact (Old.refl h).more _
 have n2 : h2.next = h.next + 1 := by rw [h2d]; rfl
 have V2 : Vec h2 5 B8 (.slice (some ⟨h.next, 0, none⟩) 2 2) [255, e] h.next := .inr ⟨2, [], rfl, by rw [h2d]; exact Nat.lt_succ_self _, by rw [h2d, obj_new_same]; rfl, rfl, Nat.le_refl _⟩
 simp (disch := omega) only [c65, ↓R65, w, reps, List.cons_append, List.nil_append, ← h2d, ↓RnP, RnQ, Nat.reduceEqDiff, Nat.reduceAdd, Nat.reduceMul, Nat.reduceSub, Nat.reduceLT, Nat.reduceLeDiff, Nat.reduceBEq, Int.reduceLT, Int.reduceLE, reduceCtorEq, Int.reduceToNat, Int.reduceAdd, Int.reduceSub, Int.reduceMul]
 refine fwhole_ok h2 h.next (by omega) 168 _ _ _ V2 (by simp) fun h5 v5 b5 V5 hn5 hb5 ho5 => ?_
 simp (disch := omega) only [c65, ↓R65, ↓RnP, RnQ, Nat.reduceEqDiff, Nat.reduceAdd, Nat.reduceMul, Nat.reduceSub, Nat.reduceLT, Nat.reduceLeDiff, Nat.reduceBEq, Int.reduceLT, Int.reduceLE, reduceCtorEq, Int.reduceToNat, Int.reduceAdd, Int.reduceSub, Int.reduceMul]
 exact hQ _ _ _ V5 ⟨by omega, fun z hz => by rw [ho5 z hz, o2.obj z hz]⟩ hb5
def mostS (op k track : Int) : Int := if op = 3 then 46 else if op = 4 then 7 + min (max k 1) track * 81 else 22
theorem flargest_ok (h : Heap) (op rule cost : Int) (key : ByteArray) (k track : Int) (hk : 0 ≤ k ∧ k < 256) (ht : 1 ≤ track ∧ track ≤ 64) {Q : Value → Heap → Prop}
  (hQ : ∀ h', Old h h' → Q (.int .i64 (mostS op k track)) h') : CALL cp 74 [.agg #[.int .i64 op, .int .i64 rule, .int .u32 cost, .string key, .int .i64 k], .int .i64 track] h Q := by
 rw [CALL_enter cp cp74]
 have hQ := hQ _ ((Old.refl h).more (.cells [.int .i64 op, .int .i64 rule, .int .u32 cost, .string key, .int .i64 k] 61 .fix))
 unfold mostS at hQ
 by_cases c3 : op = 3
 ·subst c3
  simp (disch := omega) only [c74, ↓R74, Int.reduceBEq, ↓RnP, RnQ, Nat.reduceEqDiff, Nat.reduceAdd, Nat.reduceMul, Nat.reduceSub, Nat.reduceLT, Nat.reduceLeDiff, Nat.reduceBEq, Int.reduceLT, Int.reduceLE, reduceCtorEq, Int.reduceToNat, Int.reduceAdd, Int.reduceSub, Int.reduceMul]
  exact hQ
 have b3 : (op == 3) = false := beq_eq_false_iff_ne.2 c3
 rw [if_neg c3] at hQ
 by_cases c4 : op = 4
 ·subst c4
  rw [if_pos rfl] at hQ
  simp (disch := omega) only [c74, ↓R74, Int.reduceBEq, ↓mm_max, ↓mm_min, ↓RnP, RnQ, Nat.reduceEqDiff, Nat.reduceAdd, Nat.reduceMul, Nat.reduceSub, Nat.reduceLT, Nat.reduceLeDiff, Nat.reduceBEq, Int.reduceLT, Int.reduceLE, reduceCtorEq, Int.reduceToNat, Int.reduceAdd, Int.reduceSub, Int.reduceMul]
  exact hQ
 have b4 : (op == 4) = false := beq_eq_false_iff_ne.2 c4
 rw [if_neg c4] at hQ
 simp (disch := omega) only [c74, ↓R74, b3, b4, ↓RnP, RnQ, Nat.reduceEqDiff, Nat.reduceAdd, Nat.reduceMul, Nat.reduceSub, Nat.reduceLT, Nat.reduceLeDiff, Nat.reduceBEq, Int.reduceLT, Int.reduceLE, reduceCtorEq, Int.reduceToNat, Int.reduceAdd, Int.reduceSub, Int.reduceMul]
 exact hQ
end Go.Proofs.YtlakhgibjfmjjaaGreat.Can
namespace Go.Proofs.YtlakhgibjfmjjaaGreat.Can
open Go
attribute [local congr] RunR_congr RunC_congr afterR_congr guardR_congr condQ_congr CALL_congr finQ_congr op_congr opg_congr
theorem faultS_range (l3 : Int) (i : Nat) (c r : Int) : 0 ≤ faultS l3 i c r ∧ faultS l3 i c r ≤ 10 := by
 unfold faultS
 repeat' split
 all_goals omega
theorem pfxS_range (l : List Int) (r : Int) : ∀ d i, 0 ≤ pfxS l r d i ∧ pfxS l r d i ≤ 10
 | 0, _ => by simp [pfxS]
 | d + 1, i => by
  have h1 := faultS_range (l.getD 3 0) i (l.getD i 0) r
  have h2 := pfxS_range l r d (i + 1)
  simp only [pfxS]
  repeat' split
  all_goals omega
theorem parseS_range (l : List Int) (r : Int) : 0 ≤ (parseS l r).2 ∧ (parseS l r).2 ≤ 10 := by
 have := pfxS_range l r l.length 0
 unfold parseS
 repeat' split
 all_goals first | exact this | (simp; done) | omega
structure ReqOK (r : Int) (q : ReqV) : Prop where
 op : q.op = 1 ∨ q.op = 2 ∨ q.op = 3 ∨ q.op = 4
 rule : 0 ≤ q.rule ∧ q.rule < r ∧ q.rule < 256
 cost : 0 ≤ q.cost ∧ q.cost < 4294967296
 len : q.key.length ≤ 64
 byt : Byts q.key
 k : 0 ≤ q.k ∧ q.k < 256
theorem parseS_ok {l : List Int} {r : Int} (byt : Byts l) {q : ReqV} {e : Int} (h : parseS l r = (some q, e)) : e = 0 ∧ ReqOK r q := by
 unfold parseS at h
 split at h
 ·exact absurd (Prod.mk.inj h).1 (by simp)
 rename_i hp
 have p0 : pfxS l r l.length 0 = 0 := by omega
 split at h
 ·exact absurd (Prod.mk.inj h).1 (by simp)
 rename_i hs
 obtain ⟨h1, h2⟩ := Prod.mk.inj h
 refine ⟨h2.symm, ?_⟩
 have h1 := Option.some.inj h1
 have l3 := pfx_l3 p0 (by omega)
 have m := fun i => show 0 ≤ l.getD i 0 ∧ l.getD i 0 < 256 by
  rw [List.getD_eq_getElem?_getD]
  cases e : l[i]? with
  | none => exact ⟨Int.le_refl _, by decide⟩
  | some x => exact byt x (List.mem_of_getElem? e)
 unfold l3OK at l3
 have m3 := m 3
 have ft := fits_cases (pfx_fits p0 (by omega))
 have f5 := pfxS_0 l.length 0 (by omega) p0 5 (by omega) (by omega) (.inr (by omega))
 have m5 := m 5
 have m6 := m 6
 have r5 : l.getD 5 0 < r := by
  unfold faultS at f5
  rw [if_neg (by omega), if_neg (by omega), if_neg (by omega), if_neg (by omega), if_neg (by omega), if_pos rfl] at f5
  split at f5
  ·assumption
  ·omega
 unfold reqOf at h1
 split at h1
 ·rename_i c
  have dl : ((l.drop 6).take 4).length = 4 := by rw [List.length_take, List.length_drop]; omega
  have db : Byts ((l.drop 6).take 4) := fun y hy => byt y (List.mem_of_mem_drop (List.mem_of_mem_take hy))
  have dr := decN_range 4 _ dl db
  have p4 : (256 : Int) ^ 4 = 4294967296 := by decide
  rw [p4] at dr
  subst h1
  exact ⟨by rcases c with c | c <;> simp only [c] <;> decide, ⟨m5.1, r5, m5.2⟩, dr, by show ((l.drop 11).take _).length ≤ 64; rw [List.length_take]; omega, fun y hy => byt y (List.mem_of_mem_drop (List.mem_of_mem_take hy)), by show (0 : Int) ≤ 0 ∧ (0 : Int) < 256; omega⟩
 split at h1
 ·subst h1
  exact ⟨.inr (.inr (.inr rfl)), ⟨m5.1, r5, m5.2⟩, by show (0 : Int) ≤ 0 ∧ (0 : Int) < 4294967296; omega, by simp, fun y hy => by simp at hy, m6⟩
 ·rename_i c1 c2
  have c3 : l.getD 4 0 = 3 := by omega
  subst h1
  exact ⟨.inr (.inr (.inl c3)), ⟨m5.1, r5, m5.2⟩, by show (0 : Int) ≤ 0 ∧ (0 : Int) < 4294967296; omega, by simp, fun y hy => by simp at hy, by show (0 : Int) ≤ 0 ∧ (0 : Int) < 256; omega⟩
theorem callv_m {CP : CProg} (t : Nat) (f : FuncId) (x : Value) (args : List Value) (h : Heap) (Q : Value → Heap → Prop) : callvQ CP (methT [(t, f)] (.iface t x)) args h Q ↔ CALL CP f (x :: args) h Q := by
 have e : methT [(t, f)] (.iface t x) = .func (.func f) #[x] #[] := by simp [methT]
 rw [e, callvQ_eq]
 simp
def feedV (v : CV) (y : Int) : CV := { v with bs := (feedS v.bs v.n y v.r).1, n := (feedS v.bs v.n y v.r).2.1, e := (feedS v.bs v.n y v.r).2.2 }
section
variable {σ : Type} (most : σ → ReqV → Int) (ans : σ → ReqV → σ × List Int) (S : Nat)
def stepS (st : σ) (v : CV) (y : Int) : Option (σ × CV) :=
 if v.e ≠ 0 then none
 else if (parseS (v.bs.take v.n ++ [y]) v.r).2 ≠ 0 then
  if S - v.qs.length < 6 then none else some (st, { feedV v y with qs := v.qs ++ fauB (parseS (v.bs.take v.n ++ [y]) v.r).2 })
 else match (parseS (v.bs.take v.n ++ [y]) v.r).1 with
  | some q => if ((S - v.qs.length : Nat) : Int) < most st q then none else some ((ans st q).1, { feedV v y with qs := v.qs ++ (ans st q).2 })
  | none => some (st, feedV v y)
def acceptS : List Int → σ → CV → σ × CV × Nat
 | [], st, v => (st, v, 0)
 | y :: t, st, v => match stepS most ans S st v y with
  | none => (st, v, 0)
  | some x => let r := acceptS t x.1 x.2; (r.1, r.2.1, r.2.2 + 1)
def okS (okq : ReqV → Prop) : List Int → σ → CV → Prop
 | [], _, _ => True
 | y :: t, st, v => (∀ q, (parseS (v.bs.take v.n ++ [y]) v.r).1 = some q → okq q) ∧ ∀ x, stepS most ans S st v y = some x → okS okq t x.1 x.2
end
structure Host (σ : Type) (s : Nat) (F : Nat → Prop) (A : CA) (I : Heap → σ → Prop) (okq : ReqV → Prop) (most : σ → ReqV → Int) (ans : σ → ReqV → σ × List Int) : Prop where
 keep : ∀ {h h' st}, I h st → OldF A.own h h' → I h' st
 most_ok : ∀ {h st q} {Q : Value → Heap → Prop}, I h st → ReqOK A.rr q → okq q → (∀ h', Old h h' → Q (.int .i64 (most st q)) h') → CALL cp 118 [.pointer (some ⟨s, 0, none⟩), q.val] h Q
 ans_ok : ∀ {h st q} {Q : Value → Heap → Prop}, I h st → ReqOK A.rr q → okq q → (∀ h' v b, OldF F h h' → I h' (ans st q).1 → Vec h' 5 B8 v (ans st q).2 b → h.next ≤ b → Q v h') → CALL cp 117 [.pointer (some ⟨s, 0, none⟩), q.val] h Q
 len : ∀ {h st q}, I h st → ReqOK A.rr q → okq q → ((ans st q).2.length : Int) ≤ most st q ∧ Byts (ans st q).2
 apart : ∀ z, A.own z → ¬ F z
theorem feedV_inv {v : CV} {y : Int} (hl : v.bs.length = 75) (I : v.e = 0 → DecInv v.bs v.n v.r) (he : v.e = 0) : (feedV v y).e = 0 → DecInv (feedV v y).bs (feedV v y).n (feedV v y).r := fun h => feed_inv hl (I he) y h
theorem feedS_none {bs : List Int} {n : Nat} {y r : Int} (h : ¬ (parseS (bs.take n ++ [y]) r).2 ≠ 0) : (feedS bs n y r).2.2 = 0 := by
 unfold feedS; rw [if_neg h]; split <;> rfl
section
variable {σ : Type} {most : σ → ReqV → Int} {ans : σ → ReqV → σ × List Int} {s : Nat} {F : Nat → Prop} {A : CA} {I : Heap → σ → Prop} {okq : ReqV → Prop}
theorem tk_byts {bs : List Int} {n : Nat} {y : Int} (hb : Byts bs) (hy : 0 ≤ y ∧ y < 256) : Byts (bs.take n ++ [y]) := fun z hz => by
 rcases List.mem_append.1 hz with hz | hz
 ·exact hb z (List.mem_of_mem_take hz)
 ·rw [List.mem_singleton.1 hz]; exact hy
set_option maxHeartbeats 4000000 in
theorem accept_ok (H : Host σ s F A I okq most ans) {h : Heap} {st : σ} {v : CV} (hI : I h st) (c : ConnAt h A v) (hw : v.w = true) (hr : v.r = A.rr) (di : v.e = 0 → DecInv v.bs v.n v.r)
  (w : Value) (l : List Int) (sl : Bys h w l) (byt : Byts l) (hok : okS most ans A.S okq l st v) (hll : l.length ≤ 100000) (hg : ∀ z o cap, w = .slice (some ⟨z, o, none⟩) l.length cap → ¬ A.own z ∧ ¬ F z) {Q : Value → Heap → Prop}
  (hQ : ∀ h', OldF (fun z => A.own z ∨ F z) h h' → I h' (acceptS most ans A.S l st v).1 → ConnAt h' A (acceptS most ans A.S l st v).2.1 → (acceptS most ans A.S l st v).2.1.w = true → (acceptS most ans A.S l st v).2.1.r = A.rr →
   ((acceptS most ans A.S l st v).2.1.e = 0 → DecInv (acceptS most ans A.S l st v).2.1.bs (acceptS most ans A.S l st v).2.1.n (acceptS most ans A.S l st v).2.1.r) → Q (.int .i64 (acceptS most ans A.S l st v).2.2) h') :
  CALL cp 39 [.pointer (some ⟨A.x, 0, none⟩), w, .iface 35 (.pointer (some ⟨s, 0, none⟩))] h Q := by
 rw [CALL_enter cp cp39]
 obtain ⟨wa, cap, rfl, hcap⟩ := sl.val
 have f := fun Q => isOpen_ok c Q
 rw [hw] at f
 simp (disch := omega) only [c39, ↓R39, f, ↓RnP, RnQ, Nat.reduceEqDiff, Nat.reduceAdd, Nat.reduceMul, Nat.reduceSub, Nat.reduceLT, Nat.reduceLeDiff, Nat.reduceBEq, Int.reduceLT, Int.reduceLE, reduceCtorEq, Int.reduceToNat, Int.reduceAdd, Int.reduceSub, Int.reduceMul]
 refine RunC_loop cp c39_l0 _ (fun d e hh => ∃ (i : Nat) (st' : σ) (v' : CV), i + d = l.length ∧ OldF (fun z => A.own z ∨ F z) h hh ∧ I hh st' ∧ ConnAt hh A v' ∧ v'.w = true ∧ v'.r = A.rr ∧ (v'.e = 0 → DecInv v'.bs v'.n v'.r) ∧ okS most ans A.S okq (l.drop i) st' v' ∧
   acceptS most ans A.S l st v = ((acceptS most ans A.S (l.drop i) st' v').1, (acceptS most ans A.S (l.drop i) st' v').2.1, (acceptS most ans A.S (l.drop i) st' v').2.2 + i) ∧
   e 0 = .pointer (some ⟨A.x, 0, none⟩) ∧ e 1 = .slice wa l.length cap ∧ e 2 = .iface 35 (.pointer (some ⟨s, 0, none⟩)) ∧ e 17 = .slice wa l.length cap ∧ e 18 = .int .i64 l.length ∧ e 19 = .int .i64 i) ?_ l.length _ _
  ⟨0, st, v, by omega, OldF.refl _ _, hI, c, hw, hr, di, hok, rfl, rfl, rfl, rfl, rfl, rfl, rfl⟩
 rintro d e hh ⟨i, st', v', hi, o, hI, c, hw, hr, di, hoks, hacc, e0, e1, e2, e17, e18, e19⟩
 by_cases ci : i < l.length
 rotate_left
 ·have b1 : decide ((i : Int) < (l.length : Int)) = false := decide_eq_false (by omega)
  obtain rfl : i = l.length := by omega
  simp (disch := omega) only [c39_l0, c39, ↓R39, e0, e1, e2, e17, e18, e19, b1, ↓RnP, RnQ, Nat.reduceEqDiff, Nat.reduceAdd, Nat.reduceMul, Nat.reduceSub, Nat.reduceLT, Nat.reduceLeDiff, Nat.reduceBEq, Int.reduceLT, Int.reduceLE, reduceCtorEq, Int.reduceToNat, Int.reduceAdd, Int.reduceSub, Int.reduceMul]
  rw [List.drop_length] at hacc
  simp only [acceptS, Nat.zero_add] at hacc
  have := hQ hh o
  rw [hacc] at this
  exact this hI c hw hr di
 have b1 : decide ((i : Int) < (l.length : Int)) = true := decide_eq_true (by omega)
 have nx : (i : Int) + 1 = ((i + 1 : Nat) : Int) := by omega
 have hx : l[i]? = some l[i] := List.getElem?_eq_getElem ci
 have hdrop : l.drop i = l[i] :: l.drop (i + 1) := List.drop_eq_getElem_cons ci
 obtain ⟨y, hy⟩ : ∃ y, y = l[i] := ⟨_, rfl⟩
 rw [← hy] at hx hdrop
 have yr := byt y (List.mem_of_getElem? hx)
 rw [hdrop] at hacc hoks
 simp only [acceptS] at hacc
 obtain ⟨hq1, hq2⟩ := hoks
 obtain ⟨z, of, cap', hv', hcc, hz, _, hrd⟩ := sl.at (by omega)
 have hnz := hg z of cap' hv'
 simp only [Value.slice.injEq] at hv'
 obtain ⟨rfl, _, rfl⟩ := hv'
 rw [← o.obj z hz (fun q => q.elim hnz.1 hnz.2)] at hrd
 have hgy := Bys.get (cap := cap) hrd hx
 obtain ⟨ba, bB, bb⟩ := c.b
 have ox := c.o.ox
 have hl := c.o.len
 have ferr := fun Q => err_ok c.o Q
 have stop : stepS most ans A.S st' v' y = none → ∀ h', OldF (fun z => A.own z ∨ F z) h h' → I h' st' → ConnAt h' A v' → Q (.int .i64 i) h' := fun hs h' o' hI' c' => by
  rw [hs] at hacc
  have := hQ h' o'
  rw [hacc] at this
  have := this hI' c' hw hr di
  simpa using this
 by_cases p0 : v'.e ≠ 0
 ·have p' : (v'.e != 0) = true := bne_iff_ne.2 p0
  simp (disch := omega) only [c39_l0, c39, ↓R39, e0, e1, e2, e17, e18, e19, b1, hgy, ferr, p', Nat.mul_one, ↓RnP, RnQ, Nat.reduceEqDiff, Nat.reduceAdd, Nat.reduceMul, Nat.reduceSub, Nat.reduceLT, Nat.reduceLeDiff, Nat.reduceBEq, Int.reduceLT, Int.reduceLE, reduceCtorEq, Int.reduceToNat, Int.reduceAdd, Int.reduceSub, Int.reduceMul]
  exact stop (by unfold stepS; rw [if_pos p0]) hh o hI c
 have pe : v'.e = 0 := by omega
 have p' : (v'.e != 0) = false := by rw [pe]; rfl
 have dinv := di pe
 have co := c.o
 rw [pe] at co
 simp (disch := omega) only [c39_l0, c39, ↓R39, e0, e1, e2, e17, e18, e19, b1, hgy, ferr, p', Nat.mul_one, ↓RnP, RnQ, Nat.reduceEqDiff, Nat.reduceAdd, Nat.reduceMul, Nat.reduceSub, Nat.reduceLT, Nat.reduceLeDiff, Nat.reduceBEq, Int.reduceLT, Int.reduceLE, reduceCtorEq, Int.reduceToNat, Int.reduceAdd, Int.reduceSub, Int.reduceMul]
 refine try_ok co dinv.1 y yr fun h1 o1 => ?_
 have n1 := o1.next
 have onx := o.next
 have lx := c.o.lx
 have pn := bb.pn
 have nxt : ∀ (h4 : Heap) (st2 : σ) (qs2 : List Int), OldF (fun z => A.own z ∨ F z) h h4 → I h4 st2 → ConnO h4 A.x (feedS v'.bs v'.n y v'.r).1 (feedS v'.bs v'.n y v'.r).2.1 v'.r (feedS v'.bs v'.n y v'.r).2.2 A.p A.rr v'.w → (∃ a B, BufAt h4 A.p A.nb A.S a B qs2) → stepS most ans A.S st' v' y = some (st2, { feedV v' y with qs := qs2 }) →
   OldF (fun z => A.own z ∨ F z) h h4 ∧ I h4 st2 ∧ ConnAt h4 A { feedV v' y with qs := qs2 } ∧ v'.w = true ∧ v'.r = A.rr ∧ ((feedV v' y).e = 0 → DecInv (feedV v' y).bs (feedV v' y).n (feedV v' y).r) ∧ okS most ans A.S okq (l.drop (i + 1)) st2 { feedV v' y with qs := qs2 } ∧
   acceptS most ans A.S l st v = ((acceptS most ans A.S (l.drop (i + 1)) st2 { feedV v' y with qs := qs2 }).1, (acceptS most ans A.S (l.drop (i + 1)) st2 { feedV v' y with qs := qs2 }).2.1, (acceptS most ans A.S (l.drop (i + 1)) st2 { feedV v' y with qs := qs2 }).2.2 + (i + 1)) := by
  intro h4 st2 qs2 o4 I4 c4 b4 hs
  refine ⟨o4, I4, ⟨c4, b4, c.xp⟩, hw, hr, feedV_inv hl di pe, hq2 _ hs, ?_⟩
  rw [hacc, hs]
  simp only [Prod.mk.injEq, true_and]
  omega
 obtain ⟨q, hq⟩ : ∃ q, q = (parseS (v'.bs.take v'.n ++ [y]) v'.r).1.getD req0 := ⟨_, rfl⟩
 obtain ⟨e', he'⟩ : ∃ e', e' = (parseS (v'.bs.take v'.n ++ [y]) v'.r).2 := ⟨_, rfl⟩
 have er := parseS_range (v'.bs.take v'.n ++ [y]) v'.r
 rw [← he'] at er
 rw [← hq, ← he']
 obtain ⟨h2, h2d⟩ : ∃ h2, h2 = (h1.new (.cells [.int .i64 0, .int .i64 0, .int .u32 0, .string ⟨#[]⟩, .int .i64 0] 61 .fix)).upd h1.next (.cells [.int .i64 q.op, .int .i64 q.rule, .int .u32 q.cost, .string (Can.bs q.key), .int .i64 q.k] 61 .fix) := ⟨_, rfl⟩
 have n2 : h2.next = h1.next + 1 := by rw [h2d]; rfl
 have o2 : Old h1 h2 := by rw [h2d]; exact ⟨Nat.le_succ _, fun z hz => by rw [obj_upd_ne _ _ (by omega), obj_new_ne _ _ (by omega)]⟩
 have g2 : h2.obj h1.next = .cells [.int .i64 q.op, .int .i64 q.rule, .int .u32 q.cost, .string (Can.bs q.key), .int .i64 q.k] 61 .fix := by rw [h2d]; exact obj_upd_same _ _ _
 have o12 := o1.trans o2
 have c2 := c.old o12
 have ox2 := c2.o.ox
 have b2 := bb.keep (h' := h2) o12.next (o12.obj _ bb.lp) (o12.obj _ bb.ln)
 have I2 := H.keep hI (o12.f A.own)
 have froom := fun Q => room_ok b2 Q
 by_cases pf : e' ≠ 0
 ·have pf' : (e' != 0) = true := bne_iff_ne.2 pf
  by_cases rm : A.S - v'.qs.length < 6
  ·have rm' : decide (((A.S - v'.qs.length : Nat) : Int) < 6) = true := decide_eq_true (by omega)
   simp (disch := omega) only [c39, ↓R39, ReqV.val, reqV, e0, e1, e2, e17, e18, e19, fillIn, ← h2d, ox2, connL_78 hl, froom, pf', rm', ↓RnP, RnQ, Nat.reduceEqDiff, Nat.reduceAdd, Nat.reduceMul, Nat.reduceSub, Nat.reduceLT, Nat.reduceLeDiff, Nat.reduceBEq, Int.reduceLT, Int.reduceLE, reduceCtorEq, Int.reduceToNat, Int.reduceAdd, Int.reduceSub, Int.reduceMul]
   exact stop (by unfold stepS; rw [if_neg p0, ← he', if_pos pf, if_pos rm]) h2 (o.trans (o12.f _)) I2 c2
  ·have rm' : decide (((A.S - v'.qs.length : Nat) : Int) < 6) = false := decide_eq_false (by omega)
   simp (disch := omega) only [c39, ↓R39, ReqV.val, reqV, e0, e1, e2, e17, e18, e19, fillIn, ← h2d, ox2, connL_78 hl, froom, pf', rm', ↓RnP, RnQ, Nat.reduceEqDiff, Nat.reduceAdd, Nat.reduceMul, Nat.reduceSub, Nat.reduceLT, Nat.reduceLeDiff, Nat.reduceBEq, Int.reduceLT, Int.reduceLE, reduceCtorEq, Int.reduceToNat, Int.reduceAdd, Int.reduceSub, Int.reduceMul]
   refine faulted_ok h2 e' (by omega) fun h3 v3 b3 V3 o3 hb3 => ?_
   have I3 := H.keep I2 (o3.f A.own)
   have c3 := c2.old o3
   have ox3 := c3.o.ox
   have b3' := b2.keep (h' := h3) o3.next (o3.obj _ b2.lp) (o3.obj _ b2.ln)
   have n3 := o3.next
   have ptr := fun Q => @bput_ok h3 A.p A.nb A.S ba bB v'.qs b3' v3 (fauB e') V3.bys (by intro x hx; simp only [fauB, wholeB, List.cons_append, List.nil_append, List.mem_cons, List.length_cons, List.length_nil, List.not_mem_nil, or_false] at hx; omega) (by show v'.qs.length + 6 ≤ A.S; have := b2.hn; omega) (fun z o cap hv => by
    have := V3.blk hv
    have l1 := b2.lp
    have l2 := b2.ln
    unfold buf2
    omega) Q
   simp (disch := omega) only [c39, ↓R39, ox3, connL_78 hl, ↓RnP, RnQ, Nat.reduceEqDiff, Nat.reduceAdd, Nat.reduceMul, Nat.reduceSub, Nat.reduceLT, Nat.reduceLeDiff, Nat.reduceBEq, Int.reduceLT, Int.reduceLE, reduceCtorEq, Int.reduceToNat, Int.reduceAdd, Int.reduceSub, Int.reduceMul]
   refine ptr _ fun h4 B4 o4 hn4 b4 => ?_
   have co4 : ConnO h4 A.x v'.bs v'.n v'.r 0 A.p A.rr v'.w := by rw [← pe]; exact c3.o.keep o4.next (o4.obj _ c3.o.lx (fun h => h.elim c.xp.1 c.xp.2))
   have I4 := H.keep I3 (o4.mono fun z hz => .inr hz)
   simp (disch := omega) only [c39, ↓R39, e0, e1, e2, e17, e18, e19, ↓RnP, RnQ, Nat.reduceEqDiff, Nat.reduceAdd, Nat.reduceMul, Nat.reduceSub, Nat.reduceLT, Nat.reduceLeDiff, Nat.reduceBEq, Int.reduceLT, Int.reduceLE, reduceCtorEq, Int.reduceToNat, Int.reduceAdd, Int.reduceSub, Int.reduceMul]
   refine feed_ok co4 dinv.1 y yr fun h5 u o5 c5 => ?_
   have N := nxt h5 st' (v'.qs ++ fauB e') (((o.trans (o12.f _)).trans (o3.f _)).trans ((o4.mono fun z hz => .inl (.inr hz)).trans (o5.f (.inl (.inl rfl))))) (H.keep I4 (o5.f (.inl rfl))) c5 ⟨_, _, b4.keep o5.next (o5.obj _ b4.lp (Ne.symm c.xp.1)) (o5.obj _ b4.ln (Ne.symm c.xp.2))⟩ (by unfold stepS; rw [if_neg p0, ← he', if_pos pf, if_neg rm])
   simp (disch := omega) only [c39, ↓R39, e0, e1, e2, e17, e18, e19, nx, ↓RnP, RnQ, Nat.reduceEqDiff, Nat.reduceAdd, Nat.reduceMul, Nat.reduceSub, Nat.reduceLT, Nat.reduceLeDiff, Nat.reduceBEq, Int.reduceLT, Int.reduceLE, reduceCtorEq, Int.reduceToNat, Int.reduceAdd, Int.reduceSub, Int.reduceMul]
   refine ⟨d - 1, by omega, i + 1, _, _, by omega, N.1, N.2.1, N.2.2.1, N.2.2.2.1, N.2.2.2.2.1, N.2.2.2.2.2.1, N.2.2.2.2.2.2.1, N.2.2.2.2.2.2.2, ?_⟩
   repeat' first | assumption | rfl | apply And.intro
 have pf' : (e' != 0) = false := by rw [show e' = 0 by omega]; rfl
 cases hsome : (parseS (v'.bs.take v'.n ++ [y]) v'.r).1 with
 | none =>
  simp (disch := omega) only [c39, ↓R39, ReqV.val, reqV, e0, e1, e2, e17, e18, e19, fillIn, ← h2d, pf', hsome, Option.isSome_none, ↓RnP, RnQ, Nat.reduceEqDiff, Nat.reduceAdd, Nat.reduceMul, Nat.reduceSub, Nat.reduceLT, Nat.reduceLeDiff, Nat.reduceBEq, Int.reduceLT, Int.reduceLE, reduceCtorEq, Int.reduceToNat, Int.reduceAdd, Int.reduceSub, Int.reduceMul]
  have co2 : ConnO h2 A.x v'.bs v'.n v'.r 0 A.p A.rr v'.w := by rw [← pe]; exact c2.o
  refine feed_ok co2 dinv.1 y yr fun h5 u o5 c5 => ?_
  have N := nxt h5 st' v'.qs ((o.trans (o12.f _)).trans (o5.f (.inl (.inl rfl)))) (H.keep I2 (o5.f (.inl rfl))) c5 ⟨_, _, b2.keep o5.next (o5.obj _ b2.lp (Ne.symm c.xp.1)) (o5.obj _ b2.ln (Ne.symm c.xp.2))⟩ (by unfold stepS; rw [if_neg p0, ← he', if_neg pf, hsome]; rfl)
  simp (disch := omega) only [c39, ↓R39, e0, e1, e2, e17, e18, e19, nx, ↓RnP, RnQ, Nat.reduceEqDiff, Nat.reduceAdd, Nat.reduceMul, Nat.reduceSub, Nat.reduceLT, Nat.reduceLeDiff, Nat.reduceBEq, Int.reduceLT, Int.reduceLE, reduceCtorEq, Int.reduceToNat, Int.reduceAdd, Int.reduceSub, Int.reduceMul]
  refine ⟨d - 1, by omega, i + 1, _, _, by omega, N.1, N.2.1, N.2.2.1, N.2.2.2.1, N.2.2.2.2.1, N.2.2.2.2.2.1, N.2.2.2.2.2.2.1, N.2.2.2.2.2.2.2, ?_⟩
  repeat' first | assumption | rfl | apply And.intro
 | some q' =>
  have hqq : q' = q := by rw [hq, hsome]; rfl
  subst hqq
  have rq : ReqOK A.rr q' := by
   have := parseS_ok (l := v'.bs.take v'.n ++ [y]) (r := v'.r) (tk_byts c.o.byt yr) (q := q') (e := e') (by rw [he', ← hsome])
   rw [← hr]; exact this.2
  have okk := hq1 q' hsome
  have hln := H.len I2 rq okk
  have fm := fun Q hQ => H.most_ok (Q := Q) I2 rq okk hQ
  unfold ReqV.val reqV at fm
  simp (disch := omega) only [c39, ↓R39, ReqV.val, reqV, e0, e1, e2, e17, e18, e19, fillIn, ← h2d, g2, ox2, connL_78 hl, froom, pf', hsome, Option.isSome_some, callv_m, ↓RnP, RnQ, Nat.reduceEqDiff, Nat.reduceAdd, Nat.reduceMul, Nat.reduceSub, Nat.reduceLT, Nat.reduceLeDiff, Nat.reduceBEq, Int.reduceLT, Int.reduceLE, reduceCtorEq, Int.reduceToNat, Int.reduceAdd, Int.reduceSub, Int.reduceMul]
  refine fm _ fun h2x o2x => ?_
  have c2x := c2.old o2x
  have ox2x := c2x.o.ox
  have b2x := b2.keep (h' := h2x) o2x.next (o2x.obj _ b2.lp) (o2x.obj _ b2.ln)
  have I2x := H.keep I2 (o2x.f A.own)
  have n2x := o2x.next
  have g2x := (o2x.obj h1.next (by omega)).trans g2
  by_cases rm : ((A.S - v'.qs.length : Nat) : Int) < most st' q'
  ·have rm' : decide (((A.S - v'.qs.length : Nat) : Int) < most st' q') = true := decide_eq_true rm
   simp (disch := omega) only [c39, ↓R39, e0, e1, e2, e17, e18, e19, rm', ↓RnP, RnQ, Nat.reduceEqDiff, Nat.reduceAdd, Nat.reduceMul, Nat.reduceSub, Nat.reduceLT, Nat.reduceLeDiff, Nat.reduceBEq, Int.reduceLT, Int.reduceLE, reduceCtorEq, Int.reduceToNat, Int.reduceAdd, Int.reduceSub, Int.reduceMul]
   exact stop (by unfold stepS; rw [if_neg p0, ← he', if_neg pf, hsome]; show (if _ then _ else _) = _; rw [if_pos rm]) h2x (o.trans ((o12.trans o2x).f _)) I2x c2x
  ·have rm' : decide (((A.S - v'.qs.length : Nat) : Int) < most st' q') = false := decide_eq_false rm
   have fa := fun Q hQ => H.ans_ok (Q := Q) I2x rq okk hQ
   unfold ReqV.val reqV at fa
   simp (disch := omega) only [c39, ↓R39, e0, e1, e2, e17, e18, e19, rm', ox2x, g2x, connL_78 hl, callv_m, ↓RnP, RnQ, Nat.reduceEqDiff, Nat.reduceAdd, Nat.reduceMul, Nat.reduceSub, Nat.reduceLT, Nat.reduceLeDiff, Nat.reduceBEq, Int.reduceLT, Int.reduceLE, reduceCtorEq, Int.reduceToNat, Int.reduceAdd, Int.reduceSub, Int.reduceMul]
   refine fa _ fun h3 v3 b3 o3 I3 V3 hb3 => ?_
   have c3 := c2x.oldF o3 H.apart
   have ox3 := c3.o.ox
   have b3' := b2x.keep (h' := h3) o3.next (o3.obj _ b2x.lp (H.apart _ (.inr (.inl rfl)))) (o3.obj _ b2x.ln (H.apart _ (.inr (.inr rfl))))
   have n3 := o3.next
   have ptr := fun Q => @bput_ok h3 A.p A.nb A.S ba bB v'.qs b3' v3 (ans st' q').2 V3.bys hln.2 (by have := hln.1; have := b2.hn; omega) (fun z o cap hv => by
    have := V3.blk hv
    have l1 := b2x.lp
    have l2 := b2x.ln
    unfold buf2
    omega) Q
   simp (disch := omega) only [c39, ↓R39, ox3, connL_78 hl, ↓RnP, RnQ, Nat.reduceEqDiff, Nat.reduceAdd, Nat.reduceMul, Nat.reduceSub, Nat.reduceLT, Nat.reduceLeDiff, Nat.reduceBEq, Int.reduceLT, Int.reduceLE, reduceCtorEq, Int.reduceToNat, Int.reduceAdd, Int.reduceSub, Int.reduceMul]
   refine ptr _ fun h4 B4 o4 hn4 b4 => ?_
   have co4 : ConnO h4 A.x v'.bs v'.n v'.r 0 A.p A.rr v'.w := by rw [← pe]; exact c3.o.keep o4.next (o4.obj _ c3.o.lx (fun h => h.elim c.xp.1 c.xp.2))
   have I4 := H.keep I3 (o4.mono fun z hz => .inr hz)
   have noT : assertT 291 [] .nilIface (.iface 35 (.pointer (some ⟨s, 0, none⟩))) = some (.tuple #[.nilIface, .bool false]) := by simp [assertT]
   simp (disch := omega) only [c39, ↓R39, e0, e1, e2, e17, e18, e19, noT, ↓RnP, RnQ, Nat.reduceEqDiff, Nat.reduceAdd, Nat.reduceMul, Nat.reduceSub, Nat.reduceLT, Nat.reduceLeDiff, Nat.reduceBEq, Int.reduceLT, Int.reduceLE, reduceCtorEq, Int.reduceToNat, Int.reduceAdd, Int.reduceSub, Int.reduceMul]
   refine feed_ok co4 dinv.1 y yr fun h5 u o5 c5 => ?_
   have N := nxt h5 (ans st' q').1 (v'.qs ++ (ans st' q').2) ((((o.trans (o12.f _)).trans (o2x.f _)).trans (o3.mono fun z hz => .inr hz)).trans ((o4.mono fun z hz => .inl (.inr hz)).trans (o5.f (.inl (.inl rfl))))) (H.keep I4 (o5.f (.inl rfl))) c5 ⟨_, _, b4.keep o5.next (o5.obj _ b4.lp (Ne.symm c.xp.1)) (o5.obj _ b4.ln (Ne.symm c.xp.2))⟩ (by unfold stepS; rw [if_neg p0, ← he', if_neg pf, hsome]; show (if _ then _ else _) = _; rw [if_neg rm])
   simp (disch := omega) only [c39, ↓R39, e0, e1, e2, e17, e18, e19, nx, ↓RnP, RnQ, Nat.reduceEqDiff, Nat.reduceAdd, Nat.reduceMul, Nat.reduceSub, Nat.reduceLT, Nat.reduceLeDiff, Nat.reduceBEq, Int.reduceLT, Int.reduceLE, reduceCtorEq, Int.reduceToNat, Int.reduceAdd, Int.reduceSub, Int.reduceMul]
   refine ⟨d - 1, by omega, i + 1, _, _, by omega, N.1, N.2.1, N.2.2.1, N.2.2.2.1, N.2.2.2.2.1, N.2.2.2.2.2.1, N.2.2.2.2.2.2.1, N.2.2.2.2.2.2.2, ?_⟩
   repeat' first | assumption | rfl | apply And.intro
end
end Go.Proofs.YtlakhgibjfmjjaaGreat.Can
namespace Go.Proofs.YtlakhgibjfmjjaaGreat.Can
open Go
theorem pfxS_good {l : List Int} {r : Int} (h : ∀ i, i < l.length → faultS (l.getD 3 0) i (l.getD i 0) r = 0) : ∀ d i, i + d = l.length → pfxS l r d i = 0
 | 0, _, _ => rfl
 | d + 1, i, hd => by
  simp only [pfxS]
  split
  ·rfl
  ·rw [if_pos (h i (by omega))]; exact pfxS_good h d (i + 1) (by omega)
theorem faultS_low {x y c r : Int} {i : Nat} (hi : i < 4) : faultS x i c r = faultS y i c r := by
 unfold faultS
 have : i = 0 ∨ i = 1 ∨ i = 2 ∨ i = 3 := by omega
 rcases this with rfl | rfl | rfl | rfl <;> rfl
theorem faultS_3 {x c r : Int} (h : c = 2 ∨ c = 3 ∨ 7 ≤ c ∧ c ≤ 71) : faultS x 3 c r = 0 := by
 have : faultS x 3 c r = if c = 2 ∨ c = 3 ∨ 7 ≤ c ∧ c ≤ 71 then 0 else 7 := rfl
 rw [this, if_pos h]
theorem faultS_4 {x c r : Int} (h : fitsS c x = true) : faultS x 4 c r = 0 := by
 have : faultS x 4 c r = if fitsS c x = true then 0 else 8 := rfl
 rw [this, if_pos h]
theorem faultS_5 {x c r : Int} (h : c < r) : faultS x 5 c r = 0 := by
 have : faultS x 5 c r = if c < r then 0 else 9 := rfl
 rw [this, if_pos h]
theorem faultS_10 {x c r : Int} (h : c = x - 7) : faultS x 10 c r = 0 := by
 have : faultS x 10 c r = if c = x - 7 then 0 else 10 := rfl
 rw [this, if_pos h]
structure Fr (l : List Int) (r : Int) : Prop where
 len : (l.length : Int) = 4 + l.getD 3 0
 l4 : 4 < l.length
 ok : ∀ i, i < l.length → faultS (l.getD 3 0) i (l.getD i 0) r = 0
theorem take_getD {l : List Int} {m i : Nat} (h : i < m) : (l.take m).getD i 0 = l.getD i 0 := by
 rw [List.getD_eq_getElem?_getD, List.getD_eq_getElem?_getD, List.getElem?_take, if_pos h]
theorem Fr.pre {l : List Int} {r : Int} (f : Fr l r) {m : Nat} (hm : m ≤ l.length) : pfxS (l.take m) r (l.take m).length 0 = 0 := by
 have hl : (l.take m).length = m := by rw [List.length_take]; omega
 refine pfxS_good (fun i hi => ?_) _ _ (by omega)
 rw [hl] at hi
 rw [take_getD hi]
 by_cases h4 : i < 4
 ·rw [faultS_low h4]; exact f.ok i (by omega)
 ·rw [take_getD (by omega)]; exact f.ok i (by omega)
theorem Fr.part {l : List Int} {r : Int} (f : Fr l r) {m : Nat} (hm : m < l.length) : parseS (l.take m) r = (none, 0) := by
 have hl : (l.take m).length = m := by rw [List.length_take]; omega
 have h0 := f.pre (Nat.le_of_lt hm)
 unfold parseS
 rw [if_neg (by omega), if_pos]
 rw [hl]
 by_cases h4 : m < 4
 ·exact .inl h4
 ·right; rw [take_getD (by omega)]; have := f.len; omega
theorem Fr.whole {l : List Int} {r : Int} (f : Fr l r) : parseS l r = (some (reqOf l), 0) := by
 have h0 := f.pre (Nat.le_refl _)
 rw [List.take_length] at h0
 have := f.len
 have := f.l4
 unfold parseS
 rw [if_neg (by omega), if_neg (by omega)]
section
variable {σ : Type} (most : σ → ReqV → Int) (ans : σ → ReqV → σ × List Int) (S : Nat)
theorem accept_frame {l : List Int} {r : Int} (f : Fr l r) (st : σ) (hroom : ∀ v : CV, True) : ∀ (d j : Nat) (v : CV), j + d = l.length → 0 < d → v.bs.length = 75 → v.e = 0 → v.n = j → v.r = r → v.bs.take j = l.take j → j ≤ 74 →
  (most st (reqOf l) ≤ ((S - v.qs.length : Nat) : Int)) → l.length ≤ 75 →
  ∃ bs, bs.length = 75 ∧ acceptS most ans S (l.drop j) st v = ((ans st (reqOf l)).1, { v with bs := bs, n := 0, qs := v.qs ++ (ans st (reqOf l)).2 }, d)
 | 0, j, v, hj, hd, _, _, _, _, _, _, _, _ => by omega
 | d + 1, j, v, hj, hd, hb, he, hn, hr, ht, h74, hm, hl => by
  have hdrop : l.drop j = l[j] :: l.drop (j + 1) := List.drop_eq_getElem_cons (by omega)
  have hx : l[j]? = some l[j] := List.getElem?_eq_getElem (by omega)
  obtain ⟨y, hy⟩ : ∃ y, y = l[j]'(by omega) := ⟨_, rfl⟩
  rw [← hy] at hx hdrop
  have tk : v.bs.take v.n ++ [y] = l.take (j + 1) := by rw [hn, ht, ← take_get hx]
  rw [hdrop]
  simp only [acceptS, stepS]
  rw [if_neg (by omega), tk, hr]
  by_cases c : d = 0
  ·have e : l.take (j + 1) = l := List.take_of_length_le (by omega)
   have fe : feedV v y = { v with n := 0 } := by
    have e1 : feedS v.bs v.n y v.r = (v.bs, 0, 0) := by
     unfold feedS; rw [tk, e, hr, f.whole, if_neg (by simp), if_pos (by simp)]
    unfold feedV; rw [e1]; simp [he]
   rw [e, f.whole, fe]
   simp only [ne_eq, not_true_eq_false, if_false]
   rw [if_neg (by omega)]
   have dn : l.drop (j + 1) = [] := List.drop_eq_nil_of_le (by omega)
   subst c
   exact ⟨v.bs, hb, by simp [dn, acceptS, hr]⟩
  ·have pt := f.part (m := j + 1) (by omega)
   have fe : feedV v y = { v with bs := v.bs.set j y, n := j + 1 } := by
    have e1 : feedS v.bs v.n y v.r = (v.bs.set j y, j + 1, 0) := by
     unfold feedS; rw [tk, hr, pt, if_neg (by simp), if_neg (by simp), hn]
    unfold feedV; rw [e1]; simp [he]
   rw [pt, fe]
   simp only [ne_eq, not_true_eq_false, if_false]
   obtain ⟨bs, hbs, ih⟩ := accept_frame f st hroom d (j + 1) { v with bs := v.bs.set j y, n := j + 1 } (by omega) (by omega) (by simp [hb]) he rfl hr (by show (v.bs.set j y).take (j + 1) = _; rw [set_take (by omega), ht, ← take_get hx]) (by omega) hm hl
   refine ⟨bs, hbs, ?_⟩
   rw [ih]
   simp [hr]
end
section
variable {σ : Type} (most : σ → ReqV → Int) (ans : σ → ReqV → σ × List Int) (S : Nat) {okq : ReqV → Prop}
theorem ok_frame {l : List Int} {r : Int} (f : Fr l r) (hq : okq (reqOf l)) : ∀ (d j : Nat) (st : σ) (v : CV), j + d = l.length → v.bs.length = 75 → v.n = j → v.r = r → v.bs.take j = l.take j → l.length ≤ 75 → okS most ans S okq (l.drop j) st v
 | 0, j, st, v, hj, _, _, _, _, _ => by rw [List.drop_eq_nil_of_le (by omega)]; trivial
 | d + 1, j, st, v, hj, hb, hn, hr, ht, hl => by
  have hdrop : l.drop j = l[j] :: l.drop (j + 1) := List.drop_eq_getElem_cons (by omega)
  have hx : l[j]? = some l[j] := List.getElem?_eq_getElem (by omega)
  obtain ⟨y, hy⟩ : ∃ y, y = l[j]'(by omega) := ⟨_, rfl⟩
  rw [← hy] at hx hdrop
  have tk : v.bs.take v.n ++ [y] = l.take (j + 1) := by rw [hn, ht, ← take_get hx]
  rw [hdrop]
  by_cases c : d = 0
  ·have e : l.take (j + 1) = l := List.take_of_length_le (by omega)
   refine ⟨fun q h => ?_, fun x _ => ?_⟩
   ·rw [tk, e, hr, f.whole] at h
    rw [← Option.some.inj h]; exact hq
   ·rw [List.drop_eq_nil_of_le (by omega)]; trivial
  ·have pt := f.part (m := j + 1) (by omega)
   refine ⟨fun q h => ?_, fun x hx2 => ?_⟩
   ·rw [tk, hr, pt] at h; exact absurd h (by simp)
   ·have e1 : feedS v.bs v.n y v.r = (v.bs.set j y, j + 1, 0) := by
     unfold feedS; rw [tk, hr, pt, if_neg (by simp), if_neg (by simp), hn]
    have fe : feedV v y = { v with bs := v.bs.set j y, n := j + 1, e := 0 } := by
     unfold feedV; rw [e1]
    unfold stepS at hx2
    rw [tk, hr, pt, fe] at hx2
    split at hx2
    ·simp at hx2
    ·simp only [ne_eq, not_true_eq_false, if_false] at hx2
     rw [← Option.some.inj hx2]
     exact ok_frame f hq d (j + 1) st _ (by omega) (by simp [hb]) rfl hr (by show (v.bs.set j y).take (j + 1) = _; rw [set_take (by omega), ht, ← take_get hx]) hl
end
structure ReqC (r : Int) (q : ReqV) : Prop extends ReqOK r q where
 a : q.op = 1 ∨ q.op = 2 → q.k = 0
 b : q.op = 3 ∨ q.op = 4 → q.cost = 0 ∧ q.key = []
 c : q.op = 3 → q.k = 0
def frameB (q : ReqV) : List Int := wholeB 167 (reqB q.op q.rule q.cost q.key q.k)
theorem frameB_key {q : ReqV} {r : Int} (h : ReqC r q) (c : q.op = 1 ∨ q.op = 2) : ∃ w x y z : Int, encN 4 q.cost = [w, x, y, z] ∧ frameB q = (167 : Int) :: 1 :: 0 :: (7 + (q.key.length : Int)) :: q.op :: q.rule :: w :: x :: y :: z :: (q.key.length : Int) :: q.key := by
 have h1 := h.rule
 have h2 := h.len
 obtain ⟨w, x, y, z, he⟩ : ∃ w x y z : Int, encN 4 q.cost = [w, x, y, z] := ⟨_, _, _, _, rfl⟩
 refine ⟨w, x, y, z, he, ?_⟩
 unfold frameB wholeB reqB
 rw [if_pos c, he]
 have : ([q.op % 256, q.rule % 256] ++ ([w, x, y, z] ++ [(q.key.length : Int) % 256] ++ q.key)).length = 7 + q.key.length := by
  simp only [List.length_append, List.length_cons, List.length_nil]; omega
 rw [this, show (((7 + q.key.length : Nat) : Int)) / 256 % 256 = 0 by omega, show (((7 + q.key.length : Nat) : Int)) % 256 = 7 + q.key.length by omega, show q.rule % 256 = q.rule by omega, show (q.key.length : Int) % 256 = q.key.length by omega, show q.op % 256 = q.op by omega]
 simp
theorem frameB_ok {q : ReqV} {r : Int} (h : ReqC r q) : Fr (frameB q) r ∧ reqOf (frameB q) = q ∧ (frameB q).length ≤ 75 := by
 have hr := h.rule
 have hl := h.len
 have hop := h.op
 by_cases c : q.op = 1 ∨ q.op = 2
 ·obtain ⟨w, x, y, z, he, e⟩ := frameB_key h c
  have hd : decN [w, x, y, z] = q.cost := by rw [← he]; exact dec_enc 4 q.cost h.cost.1 (by have := h.cost.2; omega)
  rw [e]
  refine ⟨⟨?_, ?_, ?_⟩, ?_, ?_⟩
  ·simp only [List.length_cons, List.getD_cons_succ, List.getD_cons_zero]; omega
  ·simp only [List.length_cons]; omega
  ·intro i hi
   have fo : fitsS q.op (7 + (q.key.length : Int)) = true := by
    unfold fitsS; rw [if_pos c]; exact decide_eq_true (by omega)
   simp only [List.getD_cons_succ, List.getD_cons_zero]
   have : i = 0 ∨ i = 1 ∨ i = 2 ∨ i = 3 ∨ i = 4 ∨ i = 5 ∨ i = 10 ∨ (i ≠ 0 ∧ i ≠ 1 ∧ i ≠ 2 ∧ i ≠ 3 ∧ i ≠ 4 ∧ i ≠ 5 ∧ i ≠ 10) := by omega
   rcases this with rfl | rfl | rfl | rfl | rfl | rfl | rfl | ⟨n0, n1, n2, n3, n4, n5, n10⟩
   ·rfl
   ·rfl
   ·rfl
   ·exact faultS_3 (by show 7 + (q.key.length : Int) = 2 ∨ 7 + (q.key.length : Int) = 3 ∨ 7 ≤ 7 + (q.key.length : Int) ∧ 7 + (q.key.length : Int) ≤ 71; omega)
   ·exact faultS_4 fo
   ·exact faultS_5 hr.2.1
   ·exact faultS_10 (by show (q.key.length : Int) = 7 + (q.key.length : Int) - 7; omega)
   ·unfold faultS; rw [if_neg n0, if_neg n1, if_neg n2, if_neg n3, if_neg n4, if_neg n5, if_neg n10]
  ·unfold reqOf
   simp only [List.getD_cons_succ, List.getD_cons_zero, List.drop_succ_cons, List.drop_zero, List.take_succ_cons, List.take_zero]
   rw [if_pos c, hd, show (4 + (7 + (q.key.length : Int))).toNat - 11 = q.key.length by omega, List.take_length, ← h.a c]
  ·simp only [List.length_cons]; omega
 by_cases c3 : q.op = 3
 ·obtain ⟨b1, b2⟩ := h.b (.inl c3)
  have b3 := h.c c3
  have e : frameB q = [167, 1, 0, 2, 3, q.rule] := by
   unfold frameB wholeB reqB
   rw [if_neg c, if_neg (by omega), c3, show q.rule % 256 = q.rule by omega]; simp
  rw [e]
  refine ⟨⟨rfl, by simp, fun i hi => ?_⟩, ?_, by simp⟩
  ·have : i = 0 ∨ i = 1 ∨ i = 2 ∨ i = 3 ∨ i = 4 ∨ i = 5 := by simp at hi; omega
   rcases this with rfl | rfl | rfl | rfl | rfl | rfl
   ·rfl
   ·rfl
   ·rfl
   ·rfl
   ·rfl
   ·exact faultS_5 hr.2.1
  ·obtain ⟨a1, a2, a3, a4, a5⟩ := q
   simp only at b1 b2 b3 c3
   subst b1 b2 b3 c3
   rfl
 have c4 : q.op = 4 := by omega
 obtain ⟨b1, b2⟩ := h.b (.inr c4)
 have hk := h.k
 have e : frameB q = [167, 1, 0, 3, 4, q.rule, q.k] := by
  unfold frameB wholeB reqB
  rw [if_neg c, if_pos c4, c4, show q.rule % 256 = q.rule by omega, show q.k % 256 = q.k by omega]; simp
 rw [e]
 refine ⟨⟨rfl, by simp, fun i hi => ?_⟩, ?_, by simp⟩
 ·have : i = 0 ∨ i = 1 ∨ i = 2 ∨ i = 3 ∨ i = 4 ∨ i = 5 ∨ i = 6 := by simp at hi; omega
  rcases this with rfl | rfl | rfl | rfl | rfl | rfl | rfl
  ·rfl
  ·rfl
  ·rfl
  ·rfl
  ·rfl
  ·exact faultS_5 hr.2.1
  ·rfl
 ·obtain ⟨a1, a2, a3, a4, a5⟩ := q
  simp only at b1 b2 c4
  subst b1 b2 c4
  rfl
theorem accept_req {σ : Type} (most : σ → ReqV → Int) (ans : σ → ReqV → σ × List Int) (S : Nat) {q : ReqV} {r : Int} (h : ReqC r q) (st : σ) (v : CV) (hb : v.bs.length = 75) (he : v.e = 0) (hn : v.n = 0) (hr : v.r = r) (hm : most st q ≤ ((S - v.qs.length : Nat) : Int)) :
  ∃ bs, bs.length = 75 ∧ acceptS most ans S (frameB q) st v = ((ans st q).1, { v with bs := bs, n := 0, qs := v.qs ++ (ans st q).2 }, (frameB q).length) := by
 obtain ⟨f, hq, hl⟩ := frameB_ok h
 have := accept_frame most ans S f st (fun _ => trivial) (frameB q).length 0 v (by omega) (by have := f.l4; omega) hb he hn hr rfl (by decide) (by rw [hq]; exact hm) hl
 rw [hq] at this
 exact this
theorem ok_req {σ : Type} (most : σ → ReqV → Int) (ans : σ → ReqV → σ × List Int) (S : Nat) {okq : ReqV → Prop} {q : ReqV} {r : Int} (h : ReqC r q) (hq : okq q) (st : σ) (v : CV) (hb : v.bs.length = 75) (hn : v.n = 0) (hr : v.r = r) : okS most ans S okq (frameB q) st v := by
 obtain ⟨f, e, hl⟩ := frameB_ok h
 exact ok_frame most ans S f (by rw [e]; exact hq) (frameB q).length 0 st v (by omega) hb hn hr rfl hl
end Go.Proofs.YtlakhgibjfmjjaaGreat.Can
namespace Go.Proofs.YtlakhgibjfmjjaaGreat.Can
open Go
attribute [local congr] RunR_congr RunC_congr afterR_congr guardR_congr condQ_congr CALL_congr finQ_congr op_congr opg_congr
def ptrV (p : Nat) : Value := .pointer (some ⟨p, 0, none⟩)
def PSl (h : Heap) (t : TypeId) (v : Value) (l : List Nat) (b : Nat) : Prop :=
 (v = .slice none 0 0 ∧ l = []) ∨ ∃ cap rest, v = .slice (some ⟨b, 0, none⟩) l.length cap ∧ b < h.next ∧ h.obj b = .cells (l.map ptrV ++ rest) t .grow ∧ l.length + rest.length = cap ∧ l.length ≤ cap
section
variable {h h' : Heap} {t : TypeId} {v : Value} {l : List Nat} {b : Nat} {CP : CProg}
theorem PSl.nil (h : Heap) (t : TypeId) (b : Nat) : PSl h t (.slice none 0 0) [] b := .inl ⟨rfl, rfl⟩
theorem PSl.keep (V : PSl h t v l b) (hn : h.next ≤ h'.next) (ho : b < h.next → h'.obj b = h.obj b) : PSl h' t v l b := by
 rcases V with V | ⟨cap, rest, h1, h2, h3, h4⟩
 ·exact .inl V
 ·exact .inr ⟨cap, rest, h1, Nat.lt_of_lt_of_le h2 hn, by rw [ho h2]; exact h3, h4⟩
theorem PSl.old (V : PSl h t v l b) (o : Old h h') : PSl h' t v l b := V.keep o.next fun hb => o.obj b hb
theorem PSl.val (V : PSl h t v l b) : ∃ a cap, v = .slice a l.length cap := by
 rcases V with ⟨rfl, rfl⟩ | ⟨cap, rest, h1, _⟩
 ·exact ⟨none, 0, rfl⟩
 ·exact ⟨_, cap, h1⟩
theorem PSl.get (V : PSl h t v l b) {i p : Nat} (hx : l[i]? = some p) : ∃ cap, v = .slice (some ⟨b, 0, none⟩) l.length cap ∧ b < h.next ∧ (h.obj b).get i = some (ptrV p) := by
 rcases V with ⟨rfl, rfl⟩ | ⟨cap, rest, h1, h2, h3, _⟩
 ·simp at hx
 ·have hi := (List.getElem?_eq_some_iff.1 hx).1
  refine ⟨cap, h1, h2, ?_⟩
  rw [h3, get_cells, List.getElem?_append_left (by simpa using hi), List.getElem?_map, hx]; rfl
theorem PSl.app (V : PSl h t v l b) {p y c : Nat} (hy : srcCells h 1 (.slice (some ⟨y, 0, none⟩) 1 c) = some ([ptrV p], 1)) (hl : l.length ≤ 1000) {k : Value → Reg} {Q : Post}
  (hQ : ∀ v' h' b', PSl h' t v' (l ++ [p]) b' → h.next ≤ h'.next → ((v ≠ .slice none 0 0 ∧ b' = b) ∨ h.next ≤ b') → (∀ x, x < h.next → (v = .slice none 0 0 ∨ x ≠ b) → h'.obj x = h.obj x) → RunR CP (k v') h' Q) :
  afterR CP (copAppend t 1 8 v (.slice (some ⟨y, 0, none⟩) 1 c) h) k Q := by
 unfold copAppend
 rw [hy]
 rcases V with ⟨rfl, rfl⟩ | ⟨cap, rest, rfl, h2, h3, h4, h5⟩
 ·simp only [Nat.zero_add]
  rw [if_neg (by decide), if_pos (by decide)]
  refine hQ _ _ h.next (.inr ⟨1, [], by simp, Nat.lt_succ_self _, by rw [obj_new_same]; rfl, by simp, by simp⟩) (Nat.le_succ _) (.inr (Nat.le_refl _)) (fun x hx _ => obj_new_ne _ _ (by omega))
 ·have hlen : (l.map ptrV).length = l.length := List.length_map ..
  by_cases hfit : l.length + 1 ≤ cap
  ·simp only [if_pos hfit, if_true, h3, Nat.zero_add, Nat.mul_one]
   have w := setAt_over (l.map ptrV) [ptrV p] rest (by show 1 ≤ rest.length; omega)
   rw [hlen] at w
   rw [write_grow, if_pos (by rw [List.length_append, hlen]; show l.length + 1 ≤ _; omega), w]
   refine hQ _ _ b (.inr ⟨cap, rest.drop 1, by rw [List.length_append, List.length_singleton], h2, by rw [obj_upd_same, List.map_append]; rfl, ?_, by rw [List.length_append, List.length_singleton]; exact hfit⟩) (Nat.le_refl _) (.inl ⟨by simp, rfl⟩) (fun x _ hx => obj_upd_ne _ _ (hx.resolve_left (by simp)))
   rw [List.length_append, List.length_singleton, List.length_drop]; omega
  ·simp only [if_neg hfit, if_pos (show (l.length + 1) * 8 ≤ 140737488355328 ∧ l.length + 1 ≤ 9223372036854775807 by omega), h3]
   rw [if_pos ⟨trivial, trivial, by rw [List.length_append, hlen]; omega, h5⟩]
   refine hQ _ _ h.next (.inr ⟨l.length + 1, [], by rw [List.length_append, List.length_singleton], Nat.lt_succ_self _, ?_, by simp, by simp⟩) (Nat.le_succ _) (.inr (Nat.le_refl _)) (fun x hx hxb => ?_)
   ·rw [show h.next = (h.upd b .gone).next from rfl, obj_new_same, List.append_nil, List.drop_zero, Nat.mul_one]
    have : (l.map ptrV ++ rest).take l.length = l.map ptrV := by rw [← hlen]; exact List.take_left
    rw [this, List.map_append]; rfl
   ·rw [obj_new_ne _ _ (by show x ≠ h.next; omega), obj_upd_ne _ _ (hxb.resolve_left (by simp))]
end
end Go.Proofs.YtlakhgibjfmjjaaGreat.Can
namespace Go.Proofs.YtlakhgibjfmjjaaGreat.Can
open Go
attribute [local congr] RunR_congr RunC_congr afterR_congr guardR_congr condQ_congr CALL_congr finQ_congr op_congr opg_congr
def drawS (sl : List Int) (ru i : Nat) : Int :=
 if 0 < sl.length then IntKind.u64.wrap ((BitVec.ofInt IntKind.u64.bits (IntKind.u64.wrap ((BitVec.ofInt IntKind.u64.bits (sl.getD ((ru + i) % sl.length) 0) ^^^ BitVec.ofInt IntKind.u64.bits ((ru : Int) * 2 ^ 56)).toNat : Int)) ^^^ BitVec.ofInt IntKind.u64.bits (IntKind.u64.wrap ((i : Int) * 11400714819323198485))).toNat : Int)
 else 0
def shareS (sl : List Int) (ru n : Nat) : List Int := (List.range n).map (drawS sl ru)
theorem shareS_u (sl : List Int) (ru n : Nat) : U64s (shareS sl ru n) := fun x hx => by
 obtain ⟨i, _, rfl⟩ := List.mem_map.1 hx
 unfold drawS U64
 split
 ·rw [wu64]; omega
 ·omega
theorem fill_set (A : List Int) (m : Nat) (x : Int) : (A ++ List.replicate (m + 1) 0).set A.length x = A ++ [x] ++ List.replicate m 0 := by
 rw [List.set_append_right _ _ (Nat.le_refl _), Nat.sub_self, List.replicate_succ, List.set_cons_zero, List.append_assoc]; rfl
theorem share_ok (h : Heap) (sv : Value) (sl : List Int) (hs : Lst h (Enc.int .u64) sv sl) (hl : sl.length ≤ 1000000) (ru n : Nat) (hr : ru ≤ 100) (hn : n ≤ 100) {Q : Value → Heap → Prop}
  (hQ : ∀ h' v, Old h h' → Lst h' (Enc.int .u64) v (shareS sl ru n) → Q v h') : CALL cp 60 [sv, .int .i64 ru, .int .i64 n] h Q := by
 rw [CALL_enter cp cp60]
 obtain ⟨a, cap, rfl, hrd⟩ := hs
 have z0 : ¬ (n : Int) < 0 := by omega
 simp (disch := omega) only [c60, ↓R60, reps_int, ↓RnP, RnQ, Nat.reduceEqDiff, Nat.reduceAdd, Nat.reduceMul, Nat.reduceSub, Nat.reduceLT, Nat.reduceLeDiff, Nat.reduceBEq, Int.reduceLT, Int.reduceLE, reduceCtorEq, Int.reduceToNat, Int.reduceAdd, Int.reduceSub, Int.reduceMul]
 refine RunC_loop cp c60_l0 _ (fun d e hh => ∃ i : Nat, i + d = n ∧ Old h hh ∧ hh.obj h.next = .cells (ints .u64 (shareS sl ru i ++ List.replicate (n - i) 0)) 78 .grow ∧ h.next < hh.next ∧ e 0 = .slice a sl.length cap ∧ e 1 = .int .i64 ru ∧ e 7 = .slice (some ⟨h.next, 0, none⟩) n n ∧ e 12 = .int .i64 n ∧ e 13 = .int .i64 i) ?_ n _ _
  ⟨0, by omega, (Old.refl h).more _, obj_new_same _ _, Nat.lt_succ_self _, rfl, rfl, rfl, rfl, rfl⟩
 rintro d e hh ⟨i, hi, o, ol, lt, e0, e1, e7, e12, e13⟩
 have sl' : (shareS sl ru i).length = i := by simp [shareS]
 have hon := o.next
 by_cases ci : i < n
 rotate_left
 ·have b1 : decide ((i : Int) < (n : Int)) = false := decide_eq_false (by omega)
  obtain rfl : i = n := by omega
  simp (disch := omega) only [c60_l0, c60, ↓R60, e0, e1, e7, e12, e13, b1, ↓RnP, RnQ, Nat.reduceEqDiff, Nat.reduceAdd, Nat.reduceMul, Nat.reduceSub, Nat.reduceLT, Nat.reduceLeDiff, Nat.reduceBEq, Int.reduceLT, Int.reduceLE, reduceCtorEq, Int.reduceToNat, Int.reduceAdd, Int.reduceSub, Int.reduceMul]
  refine hQ _ _ o ⟨_, i, by rw [sl'], fun j x hx => ⟨h.next, 0, rfl, lt, ?_⟩⟩
  have hj := (List.getElem?_eq_some_iff.1 hx).1
  rw [ol, Nat.sub_self, List.replicate_zero, List.append_nil, read_cells, if_pos (by rw [ints_len]; show 0 + j * 1 + 1 ≤ _; omega)]
  have := ints_get .u64 _ hx
  show some (((ints .u64 (shareS sl ru i)).drop (0 + j * 1)).take 1) = some [Value.int .u64 x]
  rw [Nat.zero_add, Nat.mul_one, List.take_one, List.head?_drop, this]; rfl
 have b1 : decide ((i : Int) < (n : Int)) = true := decide_eq_true (by omega)
 have nx : (i : Int) + 1 = ((i + 1 : Nat) : Int) := by omega
 have ll : (shareS sl ru i ++ List.replicate (n - i) 0).length = n := by simp [sl']; omega
 have hset : (shareS sl ru i ++ List.replicate (n - i) 0).set i (drawS sl ru i) = shareS sl ru (i + 1) ++ List.replicate (n - (i + 1)) 0 := by
  have := fill_set (shareS sl ru i) (n - i - 1) (drawS sl ru i)
  rw [sl', show n - i - 1 + 1 = n - i by omega] at this
  rw [this]
  have e : shareS sl ru (i + 1) = shareS sl ru i ++ [drawS sl ru i] := by simp [shareS, List.range_succ]
  rw [e, show n - (i + 1) = n - i - 1 by omega]
 have upd : Old h (hh.upd h.next (.cells (ints .u64 (shareS sl ru (i + 1) ++ List.replicate (n - (i + 1)) 0)) 78 .grow)) := ⟨by rw [next_upd]; omega, fun z hz => by rw [obj_upd_ne _ _ (by omega)]; exact o.obj z hz⟩
 by_cases c0 : 0 < sl.length
 ·have b2 : decide ((sl.length : Int) > 0) = true := decide_eq_true (by omega)
  have k1 : (ru : Int) + (i : Int) = ((ru + i : Nat) : Int) := by omega
  have n0 : ((sl.length : Int) = 0) = False := eq_false (by omega)
  have t1 : Int.tmod ((ru + i : Nat) : Int) (sl.length : Int) = (((ru + i) % sl.length : Nat) : Int) := by rw [tmod_nn _ _ (by omega)]; rfl
  have hm : (ru + i) % sl.length < sl.length := Nat.mod_lt _ c0
  have hx : sl[(ru + i) % sl.length]? = some sl[(ru + i) % sl.length] := List.getElem?_eq_getElem hm
  have hgd : sl.getD ((ru + i) % sl.length) 0 = sl[(ru + i) % sl.length] := by rw [List.getD_eq_getElem?_getD, hx]; rfl
  obtain ⟨x, hxd⟩ : ∃ x, x = sl[(ru + i) % sl.length] := ⟨_, rfl⟩
  rw [← hxd] at hx hgd
  obtain ⟨b, of, rfl, hb, hg⟩ := hrd _ _ hx
  have hg : (hh.obj b).get (of + (ru + i) % sl.length) = some (.int .u64 x) := by rw [o.obj b hb]; exact get_of_read (by simpa [Enc.int] using hg)
  have wr : IntKind.u64.wrap (ru : Int) = ru := by rw [wu64]; omega
  have wi : IntKind.u64.wrap (i : Int) = i := by rw [wu64]; omega
  have s8' := fun x : Int => shl_k .u64 x 56 (by decide)
  have hD : IntKind.u64.wrap ((BitVec.ofInt IntKind.u64.bits (IntKind.u64.wrap ((BitVec.ofInt IntKind.u64.bits x ^^^ BitVec.ofInt IntKind.u64.bits ((ru : Int) * 2 ^ 56)).toNat : Int)) ^^^ BitVec.ofInt IntKind.u64.bits (IntKind.u64.wrap ((i : Int) * 11400714819323198485))).toNat : Int) = drawS sl ru i := by
   unfold drawS; rw [if_pos c0, hgd]
  simp (disch := omega) only [c60_l0, c60, ↓R60, e0, e1, e7, e12, e13, b1, b2, k1, n0, t1, hg, nx, ol, ll, wr, wi, s8', hD, hset, setAt_one, ints_set, Nat.mul_one, ↓RnP, RnQ, Nat.reduceEqDiff, Nat.reduceAdd, Nat.reduceMul, Nat.reduceSub, Nat.reduceLT, Nat.reduceLeDiff, Nat.reduceBEq, Int.reduceLT, Int.reduceLE, reduceCtorEq, Int.reduceToNat, Int.reduceAdd, Int.reduceSub, Int.reduceMul]
  refine ⟨d - 1, by omega, i + 1, by omega, upd, ?_⟩
  repeat' first | assumption | rfl | apply And.intro
 ·have b2 : decide ((sl.length : Int) > 0) = false := decide_eq_false (by omega)
  have hD : drawS sl ru i = 0 := by unfold drawS; rw [if_neg c0]
  have e2 : shareS sl ru (i + 1) ++ List.replicate (n - (i + 1)) 0 = shareS sl ru i ++ List.replicate (n - i) 0 := by
   have e : shareS sl ru (i + 1) = shareS sl ru i ++ [drawS sl ru i] := by simp [shareS, List.range_succ]
   rw [e, hD, show n - i = (n - (i + 1)) + 1 by omega, List.replicate_succ, List.append_assoc]; rfl
  simp (disch := omega) only [c60_l0, c60, ↓R60, e0, e1, e7, e12, e13, b1, b2, nx, ↓RnP, RnQ, Nat.reduceEqDiff, Nat.reduceAdd, Nat.reduceMul, Nat.reduceSub, Nat.reduceLT, Nat.reduceLeDiff, Nat.reduceBEq, Int.reduceLT, Int.reduceLE, reduceCtorEq, Int.reduceToNat, Int.reduceAdd, Int.reduceSub, Int.reduceMul]
  rw [← e2] at ol
  refine ⟨d - 1, by omega, i + 1, by omega, o, ?_⟩
  repeat' first | assumption | rfl | apply And.intro
end Go.Proofs.YtlakhgibjfmjjaaGreat.Can
namespace Go.Proofs.YtlakhgibjfmjjaaGreat.Can
open Go
attribute [local congr] RunR_congr RunC_congr afterR_congr guardR_congr condQ_congr CALL_congr finQ_congr op_congr opg_congr
abbrev srvC (now first : Int) (again read : Bool) (bu : Int) (co ou : Nat) (crv cv rv ev : Value) : List Value :=
 [.int .i64 now, .int .i64 first, .bool again, .bool read, .int .i64 bu, .int .i64 co, .int .i64 ou, crv, cv, rv, ev]
def RuleV.t (r : RuleV) : RuleT := (r.L, r.Wd, r.B, r.S, r.C, r.R, r.W, r.T, r.sm)
theorem RuleV.enc (r : RuleV) : RE.enc r.t = r.c := rfl
theorem ConnAt.up {h h' : Heap} {A : CA} {v : CV} (c : ConnAt h A v) {s : Nat} (o : OldX s h h') (hs : ¬ A.own s) : ConnAt h' A v := c.keep o.next fun z hz => o.obj z (c.lt hz) fun e => hs (e ▸ hz)
set_option maxHeartbeats 4000000 in
theorem boot_ok (h : Heap) (s : Nat) (now first : Int) (again read : Bool) (bu : Int) (co ou : Nat) (crv cv0 rv0 ev : Value) (os : h.obj s = .cells (srvC now first again read bu co ou crv cv0 rv0 ev) 93 .fix) (ls : s < h.next)
  (hco : co ≤ 16) (hou : 1 ≤ ou ∧ ou ≤ 65536) (rl : List RuleV) (hrl : rl.length ≤ 8) (rok : ∀ r ∈ rl, r.OK) (cr : ∀ h', OldX s h h' → Lst h' RE crv (rl.map RuleV.t)) (sv : Value) (sl : List Int) (hsl : sl.length ≤ 1000000) (hsd : ∀ h', OldX s h h' → Lst h' (Enc.int .u64) sv sl) {Q : Value → Heap → Prop}
  (hQ : ∀ h' cv rv cb rb (cas : List CA) (las : List LA) (tg : Nat → Nat), OldX s h h' → h'.obj s = .cells (srvC now first again read bu co ou crv cv rv ev) 93 .fix →
   PSl h' 110 cv (cas.map CA.x) cb → PSl h' 94 rv (las.map LA.p) rb → cas.length = co → las.length = rl.length →
   (∀ i A, cas[i]? = some A → ConnAt h' A Can.cv0 ∧ A.S = ou ∧ A.rr = rl.length ∧ ∀ z, A.own z → h.next ≤ z ∧ tg z = 2 * i + 4) →
   (∀ i L, las[i]? = some L → ∃ r, rl[i]? = some r ∧ LimAt h' L (limV0 r) ∧ L.R = r ∧ L.rp.rows = rowsN (shareS sl i (3 * (r.R + 1))) r.R ∧ L.pa.row = rowN (shareS sl i (3 * (r.R + 1))) r.R ∧ L.sa.row = rowN (shareS sl i (3 * (r.R + 1))) r.R ∧ ∀ z, L.own z → h.next ≤ z ∧ tg z = 2 * i + 5) →
   (cas ≠ [] → h.next ≤ cb ∧ tg cb = 2) → (las ≠ [] → h.next ≤ rb ∧ tg rb = 3) → Q (.tuple #[]) h') :
  CALL cp 32 [.pointer (some ⟨s, 0, none⟩), sv] h Q := by
 rw [CALL_enter cp cp32]
 obtain ⟨ra, rcap, hcrv, _⟩ := cr h (OldX.refl s h)
 rw [List.length_map] at hcrv
 have o0 : OldX s h (h.upd s (.cells (srvC now first again read bu co ou crv (.slice none 0 0) (.slice none 0 0) ev) 93 .fix)) := OldX.upd _ _ _
 obtain ⟨h0, h0d⟩ : ∃ h0, h0 = (h.upd s (.cells (srvC now first again read bu co ou crv (.slice none 0 0) rv0 ev) 93 .fix)).upd s (.cells (srvC now first again read bu co ou crv (.slice none 0 0) (.slice none 0 0) ev) 93 .fix) := ⟨_, rfl⟩
 have o0 : OldX s h h0 := by rw [h0d]; exact (OldX.upd _ _ _).trans (OldX.upd _ _ _)
 have n0 : h0.next = h.next := by rw [h0d]; rfl
 have g0 : h0.obj s = .cells (srvC now first again read bu co ou crv (.slice none 0 0) (.slice none 0 0) ev) 93 .fix := by rw [h0d]; exact obj_upd_same _ _ _
 simp (disch := omega) only [c32, ↓R32, os, ← h0d, g0, ↓RnP, RnQ, Nat.reduceEqDiff, Nat.reduceAdd, Nat.reduceMul, Nat.reduceSub, Nat.reduceLT, Nat.reduceLeDiff, Nat.reduceBEq, Int.reduceLT, Int.reduceLE, reduceCtorEq, Int.reduceToNat, Int.reduceAdd, Int.reduceSub, Int.reduceMul]
 refine RunC_loop cp c32_l0 _ (fun d e hh => ∃ (j : Nat) (cas : List CA) (cv : Value) (cb : Nat) (tg : Nat → Nat), j + d = co ∧ OldX s h hh ∧ hh.obj s = .cells (srvC now first again read bu co ou crv cv (.slice none 0 0) ev) 93 .fix ∧
   PSl hh 110 cv (cas.map CA.x) cb ∧ cas.length = j ∧ (∀ i A, cas[i]? = some A → ConnAt hh A Can.cv0 ∧ A.S = ou ∧ A.rr = rl.length ∧ ∀ z, A.own z → h.next ≤ z ∧ tg z = 2 * i + 4) ∧ ((cas = [] ∧ cv = .slice none 0 0) ∨ (h.next ≤ cb ∧ cb < hh.next ∧ tg cb = 2)) ∧
   e 0 = .pointer (some ⟨s, 0, none⟩) ∧ e 1 = sv ∧ e 17 = .int .i64 co ∧ e 18 = .int .i64 j) ?_ co _ _
  ⟨0, [], _, 0, fun _ => 0, by omega, o0, g0, PSl.nil _ _ _, rfl, fun i A h => by simp at h, .inl ⟨rfl, rfl⟩, rfl, rfl, rfl, rfl⟩
 rintro d e hh ⟨j, cas, cv, cb, tg, hj, o, gs, V, hcl, hc, hcb, e0, e1, e17, e18⟩
 by_cases cj : j < co
 ·have b1 : decide ((j : Int) < (co : Int)) = true := decide_eq_true (by omega)
  have nx : (j : Int) + 1 = ((j + 1 : Nat) : Int) := by omega
  have hon := o.next
  simp (disch := omega) only [c32_l0, c32, ↓R32, e0, e1, e17, e18, b1, gs, hcrv, ↓RnP, RnQ, Nat.reduceEqDiff, Nat.reduceAdd, Nat.reduceMul, Nat.reduceSub, Nat.reduceLT, Nat.reduceLeDiff, Nat.reduceBEq, Int.reduceLT, Int.reduceLE, reduceCtorEq, Int.reduceToNat, Int.reduceAdd, Int.reduceSub, Int.reduceMul]
  refine connNew_ok hh rl.length ou hou fun h1 x p nb o1 hown c1 => ?_
  have n1 := o1.next
  have gs1 := (o1.obj s (by omega)).trans gs
  simp (disch := omega) only [c32, ↓R32, gs1, fillIn, reps, List.cons_append, List.nil_append, List.append_nil, ↓RnP, RnQ, Nat.reduceEqDiff, Nat.reduceAdd, Nat.reduceMul, Nat.reduceSub, Nat.reduceLT, Nat.reduceLeDiff, Nat.reduceBEq, Int.reduceLT, Int.reduceLE, reduceCtorEq, Int.reduceToNat, Int.reduceAdd, Int.reduceSub, Int.reduceMul]
  have V1 : PSl (h1.new (.cells [ptrV x] 110 .grow)) 110 cv (cas.map CA.x) cb := V.old (o1.trans ((Old.refl h1).more _))
  refine V1.app (p := x) (src_one h1 (ptrV x) _ 1) (by rw [List.length_map]; omega) fun v2 h2 b2 V2 n2 hb2 ho2 => ?_
  have n2' : h1.next + 1 ≤ h2.next := n2
  have hkeep : ∀ z, z < h1.next → (tg z ≠ 2 ∨ hh.next ≤ z ∨ z < h.next) → h2.obj z = h1.obj z := fun z hz hne => by
   rw [ho2 z (by show z < h1.next + 1; omega) ?_, obj_new_ne _ _ (by omega)]
   rcases hcb with ⟨hc0, hcv⟩ | ⟨k1, k2, k3⟩
   ·exact .inl hcv
   ·right
    intro e
    subst e
    omega
  obtain ⟨a2, cap2, hv2⟩ := V2.val
  obtain ⟨m2, hm2⟩ : ∃ m, m = (cas.map CA.x ++ [x]).length := ⟨_, rfl⟩
  rw [← hm2] at hv2
  subst hv2
  have gs2 := (hkeep s (by omega) (.inr (.inr ls))).trans gs1
  simp (disch := omega) only [c32, ↓R32, e0, e1, e17, e18, gs2, nx, ↓RnP, RnQ, Nat.reduceEqDiff, Nat.reduceAdd, Nat.reduceMul, Nat.reduceSub, Nat.reduceLT, Nat.reduceLeDiff, Nat.reduceBEq, Int.reduceLT, Int.reduceLE, reduceCtorEq, Int.reduceToNat, Int.reduceAdd, Int.reduceSub, Int.reduceMul]
  have o3 : OldX s h2 (h2.upd s (.cells (srvC now first again read bu co ou crv (.slice a2 m2 cap2) (.slice none 0 0) ev) 93 .fix)) := OldX.upd _ _ _
  subst hcrv
  have oo : OldX s h (h2.upd s (.cells (srvC now first again read bu co ou (.slice ra rl.length rcap) (.slice a2 m2 cap2) (.slice none 0 0) ev) 93 .fix)) :=
   ⟨by rw [next_upd]; omega, fun z hz hne => by rw [obj_upd_ne _ _ hne, hkeep z (by omega) (.inr (.inr hz)), o1.obj z (by omega), o.obj z hz hne]⟩
  have hb2' : b2 = cb ∨ h1.next + 1 ≤ b2 := hb2.imp And.right id
  have keepC : ∀ z, z < h1.next → (tg z ≠ 2 ∨ hh.next ≤ z ∨ z < h.next) → z ≠ s → ∀ c, (h2.upd s c).obj z = h1.obj z := fun z hz hne hs c => by rw [obj_upd_ne _ _ hs, hkeep z hz hne]
  have hcl' : ∀ i A, cas[i]? = some A → i < j := fun i A hi => by rw [← hcl]; exact (List.getElem?_eq_some_iff.1 hi).1
  refine ⟨d - 1, by omega, j + 1, cas ++ [⟨x, p, nb, ou, rl.length⟩], .slice a2 m2 cap2, b2, fun z => if z < hh.next then tg z else if z < h1.next then 2 * j + 4 else 2, by omega, oo, rfl, ?_, by simp [hcl], fun i A hi => ?_, ?_, ?_⟩
  ·rw [List.map_append]
   refine V2.keep (Nat.le_refl _) fun hl => obj_upd_ne _ _ ?_
   intro e
   subst e
   rcases hb2' with e | e
   ·rcases hcb with ⟨_, hcv⟩ | ⟨k1, k2, k3⟩
    ·subst hcv
     rcases V2 with ⟨_, hn⟩ | ⟨_, _, _, hl2, ho, _⟩
     ·simp at hn
     ·rw [gs2] at ho; simp at ho
    ·omega
   ·omega
  ·by_cases hij : i < j
   ·rw [List.getElem?_append_left (by omega)] at hi
    obtain ⟨q1, q2, q3, q4⟩ := hc i A hi
    refine ⟨q1.keep (by rw [next_upd]; omega) fun z hz => ?_, q2, q3, fun z hz => ?_⟩
    ·have l1 := q1.lt hz
     have l2 := q4 z hz
     rw [keepC z (by omega) (.inl (by omega)) (by omega), o1.obj z l1]
    ·have l1 := q1.lt hz
     have l2 := q4 z hz
     simp only [if_pos l1]
     exact l2
   ·rw [List.getElem?_append_right (by omega)] at hi
    have hi0 : i - cas.length = 0 := by
     have := (List.getElem?_eq_some_iff.1 hi).1
     simp at this; omega
    rw [hi0] at hi
    have hA := (Option.some.inj hi).symm
    subst hA
    have hij2 : i = j := by omega
    refine ⟨c1.keep (by rw [next_upd]; omega) fun z hz => ?_, rfl, rfl, fun z hz => ?_⟩
    ·have l1 := c1.lt hz
     have l2 := hown z hz
     exact keepC z l1 (.inr (.inl l2)) (by omega) _
    ·have l1 := c1.lt hz
     have l2 := hown z hz
     simp only [if_neg (show ¬ z < hh.next by omega), if_pos l1]
     exact ⟨by omega, by omega⟩
  ·have V2l : b2 < h2.next := by
    rcases V2 with ⟨_, hn⟩ | ⟨_, _, _, hl2, _⟩
    ·simp at hn
    ·exact hl2
   right
   rcases hb2' with e | e
   ·rcases hcb with ⟨_, hcv⟩ | ⟨k1, k2, k3⟩
    ·subst hcv
     subst e
     rcases hb2 with hb2 | hb2
     ·exact absurd rfl hb2.1
     ·have hb2 : h1.next + 1 ≤ b2 := hb2
      simp only [if_neg (show ¬ b2 < hh.next by omega), if_neg (show ¬ b2 < h1.next by omega)]
      exact ⟨by omega, V2l, trivial⟩
    ·subst e
     simp only [if_pos k2]
     exact ⟨k1, V2l, k3⟩
   ·simp only [if_neg (show ¬ b2 < hh.next by omega), if_neg (show ¬ b2 < h1.next by omega)]
    exact ⟨by omega, V2l, trivial⟩
  ·repeat' first | assumption | rfl | apply And.intro
 ·have b1 : decide ((j : Int) < (co : Int)) = false := decide_eq_false (by omega)
  have hcl : cas.length = co := by omega
  have hon := o.next
  simp (disch := omega) only [c32_l0, c32, ↓R32, e0, e1, e17, e18, b1, gs, hcrv, ↓RnP, RnQ, Nat.reduceEqDiff, Nat.reduceAdd, Nat.reduceMul, Nat.reduceSub, Nat.reduceLT, Nat.reduceLeDiff, Nat.reduceBEq, Int.reduceLT, Int.reduceLE, reduceCtorEq, Int.reduceToNat, Int.reduceAdd, Int.reduceSub, Int.reduceMul]
  refine RunC_loop cp c32_l1 _ (fun d e hh => ∃ (j : Nat) (las : List LA) (rv : Value) (rb : Nat) (tg : Nat → Nat), j + d = rl.length ∧ OldX s h hh ∧ hh.obj s = .cells (srvC now first again read bu co ou crv cv rv ev) 93 .fix ∧
   PSl hh 110 cv (cas.map CA.x) cb ∧ PSl hh 94 rv (las.map LA.p) rb ∧ las.length = j ∧ (∀ i A, cas[i]? = some A → ConnAt hh A Can.cv0 ∧ A.S = ou ∧ A.rr = rl.length ∧ ∀ z, A.own z → h.next ≤ z ∧ tg z = 2 * i + 4) ∧
   ((cas = [] ∧ cv = .slice none 0 0) ∨ (h.next ≤ cb ∧ cb < hh.next ∧ tg cb = 2)) ∧
   (∀ i L, las[i]? = some L → ∃ r, rl[i]? = some r ∧ LimAt hh L (limV0 r) ∧ L.R = r ∧ L.rp.rows = rowsN (shareS sl i (3 * (r.R + 1))) r.R ∧ L.pa.row = rowN (shareS sl i (3 * (r.R + 1))) r.R ∧ L.sa.row = rowN (shareS sl i (3 * (r.R + 1))) r.R ∧ ∀ z, L.own z → h.next ≤ z ∧ tg z = 2 * i + 5) ∧
   ((las = [] ∧ rv = .slice none 0 0) ∨ (h.next ≤ rb ∧ rb < hh.next ∧ tg rb = 3)) ∧
   e 0 = .pointer (some ⟨s, 0, none⟩) ∧ e 1 = sv ∧ e 46 = crv ∧ e 47 = .int .i64 rl.length ∧ e 48 = .int .i64 ((j : Nat) : Int)) ?_ rl.length _ _
   ⟨0, [], _, 0, tg, by omega, o, gs, V, PSl.nil _ _ _, rfl, hc, hcb, fun i A h => by simp at h, .inl ⟨rfl, rfl⟩, e0, e1, hcrv.symm, rfl, rfl⟩
  clear hcb hc V gs hj cj hon o e0 e1 e17 e18 b1 tg hh
  rintro d e hh ⟨j, las, rv, rb, tg, hj, o, gs, V, W, hll, hc, hcb, hla, hrb, e0, e1, e46, e47, e48⟩
  by_cases cj : j < rl.length
  rotate_left
  ·have b1 : decide ((j : Int) < (rl.length : Int)) = false := decide_eq_false (by omega)
   obtain rfl : j = rl.length := by omega
   simp (disch := omega) only [c32_l1, c32, ↓R32, e0, e1, e46, e47, e48, b1, ↓RnP, RnQ, Nat.reduceEqDiff, Nat.reduceAdd, Nat.reduceMul, Nat.reduceSub, Nat.reduceLT, Nat.reduceLeDiff, Nat.reduceBEq, Int.reduceLT, Int.reduceLE, reduceCtorEq, Int.reduceToNat, Int.reduceAdd, Int.reduceSub, Int.reduceMul]
   exact hQ hh cv rv cb rb cas las tg o gs V W hcl hll hc hla (fun h => hcb.elim (fun k => absurd k.1 h) fun k => ⟨k.1, k.2.2⟩) (fun h => hrb.elim (fun k => absurd k.1 h) fun k => ⟨k.1, k.2.2⟩)
  have b1 : decide ((j : Int) < (rl.length : Int)) = true := decide_eq_true (by omega)
  have nx : (j : Int) + 1 = ((j + 1 : Nat) : Int) := by omega
  have hon := o.next
  have hr : rl[j]? = some rl[j] := List.getElem?_eq_getElem cj
  obtain ⟨r, hrd⟩ : ∃ r, r = rl[j] := ⟨_, rfl⟩
  rw [← hrd] at hr
  have rk := rok r (List.mem_of_getElem? hr)
  have kR := rk.R
  obtain ⟨_, _, hcrv2, hrdv⟩ := cr hh o
  obtain ⟨zb, zo, hza, hzb, hzr⟩ := hrdv j r.t (by rw [List.getElem?_map, hr]; rfl)
  rw [hcrv] at hcrv2
  simp only [Value.slice.injEq, List.length_map] at hcrv2
  obtain ⟨hra, _, _⟩ := hcrv2
  rw [hza] at hra
  subst hra
  have hzr : (hh.obj zb).read (zo + j * 9) 9 = some r.c := hzr
  obtain ⟨hA, hAd⟩ : ∃ hA, hA = (hh.new (.cells [.int .i64 0, .int .i64 0, .int .i64 0, .int .i64 0, .int .i64 0, .int .i64 0, .int .i64 0, .int .i64 0, .bool false] 34 .fix)).upd hh.next (.cells r.c 34 .fix) := ⟨_, rfl⟩
  have oA : Old hh hA := by rw [hAd]; exact ⟨Nat.le_succ _, fun z hz => by rw [obj_upd_ne _ _ (by omega), obj_new_ne _ _ (by omega)]⟩
  have nA : hA.next = hh.next + 1 := by rw [hAd]; rfl
  have gA : hA.obj hh.next = .cells r.c 34 .fix := by rw [hAd]; exact obj_upd_same _ _ _
  have gsA := (oA.obj s (by omega)).trans gs
  have k3 : 3 * ((r.R : Int) + 1) = ((3 * (r.R + 1) : Nat) : Int) := by omega
  rw [hcrv] at e46
  simp (disch := omega) only [c32_l1, c32, ↓R32, e0, e1, e46, e47, e48, b1, hzr, ← hAd, gA, gsA, k3, Nat.mul_one, ↓RnP, RnQ, Nat.reduceEqDiff, Nat.reduceAdd, Nat.reduceMul, Nat.reduceSub, Nat.reduceLT, Nat.reduceLeDiff, Nat.reduceBEq, Int.reduceLT, Int.reduceLE, reduceCtorEq, Int.reduceToNat, Int.reduceAdd, Int.reduceSub, Int.reduceMul]
  refine share_ok hA sv sl (hsd hA (o.trans (oA.x s))) hsl j _ (by omega) (by omega) fun hB dv oB sdB => ?_
  have nB := oB.next
  have gB := (oB.obj _ (by omega)).trans gA
  have gsB := (oB.obj s (by omega)).trans gsA
  simp (disch := omega) only [c32, ↓R32, gB, gsB, ↓RnP, RnQ, Nat.reduceEqDiff, Nat.reduceAdd, Nat.reduceMul, Nat.reduceSub, Nat.reduceLT, Nat.reduceLeDiff, Nat.reduceBEq, Int.reduceLT, Int.reduceLE, reduceCtorEq, Int.reduceToNat, Int.reduceAdd, Int.reduceSub, Int.reduceMul]
  refine limNew_ok hB r rk _ (shareS_u sl j _) dv sdB fun h1 L o1 L1 lR lb lrows lprow lurow => ?_
  have n1 := o1.next
  have gs1 := (o1.obj s (by omega)).trans gsB
  have oh1 : Old hh h1 := (oA.trans oB).trans o1
  simp (disch := omega) only [c32, ↓R32, gs1, fillIn, reps, List.cons_append, List.nil_append, List.append_nil, ↓RnP, RnQ, Nat.reduceEqDiff, Nat.reduceAdd, Nat.reduceMul, Nat.reduceSub, Nat.reduceLT, Nat.reduceLeDiff, Nat.reduceBEq, Int.reduceLT, Int.reduceLE, reduceCtorEq, Int.reduceToNat, Int.reduceAdd, Int.reduceSub, Int.reduceMul]
  have W1 : PSl (h1.new (.cells [ptrV L.p] 94 .grow)) 94 rv (las.map LA.p) rb := W.old (oh1.trans ((Old.refl h1).more _))
  refine W1.app (p := L.p) (src_one h1 (ptrV L.p) _ 1) (by rw [List.length_map]; omega) fun v2 h2 b2 V2 n2 hb2 ho2 => ?_
  have n2' : h1.next + 1 ≤ h2.next := n2
  have hkeep : ∀ z, z < h1.next → (tg z ≠ 3 ∨ hh.next ≤ z ∨ z < h.next) → h2.obj z = h1.obj z := fun z hz hne => by
   rw [ho2 z (by show z < h1.next + 1; omega) ?_, obj_new_ne _ _ (by omega)]
   rcases hrb with ⟨hc0, hcv⟩ | ⟨k1, k2, k3⟩
   ·exact .inl hcv
   ·right
    intro e
    subst e
    omega
  obtain ⟨a2, cap2, hv2⟩ := V2.val
  obtain ⟨m2, hm2⟩ : ∃ m, m = (las.map LA.p ++ [L.p]).length := ⟨_, rfl⟩
  rw [← hm2] at hv2
  subst hv2
  have gs2 := (hkeep s (by omega) (.inr (.inr ls))).trans gs1
  simp (disch := omega) only [c32, ↓R32, e0, e1, e46, e47, e48, gs2, nx, ↓RnP, RnQ, Nat.reduceEqDiff, Nat.reduceAdd, Nat.reduceMul, Nat.reduceSub, Nat.reduceLT, Nat.reduceLeDiff, Nat.reduceBEq, Int.reduceLT, Int.reduceLE, reduceCtorEq, Int.reduceToNat, Int.reduceAdd, Int.reduceSub, Int.reduceMul]
  have oo : OldX s h (h2.upd s (.cells (srvC now first again read bu co ou crv cv (.slice a2 m2 cap2) ev) 93 .fix)) :=
   ⟨by rw [next_upd]; omega, fun z hz hne => by rw [obj_upd_ne _ _ hne, hkeep z (by omega) (.inr (.inr hz)), oh1.obj z (by omega), o.obj z hz hne]⟩
  have hb2' : b2 = rb ∨ h1.next + 1 ≤ b2 := hb2.imp And.right id
  have keepC : ∀ z, z < h1.next → (tg z ≠ 3 ∨ hh.next ≤ z ∨ z < h.next) → z ≠ s → ∀ c, (h2.upd s c).obj z = h1.obj z := fun z hz hne hs c => by rw [obj_upd_ne _ _ hs, hkeep z hz hne]
  subst hcrv
  refine ⟨d - 1, by omega, j + 1, las ++ [L], .slice a2 m2 cap2, b2, fun z => if z < hh.next then tg z else if z < h1.next then 2 * j + 5 else 3, by omega, oo, rfl, ?_, ?_, by simp [hll], fun i A hi => ?_, ?_, fun i L' hi => ?_, ?_, ?_⟩
  ·rcases hcb with ⟨hc0, hcv⟩ | ⟨k1, k2, k3⟩
   ·exact .inl ⟨hcv, by rw [hc0]; rfl⟩
   ·refine V.keep (by rw [next_upd]; omega) fun hl => ?_
    rw [keepC cb (by omega) (.inl (by omega)) (by omega), oh1.obj cb k2]
  ·rw [List.map_append]
   refine V2.keep (Nat.le_refl _) fun hl => obj_upd_ne _ _ ?_
   intro e
   subst e
   rcases hb2' with e | e
   ·rcases hrb with ⟨_, hcv⟩ | ⟨k1, k2, k3⟩
    ·subst hcv
     rcases V2 with ⟨_, hn⟩ | ⟨_, _, _, hl2, ho, _⟩
     ·simp at hn
     ·rw [gs2] at ho; simp at ho
    ·omega
   ·omega
  ·obtain ⟨q1, q2, q3, q4⟩ := hc i A hi
   refine ⟨q1.keep (by rw [next_upd]; omega) fun z hz => ?_, q2, q3, fun z hz => ?_⟩
   ·have l1 := q1.lt hz
    have l2 := q4 z hz
    rw [keepC z (by omega) (.inl (by omega)) (by omega), oh1.obj z l1]
   ·have l1 := q1.lt hz
    have l2 := q4 z hz
    simp only [if_pos l1]
    exact l2
  ·rcases hcb with k | ⟨k1, k2, k3⟩
   ·exact .inl k
   ·right
    simp only [if_pos k2]
    exact ⟨k1, by omega, k3⟩
  ·by_cases hij : i < j
   ·rw [List.getElem?_append_left (by omega)] at hi
    obtain ⟨r', q0, q1, q2, q3, q4, q5, q6⟩ := hla i L' hi
    refine ⟨r', q0, q1.keep (by rw [next_upd]; omega) fun z hz => ?_, q2, q3, q4, q5, fun z hz => ?_⟩
    ·have l1 : z < hh.next := Nat.lt_of_lt_of_le hz.2 q1.lt
     have l2 := q6 z hz
     rw [keepC z (by omega) (.inl (by omega)) (by omega), oh1.obj z l1]
    ·have l1 : z < hh.next := Nat.lt_of_lt_of_le hz.2 q1.lt
     have l2 := q6 z hz
     simp only [if_pos l1]
     exact l2
   ·rw [List.getElem?_append_right (by omega)] at hi
    have hi0 : i - las.length = 0 := by
     have := (List.getElem?_eq_some_iff.1 hi).1
     simp at this; omega
    rw [hi0] at hi
    have hA' := (Option.some.inj hi).symm
    subst hA'
    have hij2 : i = j := by omega
    rw [hij2]
    refine ⟨r, hr, L1.keep (by rw [next_upd]; omega) fun z hz => ?_, lR, lrows, lprow, lurow, fun z hz => ?_⟩
    ·have l1 : z < h1.next := Nat.lt_of_lt_of_le hz.2 L1.lt
     have l2 := hz.1
     exact keepC z l1 (.inr (.inl (by omega))) (by omega) _
    ·have l1 : z < h1.next := Nat.lt_of_lt_of_le hz.2 L1.lt
     have l2 := hz.1
     simp only [if_neg (show ¬ z < hh.next by omega), if_pos l1]
     exact ⟨by omega, by omega⟩
  ·have V2l : b2 < h2.next := by
    rcases V2 with ⟨_, hn⟩ | ⟨_, _, _, hl2, _⟩
    ·simp at hn
    ·exact hl2
   right
   rcases hb2 with ⟨hne, e⟩ | e
   ·rcases hrb with ⟨_, hcv⟩ | ⟨k1, k2, k3⟩
    ·exact absurd hcv hne
    ·subst e
     simp only [if_pos k2]
     exact ⟨k1, V2l, k3⟩
   ·have e : h1.next + 1 ≤ b2 := e
    simp only [if_neg (show ¬ b2 < hh.next by omega), if_neg (show ¬ b2 < h1.next by omega)]
    exact ⟨by omega, V2l, trivial⟩
  ·repeat' first | assumption | rfl | apply And.intro
end Go.Proofs.YtlakhgibjfmjjaaGreat.Can
namespace Go.Proofs.YtlakhgibjfmjjaaGreat.Can
open Go
attribute [local congr] RunR_congr RunC_congr afterR_congr guardR_congr condQ_congr CALL_congr finQ_congr op_congr opg_congr
structure SrvA where
 s : Nat
 kb : Nat
 cb : Nat
 rb : Nat
 crv : Value
 cv : Value
 rv : Value
 cas : List CA
 las : List LA
 tg : Nat → Nat
 bu : Int
 ou : Nat
structure SrvV where
 now : Int
 first : Int
 again : Bool
 read : Bool
 cs : List CV
 ls : List LimV
def SrvA.own (a : SrvA) (ex : Option Nat) : Nat → Prop := fun z => z = a.s ∨ z = a.kb ∨ z = a.cb ∨ z = a.rb ∨ (∃ (i : Nat) (A : CA), ex ≠ some i ∧ a.cas[i]? = some A ∧ A.own z) ∨ ∃ (i : Nat) (L : LA), a.las[i]? = some L ∧ L.own z
structure SrvAt (h : Heap) (a : SrvA) (v : SrvV) (ev : Value) (ex : Option Nat) : Prop where
 os : h.obj a.s = .cells (srvC v.now v.first v.again v.read a.bu a.cas.length a.ou a.crv a.cv a.rv ev) 93 .fix
 ls : a.s < h.next
 K : Vec h 34 RE a.crv (a.las.map fun L => L.R.t) a.kb
 V : PSl h 110 a.cv (a.cas.map CA.x) a.cb
 W : PSl h 94 a.rv (a.las.map LA.p) a.rb
 cl : v.cs.length = a.cas.length
 ll : v.ls.length = a.las.length
 cn : 1 ≤ a.cas.length ∧ a.cas.length ≤ 16
 ln : 1 ≤ a.las.length ∧ a.las.length ≤ 8
 ou : 1 ≤ a.ou ∧ a.ou ≤ 65536
 C : ∀ (i : Nat) (A : CA) (c : CV), ex ≠ some i → a.cas[i]? = some A → v.cs[i]? = some c → ConnAt h A c
 cr : ∀ (i : Nat) (A : CA), a.cas[i]? = some A → A.rr = a.las.length ∧ A.S = a.ou
 L : ∀ (i : Nat) (L : LA) (l : LimV), a.las[i]? = some L → v.ls[i]? = some l → LimAt h L l
 tC : ∀ (i : Nat) (A : CA) (z : Nat), a.cas[i]? = some A → A.own z → a.tg z = 2 * i + 4
 tL : ∀ (i : Nat) (L : LA) (z : Nat), a.las[i]? = some L → L.own z → a.tg z = 2 * i + 5
 ts : a.tg a.s = 0
 tk : a.tg a.kb = 1
 tc : a.tg a.cb = 2
 tr : a.tg a.rb = 3
theorem SrvAt.keep {h h' : Heap} {a : SrvA} {v : SrvV} {ev : Value} {ex : Option Nat} (S : SrvAt h a v ev ex) (hn : h.next ≤ h'.next) (ho : ∀ z, a.own ex z → z < h.next → h'.obj z = h.obj z) : SrvAt h' a v ev ex :=
 { S with
   os := (ho _ (.inl rfl) S.ls).trans S.os
   ls := Nat.lt_of_lt_of_le S.ls hn
   K := S.K.keep hn fun hl => ho _ (.inr (.inl rfl)) hl
   V := S.V.keep hn fun hl => ho _ (.inr (.inr (.inl rfl))) hl
   W := S.W.keep hn fun hl => ho _ (.inr (.inr (.inr (.inl rfl)))) hl
   C := fun i A c he hA hc => (S.C i A c he hA hc).keep hn fun z hz => ho z (.inr (.inr (.inr (.inr (.inl ⟨i, A, he, hA, hz⟩))))) ((S.C i A c he hA hc).lt hz)
   L := fun i L l hL hl => (S.L i L l hL hl).keep hn fun z hz => ho z (.inr (.inr (.inr (.inr (.inr ⟨i, L, hL, hz⟩))))) (Nat.lt_of_lt_of_le hz.2 (S.L i L l hL hl).lt) }
theorem SrvAt.old {h h' : Heap} {a : SrvA} {v : SrvV} {ev : Value} {ex : Option Nat} (S : SrvAt h a v ev ex) (o : Old h h') : SrvAt h' a v ev ex := S.keep o.next fun z _ hl => o.obj z hl
theorem SrvAt.oldF {h h' : Heap} {a : SrvA} {v : SrvV} {ev : Value} {ex : Option Nat} {F : Nat → Prop} (S : SrvAt h a v ev ex) (o : OldF F h h') (hF : ∀ z, a.own ex z → z < h.next → ¬ F z) : SrvAt h' a v ev ex := S.keep o.next fun z hz hl => o.obj z hl (hF z hz hl)
def srvV0 (co : Nat) (rl : List RuleV) : SrvV := ⟨0, 0, false, false, List.replicate co cv0, rl.map limV0⟩
def RowsAt (a : SrvA) (sl : List Int) : Prop := ∀ (i : Nat) (L : LA), a.las[i]? = some L → L.rp.rows = rowsN (shareS sl i (3 * (L.R.R + 1))) L.R.R ∧ L.pa.row = rowN (shareS sl i (3 * (L.R.R + 1))) L.R.R ∧ L.sa.row = rowN (shareS sl i (3 * (L.R.R + 1))) L.R.R
theorem newSrv_ok (h : Heap) (bu : Int) (co ou : Nat) (v0 : Value) (rl : List RuleV) (b0 : Nat) (V0 : Vec h 34 RE v0 (rl.map RuleV.t) b0) (cfg : CfgOK bu co ou (rl.map RuleV.t)) (rok : ∀ r ∈ rl, r.OK)
  (sv : Value) (sl : List Int) (hsl : sl.length ≤ 1000000) (hsd : Lst h (Enc.int .u64) sv sl) {Q : Value → Heap → Prop}
  (hQ : ∀ h' a, Old h h' → SrvAt h' a (srvV0 co rl) (.slice none 0 0) none → a.las.map LA.R = rl → a.cas.length = co → a.ou = ou → RowsAt a sl → (∀ z, a.own none z → h.next ≤ z) → Q (.tuple #[.pointer (some ⟨a.s, 0, none⟩), .int .i64 0]) h') :
  CALL cp 14 [.agg #[.int .i64 bu, .int .i64 co, .int .i64 ou, v0], sv] h Q := by
 rw [CALL_enter cp cp14]
 have c1 := cfg.1
 have c2 := cfg.2.1
 have c3 := cfg.2.2.1
 have c4 := cfg.2.2.2.1
 rw [List.length_map] at c2
 obtain ⟨va, vc, hv0, _⟩ := V0.val
 rw [List.length_map] at hv0
 subst hv0
 obtain ⟨h1, h1d⟩ : ∃ h1, h1 = h.new (.cells [.int .i64 bu, .int .i64 co, .int .i64 ou, .slice va rl.length vc] 30 .fix) := ⟨_, rfl⟩
 have o1 : Old h h1 := by rw [h1d]; exact (Old.refl h).more _
 have n1 : h1.next = h.next + 1 := by rw [h1d]; rfl
 have g1 : h1.obj h.next = .cells [.int .i64 bu, .int .i64 co, .int .i64 ou, .slice va rl.length vc] 30 .fix := by rw [h1d]; exact obj_new_same _ _
 simp (disch := omega) only [c14, ↓R14, ← h1d, g1, ↓RnP, RnQ, Nat.reduceEqDiff, Nat.reduceAdd, Nat.reduceMul, Nat.reduceSub, Nat.reduceLT, Nat.reduceLeDiff, Nat.reduceBEq, Int.reduceLT, Int.reduceLE, reduceCtorEq, Int.reduceToNat, Int.reduceAdd, Int.reduceSub, Int.reduceMul]
 refine right_ok h1 bu co ou _ (rl.map RuleV.t) (V0.old o1).sl (by rw [List.length_map]; omega) fun h2 o2 => ?_
 have n2 := o2.next
 have g2 := (o2.obj h.next (by omega)).trans g1
 have dc : decide (CfgOK bu co ou (rl.map RuleV.t)) = true := decide_eq_true cfg
 obtain ⟨h3, h3d⟩ : ∃ h3, h3 = h2.new (.cells (srvC 0 0 false false bu co ou (.slice va rl.length vc) (.slice none 0 0) (.slice none 0 0) (.slice none 0 0)) 93 .fix) := ⟨_, rfl⟩
 have o3 : Old h2 h3 := by rw [h3d]; exact (Old.refl h2).more _
 have n3 : h3.next = h2.next + 1 := by rw [h3d]; rfl
 have g3 : h3.obj h2.next = .cells (srvC 0 0 false false bu co ou (.slice va rl.length vc) (.slice none 0 0) (.slice none 0 0) (.slice none 0 0)) 93 .fix := by rw [h3d]; exact obj_new_same _ _
 have g3' := (o3.obj h.next (by omega)).trans g2
 simp (disch := omega) only [c14, ↓R14, dc, g2, fillIn, ← h3d, g3', ↓RnP, RnQ, Nat.reduceEqDiff, Nat.reduceAdd, Nat.reduceMul, Nat.reduceSub, Nat.reduceLT, Nat.reduceLeDiff, Nat.reduceBEq, Int.reduceLT, Int.reduceLE, reduceCtorEq, Int.reduceToNat, Int.reduceAdd, Int.reduceSub, Int.reduceMul]
 have V3 := V0.old ((o1.trans o2).trans o3)
 refine (Vec.nil h3 34 RE h3.next).app (m := rl.map RuleV.t) rfl V3.src0 (by simp; omega) (by simp; omega) fun v4 h4 b4 V4 n4 hb4 ho4 => ?_
 have ho4' : ∀ z, z < h3.next → h4.obj z = h3.obj z := fun z hz => ho4 z hz (.inl rfl)
 have hb4' : h3.next ≤ b4 := by rcases hb4 with rfl | hb4 <;> omega
 rw [List.nil_append] at V4
 obtain ⟨a4, cap4, hv4, _⟩ := V4.val
 rw [List.length_map] at hv4
 subst hv4
 have g4 := (ho4' h2.next (by omega)).trans g3
 simp (disch := omega) only [c14, ↓R14, g4, ↓RnP, RnQ, Nat.reduceEqDiff, Nat.reduceAdd, Nat.reduceMul, Nat.reduceSub, Nat.reduceLT, Nat.reduceLeDiff, Nat.reduceBEq, Int.reduceLT, Int.reduceLE, reduceCtorEq, Int.reduceToNat, Int.reduceAdd, Int.reduceSub, Int.reduceMul]
 have nn4 : h3.next ≤ h4.next := n4
 have oh4 : Old h h4 := ⟨by omega, fun z hz => by rw [ho4' z (by omega), o3.obj z (by omega), o2.obj z (by omega), o1.obj z hz]⟩
 obtain ⟨h5, h5d⟩ : ∃ h5, h5 = h4.upd h2.next (.cells (srvC 0 0 false false bu co ou (.slice a4 rl.length cap4) (.slice none 0 0) (.slice none 0 0) (.slice none 0 0)) 93 .fix) := ⟨_, rfl⟩
 have o5 : OldX h2.next h4 h5 := by rw [h5d]; exact OldX.upd _ _ _
 have n5 : h5.next = h4.next := by rw [h5d]; rfl
 have g5 : h5.obj h2.next = .cells (srvC 0 0 false false bu co ou (.slice a4 rl.length cap4) (.slice none 0 0) (.slice none 0 0) (.slice none 0 0)) 93 .fix := by rw [h5d]; exact obj_upd_same _ _ _
 have old5 : ∀ h', OldX h2.next h5 h' → Old h h' := fun h' o => ⟨by have := o.next; omega, fun z hz => by rw [o.obj z (by omega) (by omega), o5.obj z (by omega) (by omega), oh4.obj z hz]⟩
 have K5 : ∀ h', OldX h2.next h5 h' → Vec h' 34 RE (.slice a4 rl.length cap4) (rl.map RuleV.t) b4 := fun h' o => V4.keep (by have := o.next; omega) fun hl => by rw [o.obj _ (by omega) (by omega), o5.obj _ hl (by omega)]
 show CALL cp _ _ (h4.upd h2.next (.cells (srvC 0 0 false false bu co ou (.slice a4 rl.length cap4) (.slice none 0 0) (.slice none 0 0) (.slice none 0 0)) 93 .fix)) _
 rw [← h5d]
 refine boot_ok h5 h2.next 0 0 false false bu co ou _ _ _ _ g5 (by omega) (by omega) ⟨?_, by omega⟩ rl (by omega) rok (fun h' o => (K5 h' o).sl) sv sl hsl (fun h' o => hsd.old (old5 h' o)) fun h6 cv rv cb rb cas las tg o6 g6 V W hcl hll hC hL hcb hrb => ?_
 ·omega
 simp (disch := omega) only [c14, ↓R14, ↓RnP, RnQ, Nat.reduceEqDiff, Nat.reduceAdd, Nat.reduceMul, Nat.reduceSub, Nat.reduceLT, Nat.reduceLeDiff, Nat.reduceBEq, Int.reduceLT, Int.reduceLE, reduceCtorEq, Int.reduceToNat, Int.reduceAdd, Int.reduceSub, Int.reduceMul]
 have hcas : cas ≠ [] := fun e => by rw [e] at hcl; simp at hcl; omega
 have hlas : las ≠ [] := fun e => by rw [e] at hll; simp at hll; omega
 obtain ⟨cb1, cb2⟩ := hcb hcas
 obtain ⟨rb1, rb2⟩ := hrb hlas
 have b4l : b4 < h4.next := by
  rcases V4 with ⟨_, hn⟩ | ⟨_, _, _, hl, _⟩
  ·have := congrArg List.length hn; simp at this; rw [this] at c2; simp at c2
  ·exact hl
 have hmap : las.map LA.R = rl := by
  apply List.ext_getElem?
  intro i
  rw [List.getElem?_map]
  cases e : las[i]? with
  | none =>
   have := List.getElem?_eq_none_iff.1 e
   rw [List.getElem?_eq_none (by omega)]; rfl
  | some L =>
   obtain ⟨r, q1, _, q3, _⟩ := hL i L e
   rw [q1, ← q3]; rfl
 have hmapt : (las.map fun L => L.R.t) = rl.map RuleV.t := by rw [← hmap, List.map_map]; rfl
 have n6 := o6.next
 refine hQ h6 ⟨h2.next, b4, cb, rb, .slice a4 rl.length cap4, cv, rv, cas, las, fun z => if z = h2.next then 0 else if z = b4 then 1 else tg z, bu, ou⟩ (old5 h6 o6) ⟨?_, ?_, ?_, V, W, ?_, ?_, ?_, ?_, ?_, ?_, ?_, ?_, ?_, ?_, ?_, ?_, ?_, ?_⟩ hmap hcl rfl ?_ ?_
 ·show h6.obj h2.next = _
  rw [g6]
  show _ = Obj.cells (srvC 0 0 false false bu cas.length ou _ cv rv _) _ _
  rw [hcl]
 ·show h2.next < h6.next
  omega
 ·show Vec h6 _ RE _ (las.map fun L => L.R.t) b4
  rw [hmapt]
  exact K5 h6 o6
 ·show (List.replicate co cv0).length = cas.length
  rw [List.length_replicate, hcl]
 ·show (rl.map limV0).length = las.length
  rw [List.length_map, hll]
 ·show 1 ≤ cas.length ∧ cas.length ≤ 16
  omega
 ·show 1 ≤ las.length ∧ las.length ≤ 8
  omega
 ·show 1 ≤ ou ∧ ou ≤ 65536
  omega
 ·intro i A c _ hA hc
  obtain ⟨q1, _⟩ := hC i A hA
  have hc : (List.replicate co cv0)[i]? = some c := hc
  have := List.mem_of_getElem? hc
  rw [(List.mem_replicate.1 this).2]
  exact q1
 ·intro i A hA
  obtain ⟨_, q2, q3, _⟩ := hC i A hA
  exact ⟨by rw [q3]; show (rl.length : Int) = (las.length : Int); rw [hll], q2⟩
 ·intro i L l hL' hl
  obtain ⟨r, q1, q2, _⟩ := hL i L hL'
  have hl : (rl.map limV0)[i]? = some l := hl
  rw [List.getElem?_map, q1] at hl
  rw [← Option.some.inj hl]
  exact q2
 ·intro i A z hA hz
  obtain ⟨_, _, _, q4⟩ := hC i A hA
  have := q4 z hz
  show (if z = h2.next then 0 else if z = b4 then 1 else tg z) = 2 * i + 4
  rw [if_neg (by omega), if_neg (by omega)]; exact this.2
 ·intro i L z hL' hz
  obtain ⟨r, _, _, _, _, _, _, q4⟩ := hL i L hL'
  have := q4 z hz
  show (if z = h2.next then 0 else if z = b4 then 1 else tg z) = 2 * i + 5
  rw [if_neg (by omega), if_neg (by omega)]; exact this.2
 ·show (if h2.next = h2.next then 0 else _) = 0
  rw [if_pos rfl]
 ·show (if b4 = h2.next then 0 else if b4 = b4 then 1 else _) = 1
  rw [if_neg (by omega), if_pos rfl]
 ·show (if cb = h2.next then 0 else if cb = b4 then 1 else tg cb) = 2
  rw [if_neg (by omega), if_neg (by omega)]; exact cb2
 ·show (if rb = h2.next then 0 else if rb = b4 then 1 else tg rb) = 3
  rw [if_neg (by omega), if_neg (by omega)]; exact rb2
 ·intro i L hL'
  obtain ⟨r, _, _, q3, q4, q5, q6, _⟩ := hL i L hL'
  rw [q3]
  exact ⟨q4, q5, q6⟩
 ·intro z hz
  rcases hz with e | e | e | e | ⟨i, A, _, hA, hz⟩ | ⟨i, L, hL', hz⟩
  ·have e : z = h2.next := e
   omega
  ·have e : z = b4 := e
   omega
  ·have e : z = cb := e
   omega
  ·have e : z = rb := e
   omega
  ·obtain ⟨_, _, _, q4⟩ := hC i A hA
   have := (q4 z hz).1
   omega
  ·obtain ⟨r, _, _, _, _, _, _, q4⟩ := hL i L hL'
   have := (q4 z hz).1
   omega
end Go.Proofs.YtlakhgibjfmjjaaGreat.Can
namespace Go.Proofs.YtlakhgibjfmjjaaGreat.Can
open Go
attribute [local congr] RunR_congr RunC_congr afterR_congr guardR_congr condQ_congr CALL_congr finQ_congr op_congr opg_congr
theorem mm_max3 (x y z : Int) (h : Heap) : cop (.minmax true [.int .i64 x, .int .i64 y, .int .i64 z]) h = some (.int .i64 (max (max x y) z), h) := by
 show ((some (Value.int .i64 (if y > x then y else x))).bind fun u => minmaxL true u [.int .i64 z]).map (fun v => (v, h)) = _
 rw [if_max]
 show (some (Value.int .i64 (if z > max x y then z else max x y))).map (fun v => (v, h)) = _
 rw [if_max]; rfl
section
variable {h : Heap} {s : Nat} {now first bu : Int} {again read : Bool} {co ou : Nat} {crv cv rv ev : Value}
theorem clkRead_ok (os : h.obj s = .cells (srvC now first again read bu co ou crv cv rv ev) 93 .fix) (r : Int) {Q : Value → Heap → Prop}
  (hQ : ∀ h' u, OldX s h h' → h'.next = h.next → h'.obj s = .cells (srvC (max (max now r) 0) (if read then first else max (max now r) 0) again true bu co ou crv cv rv ev) 93 .fix → Q u h') :
  CALL cp 34 [.pointer (some ⟨s, 0, none⟩), .int .i64 r] h Q := by
 rw [CALL_enter cp cp34]
 cases read with
 | false =>
  simp (disch := omega) only [c34, ↓R34, os, ↓mm_max3, ↓RnP, RnQ, Nat.reduceEqDiff, Nat.reduceAdd, Nat.reduceMul, Nat.reduceSub, Nat.reduceLT, Nat.reduceLeDiff, Nat.reduceBEq, Int.reduceLT, Int.reduceLE, reduceCtorEq, Int.reduceToNat, Int.reduceAdd, Int.reduceSub, Int.reduceMul]
  exact hQ _ _ (((OldX.upd _ _ _).trans (OldX.upd _ _ _)).trans (OldX.upd _ _ _)) rfl (obj_upd_same _ _ _)
 | true =>
  simp (disch := omega) only [c34, ↓R34, os, ↓mm_max3, ↓RnP, RnQ, Nat.reduceEqDiff, Nat.reduceAdd, Nat.reduceMul, Nat.reduceSub, Nat.reduceLT, Nat.reduceLeDiff, Nat.reduceBEq, Int.reduceLT, Int.reduceLE, reduceCtorEq, Int.reduceToNat, Int.reduceAdd, Int.reduceSub, Int.reduceMul]
  exact hQ _ _ (OldX.upd _ _ _) rfl (obj_upd_same _ _ _)
theorem clkNow_ok (os : h.obj s = .cells (srvC now first again read bu co ou crv cv rv ev) 93 .fix) (Q : Value → Heap → Prop) : CALL cp 26 [.pointer (some ⟨s, 0, none⟩)] h Q ↔ Q (.int .i64 now) h := by
 refine CALL_det ?_ Q
 rw [CALL_enter cp cp26]
 simp (disch := omega) only [c26, ↓R26, os, ↓RnP, RnQ, Nat.reduceEqDiff, Nat.reduceAdd, Nat.reduceMul, Nat.reduceSub, Nat.reduceLT, Nat.reduceLeDiff, Nat.reduceBEq, Int.reduceLT, Int.reduceLE, reduceCtorEq, Int.reduceToNat, Int.reduceAdd, Int.reduceSub, Int.reduceMul]
def heldS (now first : Int) (again : Bool) (w : Int) : Int := if again then max (near (first + w) - now) 0 else 0
theorem clkHeld_ok (os : h.obj s = .cells (srvC now first again read bu co ou crv cv rv ev) 93 .fix) (w : Int) (hw : I64 w) (hw1 : 0 ≤ w) (hf : 0 ≤ first ∧ I64 first) (hn : 0 ≤ now ∧ I64 now) (Q : Value → Heap → Prop) : CALL cp 119 [.pointer (some ⟨s, 0, none⟩), .int .i64 w] h Q ↔ Q (.int .i64 (heldS now first again w)) h := by
 refine CALL_det ?_ Q
 rw [CALL_enter cp cp119]
 unfold heldS
 cases again with
 | false =>
  simp (disch := omega) only [c119, ↓R119, os, ↓RnP, RnQ, Nat.reduceEqDiff, Nat.reduceAdd, Nat.reduceMul, Nat.reduceSub, Nat.reduceLT, Nat.reduceLeDiff, Nat.reduceBEq, Int.reduceLT, Int.reduceLE, reduceCtorEq, Int.reduceToNat, Int.reduceAdd, Int.reduceSub, Int.reduceMul]
  first | done | exact (by simp)
 | true =>
  have f := fun h => sum_ok h first w hf.2 hw
  have nr := near_in (first + w)
  have hn2 := hn.2
  unfold I64 at nr hn2
  have hw0 : -9223372036854775808 ≤ near (first + w) - now := by
   have : 0 ≤ near (first + w) := by unfold near; split <;> first | omega | (split <;> omega)
   omega
  simp (disch := omega) only [c119, ↓R119, os, f, ↓mm_max, ↓RnP, RnQ, Nat.reduceEqDiff, Nat.reduceAdd, Nat.reduceMul, Nat.reduceSub, Nat.reduceLT, Nat.reduceLeDiff, Nat.reduceBEq, Int.reduceLT, Int.reduceLE, reduceCtorEq, Int.reduceToNat, Int.reduceAdd, Int.reduceSub, Int.reduceMul]
  first | done | exact (by simp)
end
def refuseS (B now held cost : Int) : Option (Int × Int) :=
 if cost < 1 ∨ cost > B then some (3, 0) else if now ≥ 4611686018427387904 then some (2, 9223372036854775807) else if held > 0 then some (2, held) else none
theorem refuse_ok {h : Heap} {a : LA} {v : LimV} (L : LimAt h a v) (now held cost : Int) {Q : Value → Heap → Prop}
  (hQ : ∀ h', Old h h' → Q (.tuple #[.agg #[.int .i64 ((refuseS a.R.B now held cost).map Prod.fst |>.getD 0), .int .i64 0, .int .i64 ((refuseS a.R.B now held cost).map Prod.snd |>.getD 0)], .bool (refuseS a.R.B now held cost).isSome]) h') :
  CALL cp 127 [.pointer (some ⟨a.p, 0, none⟩), .int .i64 now, .int .i64 held, .int .i64 cost] h Q := by
 rw [CALL_enter cp cp127]
 have ol := L.ol
 have lp : a.p < h.next := Nat.lt_of_lt_of_le L.il.2 L.lt
 have oo : ∀ c, Old h ((h.new (.cells [.int .i64 0, .int .i64 0, .int .i64 0] 55 .fix)).upd h.next c) := fun c => ⟨by simp only [next_upd, next_new]; omega, fun z hz => by rw [obj_upd_ne _ _ (by omega), obj_new_ne _ _ (by omega)]⟩
 unfold refuseS at hQ
 by_cases c1 : cost < 1
 ·have b1 := decide_eq_true c1
  rw [if_pos (.inl c1)] at hQ
  simp (disch := omega) only [c127, ↓R127, b1, ol, fillIn, ↓RnP, RnQ, Nat.reduceEqDiff, Nat.reduceAdd, Nat.reduceMul, Nat.reduceSub, Nat.reduceLT, Nat.reduceLeDiff, Nat.reduceBEq, Int.reduceLT, Int.reduceLE, reduceCtorEq, Int.reduceToNat, Int.reduceAdd, Int.reduceSub, Int.reduceMul]
  exact hQ _ (oo _)
 have b1 := decide_eq_false c1
 by_cases c2 : cost > a.R.B
 ·have b2 := decide_eq_true c2
  rw [if_pos (.inr c2)] at hQ
  simp (disch := omega) only [c127, ↓R127, b1, b2, ol, fillIn, ↓RnP, RnQ, Nat.reduceEqDiff, Nat.reduceAdd, Nat.reduceMul, Nat.reduceSub, Nat.reduceLT, Nat.reduceLeDiff, Nat.reduceBEq, Int.reduceLT, Int.reduceLE, reduceCtorEq, Int.reduceToNat, Int.reduceAdd, Int.reduceSub, Int.reduceMul]
  exact hQ _ (oo _)
 have b2 := decide_eq_false c2
 rw [if_neg (by omega)] at hQ
 by_cases c3 : now ≥ 4611686018427387904
 ·have b3 := decide_eq_true c3
  rw [if_pos c3] at hQ
  simp (disch := omega) only [c127, ↓R127, b1, b2, b3, ol, fillIn, ↓RnP, RnQ, Nat.reduceEqDiff, Nat.reduceAdd, Nat.reduceMul, Nat.reduceSub, Nat.reduceLT, Nat.reduceLeDiff, Nat.reduceBEq, Int.reduceLT, Int.reduceLE, reduceCtorEq, Int.reduceToNat, Int.reduceAdd, Int.reduceSub, Int.reduceMul]
  exact hQ _ (oo _)
 have b3 := decide_eq_false c3
 rw [if_neg c3] at hQ
 by_cases c4 : held > 0
 ·have b4 := decide_eq_true c4
  rw [if_pos c4] at hQ
  simp (disch := omega) only [c127, ↓R127, b1, b2, b3, b4, ol, fillIn, ↓RnP, RnQ, Nat.reduceEqDiff, Nat.reduceAdd, Nat.reduceMul, Nat.reduceSub, Nat.reduceLT, Nat.reduceLeDiff, Nat.reduceBEq, Int.reduceLT, Int.reduceLE, reduceCtorEq, Int.reduceToNat, Int.reduceAdd, Int.reduceSub, Int.reduceMul]
  exact hQ _ (oo _)
 ·have b4 := decide_eq_false c4
  rw [if_neg c4] at hQ
  simp (disch := omega) only [c127, ↓R127, b1, b2, b3, b4, ol, fillIn, ↓RnP, RnQ, Nat.reduceEqDiff, Nat.reduceAdd, Nat.reduceMul, Nat.reduceSub, Nat.reduceLT, Nat.reduceLeDiff, Nat.reduceBEq, Int.reduceLT, Int.reduceLE, reduceCtorEq, Int.reduceToNat, Int.reduceAdd, Int.reduceSub, Int.reduceMul]
  exact hQ _ (oo _)
def LimV.cnt (v : LimV) (ver : Int) : LimV := { v with al := if ver = 1 then IntKind.i64.wrap (v.al + 1) else v.al, de := if ver = 2 then IntKind.i64.wrap (v.de + 1) else v.de, bd := if ver = 1 ∨ ver = 2 then v.bd else IntKind.i64.wrap (v.bd + 1) }
theorem LimAt.head {h h' : Heap} {a : LA} {v v' : LimV} (L : LimAt h a v) (o : OldX a.p h h') (ho : h'.obj a.p = .cells (limC a v') 131 .fix) (hP : v'.P = v.P) (hG : v'.G = v.G) (hU : v'.U = v.U) : LimAt h' a v' := by
 have il := L.il
 have ib := L.ib
 have ir := L.ir
 have lt := L.lt
 exact { L with
  ol := ho
  P := by rw [hP]; exact L.P.keep o.next fun z hz => o.obj z (L.P.lt z hz) (by have := L.ip z hz; omega)
  G := by
   rw [hG]
   refine L.G.keep o.next fun z hz => ?_
   rcases hz with hz | rfl
   ·exact o.obj z (L.G.ltn hz) (by have := L.ig z hz; omega)
   ·exact o.obj _ (by omega) (by omega)
  U := by rw [hU]; exact L.U.keep o.next fun z hz => o.obj z (L.U.lt z hz) (by have := L.iu z hz; omega)
  lt := Nat.le_trans L.lt o.next }
theorem count_ok2 {h : Heap} {a : LA} {v : LimV} (L : LimAt h a v) (ver : Int) {Q : Value → Heap → Prop} (hQ : ∀ h' u, OldX a.p h h' → LimAt h' a (v.cnt ver) → Q u h') :
  CALL cp 128 [.pointer (some ⟨a.p, 0, none⟩), .int .i64 ver] h Q := by
 rw [CALL_enter cp cp128]
 have ol := L.ol
 have fin : ∀ c, (.cells c 131 .fix : Obj) = .cells (limC a (v.cnt ver)) 131 .fix → ∀ u, Q u (h.upd a.p (.cells c 131 .fix)) := fun c e u =>
  hQ _ u (OldX.upd _ _ _) (L.head (OldX.upd _ _ _) (by rw [obj_upd_same]; exact e) rfl rfl rfl)
 by_cases c1 : ver = 1
 ·subst c1
  simp (disch := omega) only [c128, ↓R128, ol, Int.reduceBEq, ↓RnP, RnQ, Nat.reduceEqDiff, Nat.reduceAdd, Nat.reduceMul, Nat.reduceSub, Nat.reduceLT, Nat.reduceLeDiff, Nat.reduceBEq, Int.reduceLT, Int.reduceLE, reduceCtorEq, Int.reduceToNat, Int.reduceAdd, Int.reduceSub, Int.reduceMul]
  exact fin _ rfl _
 by_cases c2 : ver = 2
 ·subst c2
  simp (disch := omega) only [c128, ↓R128, ol, Int.reduceBEq, ↓RnP, RnQ, Nat.reduceEqDiff, Nat.reduceAdd, Nat.reduceMul, Nat.reduceSub, Nat.reduceLT, Nat.reduceLeDiff, Nat.reduceBEq, Int.reduceLT, Int.reduceLE, reduceCtorEq, Int.reduceToNat, Int.reduceAdd, Int.reduceSub, Int.reduceMul]
  exact fin _ rfl _
 have b1 : (ver == 1) = false := beq_eq_false_iff_ne.2 c1
 have b2 : (ver == 2) = false := beq_eq_false_iff_ne.2 c2
 simp (disch := omega) only [c128, ↓R128, ol, b1, b2, ↓RnP, RnQ, Nat.reduceEqDiff, Nat.reduceAdd, Nat.reduceMul, Nat.reduceSub, Nat.reduceLT, Nat.reduceLeDiff, Nat.reduceBEq, Int.reduceLT, Int.reduceLE, reduceCtorEq, Int.reduceToNat, Int.reduceAdd, Int.reduceSub, Int.reduceMul]
 refine fin _ ?_ _
 simp [limC, LimV.cnt, c1, c2]
set_option maxHeartbeats 1000000 in
theorem check_refused {h : Heap} {a : LA} {v : LimV} (L : LimAt h a v) (now held cost : Int) (key : ByteArray) {ver ret : Int} (hr : refuseS a.R.B now held cost = some (ver, ret)) {Q : Value → Heap → Prop}
  (hQ : ∀ h', OldX a.p h h' → LimAt h' a (v.cnt ver) → Q (.tuple #[.agg #[.int .i64 ver, .int .i64 0, .int .i64 ret], .slice none 0 0]) h') :
  CALL cp 120 [.pointer (some ⟨a.p, 0, none⟩), .int .i64 now, .int .i64 held, .string key, .int .i64 cost] h Q := by
 rw [CALL_enter cp cp120]
 have lp : a.p < h.next := Nat.lt_of_lt_of_le L.il.2 L.lt
 obtain ⟨h1, h1d⟩ : ∃ h1, h1 = h.new (.cells [.int .i64 0, .int .i64 0, .int .i64 0] 55 .fix) := ⟨_, rfl⟩
 have o1 : Old h h1 := by rw [h1d]; exact (Old.refl h).more _
 have n1 : h1.next = h.next + 1 := by rw [h1d]; rfl
 have g1 : h1.obj h.next = .cells [.int .i64 0, .int .i64 0, .int .i64 0] 55 .fix := by rw [h1d]; exact obj_new_same _ _
 simp (disch := omega) only [c120, ↓R120, ← h1d, ↓RnP, RnQ, Nat.reduceEqDiff, Nat.reduceAdd, Nat.reduceMul, Nat.reduceSub, Nat.reduceLT, Nat.reduceLeDiff, Nat.reduceBEq, Int.reduceLT, Int.reduceLE, reduceCtorEq, Int.reduceToNat, Int.reduceAdd, Int.reduceSub, Int.reduceMul]
 refine refuse_ok (L.old o1) now held cost fun h2 o2 => ?_
 rw [hr]
 have n2 := o2.next
 have g2 := (o2.obj h.next (by omega)).trans g1
 obtain ⟨h3, h3d⟩ : ∃ h3, h3 = (h2.new (.cells [.int .i64 0, .int .i64 0, .int .i64 0] 55 .fix)).upd h2.next (.cells [.int .i64 ver, .int .i64 0, .int .i64 ret] 55 .fix) := ⟨_, rfl⟩
 have o3 : Old h2 h3 := by rw [h3d]; exact ⟨Nat.le_succ _, fun z hz => by rw [obj_upd_ne _ _ (by omega), obj_new_ne _ _ (by omega)]⟩
 have n3 : h3.next = h2.next + 1 := by rw [h3d]; rfl
 have q3 : h3.obj h2.next = .cells [.int .i64 ver, .int .i64 0, .int .i64 ret] 55 .fix := by rw [h3d]; exact obj_upd_same _ _ _
 have g3 := (o3.obj h.next (by omega)).trans g2
 simp (disch := omega) only [c120, ↓R120, Option.map_some, Option.getD_some, Option.isSome_some, ← h3d, q3, ↓RnP, RnQ, Nat.reduceEqDiff, Nat.reduceAdd, Nat.reduceMul, Nat.reduceSub, Nat.reduceLT, Nat.reduceLeDiff, Nat.reduceBEq, Int.reduceLT, Int.reduceLE, reduceCtorEq, Int.reduceToNat, Int.reduceAdd, Int.reduceSub, Int.reduceMul]
 refine count_ok2 (((L.old o1).old o2).old o3) ver fun h4 u o4 L4 => ?_
 have n4 := o4.next
 have q4 := (o4.obj h2.next (by omega) (by omega)).trans q3
 have g4 := (o4.obj h.next (by omega) (by omega)).trans g3
 simp (disch := omega) only [c120, ↓R120, q4, g4, ↓RnP, RnQ, Nat.reduceEqDiff, Nat.reduceAdd, Nat.reduceMul, Nat.reduceSub, Nat.reduceLT, Nat.reduceLeDiff, Nat.reduceBEq, Int.reduceLT, Int.reduceLE, reduceCtorEq, Int.reduceToNat, Int.reduceAdd, Int.reduceSub, Int.reduceMul]
 have oX : OldX a.p h (h4.upd h.next (.cells [.int .i64 ver, .int .i64 0, .int .i64 ret] 55 .fix)) := ⟨by rw [next_upd]; omega, fun z hz hne => by rw [obj_upd_ne _ _ (by omega), o4.obj z (by omega) hne, o3.obj z (by omega), o2.obj z (by omega), o1.obj z hz]⟩
 refine hQ _ oX (L4.keep (Nat.le_refl _) fun z hz => obj_upd_ne _ _ ?_)
 have := hz.2
 have := L.lt
 omega
end Go.Proofs.YtlakhgibjfmjjaaGreat.Can
namespace Go.Proofs.YtlakhgibjfmjjaaGreat.Can
open Go
attribute [local congr] RunR_congr RunC_congr afterR_congr guardR_congr condQ_congr CALL_congr finQ_congr op_congr opg_congr
theorem poolLen_ok {h : Heap} {a : PA} {keys : Nat → Option ByteArray} {fl : List Nat} {tab : List Int} {cells : List CellT} (P : PoolAt h a keys fl tab cells) (Q : Value → Heap → Prop) :
  CALL cp 49 [.pointer (some ⟨a.p, 0, none⟩)] h Q ↔ Q (.int .i64 ((a.n : Int) - fl.length)) h := by
 refine CALL_det ?_ Q
 rw [CALL_enter cp cp49]
 have op := P.op
 have f := fun Q => Keys.st_used P.s.S Q
 simp (disch := omega) only [c49, ↓R49, eqS, op, f, ↓RnP, RnQ, Nat.reduceEqDiff, Nat.reduceAdd, Nat.reduceMul, Nat.reduceSub, Nat.reduceLT, Nat.reduceLeDiff, Nat.reduceBEq, Int.reduceLT, Int.reduceLE, reduceCtorEq, Int.reduceToNat, Int.reduceAdd, Int.reduceSub, Int.reduceMul]
theorem sumTot_ok {h : Heap} {a : SA} {keys : Nat → Option ByteArray} {fl : List Nat} {tab ns es os ws : List Int} {tot : Int} (P : SumAt h a keys fl tab ns es os ws tot) (Q : Value → Heap → Prop) :
  CALL cp 50 [.pointer (some ⟨a.p, 0, none⟩)] h Q ↔ Q (.int .i64 tot) h := by
 refine CALL_det ?_ Q
 rw [CALL_enter cp cp50]
 have op := P.op
 simp (disch := omega) only [c50, ↓R50, eqS, op, ↓RnP, RnQ, Nat.reduceEqDiff, Nat.reduceAdd, Nat.reduceMul, Nat.reduceSub, Nat.reduceLT, Nat.reduceLeDiff, Nat.reduceBEq, Int.reduceLT, Int.reduceLE, reduceCtorEq, Int.reduceToNat, Int.reduceAdd, Int.reduceSub, Int.reduceMul]
def totV (v : LimV) (n : Nat) : Value := .agg #[.int .i64 v.al, .int .i64 v.de, .int .i64 v.bd, .int .i64 ((n : Int) - v.P.fl.length), .int .i64 v.U.tot]
theorem totals_ok {h : Heap} {a : LA} {v : LimV} (L : LimAt h a v) {Q : Value → Heap → Prop} (hQ : ∀ h', Old h h' → Q (totV v a.R.C) h') : CALL cp 28 [.pointer (some ⟨a.p, 0, none⟩)] h Q := by
 rw [CALL_enter cp cp28]
 have ol := L.ol
 have lp : a.p < h.next := Nat.lt_of_lt_of_le L.il.2 L.lt
 have pn := L.pn
 obtain ⟨h1, h1d⟩ : ∃ h1, h1 = h.new (.cells [.int .i64 0, .int .i64 0, .int .i64 0, .int .i64 0, .int .i64 0] 63 .fix) := ⟨_, rfl⟩
 have o1 : Old h h1 := by rw [h1d]; exact (Old.refl h).more _
 have n1 : h1.next = h.next + 1 := by rw [h1d]; rfl
 have g1 : h1.obj h.next = .cells [.int .i64 0, .int .i64 0, .int .i64 0, .int .i64 0, .int .i64 0] 63 .fix := by rw [h1d]; exact obj_new_same _ _
 have ol1 := (o1.obj a.p lp).trans ol
 obtain ⟨h2, h2d⟩ : ∃ h2, h2 = (h1.new (.cells [.int .i64 0, .int .i64 0, .int .i64 0, .int .i64 0, .int .i64 0] 63 .fix)).upd h1.next (.cells [.int .i64 v.al, .int .i64 v.de, .int .i64 v.bd, .int .i64 0, .int .i64 0] 63 .fix) := ⟨_, rfl⟩
 have o2 : Old h1 h2 := by rw [h2d]; exact ⟨Nat.le_succ _, fun z hz => by rw [obj_upd_ne _ _ (by omega), obj_new_ne _ _ (by omega)]⟩
 have n2 : h2.next = h1.next + 1 := by rw [h2d]; rfl
 have q2 : h2.obj h1.next = .cells [.int .i64 v.al, .int .i64 v.de, .int .i64 v.bd, .int .i64 0, .int .i64 0] 63 .fix := by rw [h2d]; exact obj_upd_same _ _ _
 have g2 := (o2.obj h.next (by omega)).trans g1
 have L2 := (L.old o1).old o2
 have ol2 := L2.ol
 have f1 := fun Q => poolLen_ok L2.P Q
 have f2 := fun Q => sumTot_ok L2.U Q
 rw [pn] at f1
 unfold totV at hQ
 simp (disch := omega) only [c28, ↓R28, ← h1d, ol1, ← h2d, ol2, q2, g2, f1, f2, ↓RnP, RnQ, Nat.reduceEqDiff, Nat.reduceAdd, Nat.reduceMul, Nat.reduceSub, Nat.reduceLT, Nat.reduceLeDiff, Nat.reduceBEq, Int.reduceLT, Int.reduceLE, reduceCtorEq, Int.reduceToNat, Int.reduceAdd, Int.reduceSub, Int.reduceMul]
 refine hQ _ ⟨by simp only [next_upd]; omega, fun z hz => ?_⟩
 rw [obj_upd_ne _ _ (by omega), obj_upd_ne _ _ (by omega), obj_upd_ne _ _ (by omega), o2.obj z (by omega), o1.obj z hz]
end Go.Proofs.YtlakhgibjfmjjaaGreat.Can
