/- A number's digits, in the canonical machine. No condition. -/
import Derived.Test.YtcmanhhpfbinoaaDoorSLen
namespace Go.Proofs.YtcmanhhpfbinoaaDoor.Can
open Go
set_option linter.unusedSimpArgs false
set_option linter.unusedVariables false
attribute [local congr] RunR_congr RunC_congr afterR_congr guardR_congr condQ_congr CALL_congr finQ_congr op_congr opg_congr

def decW : Nat → Int → List Int
  | 0, _ => []
  | n + 1, u => decW n (u / 10) ++ [48 + u % 10]
def digN (n : Nat) : List Int := if h : n < 10 then [48 + (n : Int)] else digN (n / 10) ++ [48 + ((n % 10 : Nat) : Int)]
termination_by n
theorem digN_lt {n : Nat} (h : n < 10) : digN n = [48 + (n : Int)] := by rw [digN, dif_pos h]
theorem digN_ge {n : Nat} (h : ¬ n < 10) : digN n = digN (n / 10) ++ [48 + ((n % 10 : Nat) : Int)] := by rw [digN, dif_neg h]
def dec (i : Int) : List Int := if i < 0 then 45 :: digN (-i).toNat else digN i.toNat
theorem decW_len : ∀ n u, (decW n u).length = n
  | 0, _ => rfl
  | n + 1, u => by simp only [decW, List.length_append, List.length_singleton, decW_len n]
theorem decW_digN : ∀ (n x : Nat), 10 ^ n ≤ x ∨ n = 0 → x < 10 ^ (n + 1) → decW (n + 1) (x : Int) = digN x := by
  intro n
  induction n with
  | zero =>
    intro x _ h
    have hx : x < 10 := by simpa using h
    rw [digN_lt hx]
    simp only [decW, List.nil_append]
    congr 1; omega
  | succ n ih =>
    intro x h1 h2
    have h1 : 10 ^ (n + 1) ≤ x := h1.resolve_right (by omega)
    have p := Nat.pow_pos (n := n) (show 0 < 10 by decide)
    rw [Nat.pow_succ] at h1 h2
    have hx : ¬ x < 10 := by omega
    rw [digN_ge hx]
    show decW (n + 1) ((x : Int) / 10) ++ [48 + (x : Int) % 10] = _
    have e := ih (x / 10) (.inl (by omega)) (by omega)
    rw [← e, Int.natCast_ediv, Int.natCast_emod]
    rfl
theorem decW_two (n : Nat) (u : Int) : decW (n + 2) u = decW n (u / 100) ++ [48 + u / 10 % 10, 48 + u % 10] := by
  simp only [decW, List.append_assoc, List.cons_append, List.nil_append]
  rw [show u / 10 / 10 = u / 100 by omega]
def ByD (l : List Int) : Prop := ∀ x ∈ l, 48 ≤ x ∧ x ≤ 57
theorem digN_dig : ∀ (n : Nat), ByD (digN n) := by
  intro n
  induction n using Nat.strongRecOn with
  | _ n ih =>
    by_cases h : n < 10
    · rw [digN_lt h]
      intro x hx
      rw [List.mem_singleton.1 hx]; omega
    · rw [digN_ge h]
      intro x hx
      rcases List.mem_append.1 hx with hx | hx
      · exact ih (n / 10) (by omega) x hx
      · rw [List.mem_singleton.1 hx]; omega

def pows : List Int := [1, 10, 100, 1000, 10000, 100000, 1000000, 10000000, 100000000, 1000000000, 10000000000, 100000000000, 1000000000000, 10000000000000, 100000000000000, 1000000000000000, 10000000000000000, 100000000000000000, 1000000000000000000, 10000000000000000000]
theorem pows_get : ∀ t : Nat, t < 20 → pows[t]? = some ((10 ^ t : Nat) : Int) := by decide
/-- The table of powers lies where the program looks for it. -/
def HasPows (h : Heap) : Prop := 0 < h.next ∧ ∃ t, h.obj 0 = .cells (ints .u64 pows) t .ro
theorem HasPows.old {h h' : Heap} (p : HasPows h) (o : Old h h') : HasPows h' := ⟨Nat.lt_of_lt_of_le p.1 o.next, by rw [o.obj 0 p.1]; exact p.2⟩
theorem len_pows : ∀ n : Nat, n < 65 → n * 78913 / 262144 ≤ 19 ∧ 2 ^ n ≤ 10 ^ (n * 78913 / 262144 + 1) ∧ (n * 78913 / 262144 = 0 ∨ 10 ^ (n * 78913 / 262144 - 1) * 2 ≤ 2 ^ n) := by decide +kernel
theorem bool2_ok (h : Heap) (b : Bool) (Q : Value → Heap → Prop) : CALL cp 36 [.bool b] h Q ↔ Q (.int .i64 (if b then 1 else 0)) h := by
  refine CALL_det ?_ Q
  rw [CALL_enter cp cp36]
  cases b <;> simp (disch := omega) only [c36, ↓c36_r0_run, ↓c36_r1_run, ↓c36_r2_run, ↓c36_r3_run, ↓RunC_seq, ↓RunC_skip, ↓RunC_ret, ↓RunC_exit, ↓RunC_region, ↓RunC_condQ, condQ_true, condQ_false, ↓RunC_block, ↓RunR_done, ↓RunR_op, ↓RunR_opg, ↓RunR_snap, ↓RunR_chk, Holds, Option.getD_none, Option.getD_some, guardR_true, guardR_false, wantV_bool, wantV_none, callvQ_eq, afterR_some, ↓seqQ_normal, ↓seqQ_ret, ↓seqQ_exit, ↓blockQ_normal, ↓blockQ_ret, ↓blockQ_exit, ↓retQ_ret, ↓retQ_normal, ↓callQ_eq, ↓loopQ_normal, ↓loopQ_ret, ↓loopQ_exit, ↓upd_same, upd_at, sel_t, sel_f, initE_at, obj_upd_same, obj_upd_ne, obj_new_same, obj_updnew_same, obj_updnew_same2, obj_new2_same, obj_new3_same, obj_newupd_same, obj_new_ne, obj_new_ne2, obj_new_ne3, obj_new_ne4, next_upd, next_new, add_plain, cop, bin, binInt, un, shiftInt, flat, read_cells, src_ro, src_fix, src_grow, get_cells, List.getElem?_cons_zero, List.getElem?_cons_succ, write_fix, write_grow, setAt, bound, eqK, elemOk_ro, elemOk_fix, elemOk_grow, stiff_ro, stiff_fix, goInt, resultsV, resV, resL, finQ_some, Option.map_some, Option.map_none, Option.bind_some, Option.bind_none, List.map_cons, List.map_nil, List.getD_cons_zero, List.getD_cons_succ, List.getD_nil, Nat.reduceEqDiff, Nat.reduceAdd, Nat.reduceMul, Nat.reduceSub, Nat.reduceLT, Nat.reduceLeDiff, Nat.reduceBEq, if_true, if_false, ite_true, ite_false, List.length_cons, List.length_nil, Nat.zero_add, Nat.add_zero, List.drop_zero, List.drop_succ_cons, List.take_succ_cons, List.take_zero, List.set_cons_zero, List.set_cons_succ, Int.reduceLT, Int.reduceLE, Bool.not_true, Bool.not_false, Option.isNone_some, Option.isNone_none, decide_true, decide_false, beq_self_eq_true, Bool.false_eq_true, Bool.true_eq_false, if_pos, if_neg, reduceCtorEq, beq_iff_eq, BEq.rfl, wrap_i64, wrap_i32, wrap_i8, wrap_u8, wrap_u32, wrap_u64, Nat.mul_one, Int.toNat_natCast, ints_len, List.length_map, List.length_set, beq_ft, beq_tf, List.all_cons, List.all_nil, scalar, Bool.and_self, Bool.true_and, Bool.and_true, List.size_toArray, List.getElem?_toArray, binStr, fillIn, true_and, and_true, true_or, or_true, bne_self_eq_false, Int.reduceToNat, Int.reduceAdd, Int.reduceSub, Int.reduceMul]
theorem log10_ok (h : Heap) (n : Nat) (hn : n ≤ 64) (Q : Value → Heap → Prop) : CALL cp 34 [.int .i64 n] h Q ↔ Q (.int .i64 ((n * 78913 / 262144 : Nat) : Int)) h := by
  have e : ((n : Int) * 78913).fdiv (2 ^ (min 18 IntKind.i64.bits)) = ((n * 78913 / 262144 : Nat) : Int) := by
    rw [shr_k .i64 _ 18 (by decide), Int.natCast_ediv, Int.natCast_mul]; rfl
  refine CALL_det ?_ Q
  rw [CALL_enter cp cp34]
  simp (disch := omega) only [c34, ↓c34_r0_run, ↓c34_r1_run, shiftInt, e, ↓RunC_seq, ↓RunC_skip, ↓RunC_ret, ↓RunC_exit, ↓RunC_region, ↓RunC_condQ, condQ_true, condQ_false, ↓RunC_block, ↓RunR_done, ↓RunR_op, ↓RunR_opg, ↓RunR_snap, ↓RunR_chk, Holds, Option.getD_none, Option.getD_some, guardR_true, guardR_false, wantV_bool, wantV_none, callvQ_eq, afterR_some, ↓seqQ_normal, ↓seqQ_ret, ↓seqQ_exit, ↓blockQ_normal, ↓blockQ_ret, ↓blockQ_exit, ↓retQ_ret, ↓retQ_normal, ↓callQ_eq, ↓loopQ_normal, ↓loopQ_ret, ↓loopQ_exit, ↓upd_same, upd_at, sel_t, sel_f, initE_at, obj_upd_same, obj_upd_ne, obj_new_same, obj_updnew_same, obj_updnew_same2, obj_new2_same, obj_new3_same, obj_newupd_same, obj_new_ne, obj_new_ne2, obj_new_ne3, obj_new_ne4, next_upd, next_new, add_plain, cop, bin, binInt, un, shiftInt, flat, read_cells, src_ro, src_fix, src_grow, get_cells, List.getElem?_cons_zero, List.getElem?_cons_succ, write_fix, write_grow, setAt, bound, eqK, elemOk_ro, elemOk_fix, elemOk_grow, stiff_ro, stiff_fix, goInt, resultsV, resV, resL, finQ_some, Option.map_some, Option.map_none, Option.bind_some, Option.bind_none, List.map_cons, List.map_nil, List.getD_cons_zero, List.getD_cons_succ, List.getD_nil, Nat.reduceEqDiff, Nat.reduceAdd, Nat.reduceMul, Nat.reduceSub, Nat.reduceLT, Nat.reduceLeDiff, Nat.reduceBEq, if_true, if_false, ite_true, ite_false, List.length_cons, List.length_nil, Nat.zero_add, Nat.add_zero, List.drop_zero, List.drop_succ_cons, List.take_succ_cons, List.take_zero, List.set_cons_zero, List.set_cons_succ, Int.reduceLT, Int.reduceLE, Bool.not_true, Bool.not_false, Option.isNone_some, Option.isNone_none, decide_true, decide_false, beq_self_eq_true, Bool.false_eq_true, Bool.true_eq_false, if_pos, if_neg, reduceCtorEq, beq_iff_eq, BEq.rfl, wrap_i64, wrap_i32, wrap_i8, wrap_u8, wrap_u32, wrap_u64, Nat.mul_one, Int.toNat_natCast, ints_len, List.length_map, List.length_set, beq_ft, beq_tf, List.all_cons, List.all_nil, scalar, Bool.and_self, Bool.true_and, Bool.and_true, List.size_toArray, List.getElem?_toArray, binStr, fillIn, true_and, and_true, true_or, or_true, bne_self_eq_false, Int.reduceToNat, Int.reduceAdd, Int.reduceSub, Int.reduceMul]
theorem numDigits_ok (h : Heap) (hT : HasPows h) (x : Nat) (h0 : 0 < x) (hx : x < 18446744073709551616) {Q : Value → Heap → Prop}
    (hQ : ∀ n : Nat, n < 20 → (10 ^ n ≤ x ∨ n = 0) → x < 10 ^ (n + 1) → Q (.int .i64 ((n + 1 : Nat) : Int)) h) : CALL cp 31 [.int .u64 x] h Q := by
  obtain ⟨k, hk, l1, l2, f⟩ := len64_ok x hx
  obtain ⟨t19, p1, p2⟩ := len_pows k (by omega)
  have f2 := fun h => log10_ok h k hk
  obtain ⟨t, ht⟩ : ∃ t, t = k * 78913 / 262144 := ⟨_, rfl⟩
  rw [← ht] at t19 p1 p2 f2
  have f3 := bool2_ok h
  obtain ⟨_, ty, ho⟩ := hT
  have hg := ints_get .u64 _ (pows_get t (by omega))
  rw [CALL_enter cp cp31]
  by_cases c : 10 ^ t ≤ x
  · have a1 : decide (((x : Nat) : Int) ≥ ((10 ^ t : Nat) : Int)) = true := decide_eq_true (by omega)
    have e1 : (t : Int) + 1 = ((t + 1 : Nat) : Int) := by omega
    simp (disch := omega) only [c31, ↓c31_r0_run, ↓c31_r1_run, ↓c31_r2_run, f, f2, f3, ho, hg, a1, e1, ↓RunC_seq, ↓RunC_skip, ↓RunC_ret, ↓RunC_exit, ↓RunC_region, ↓RunC_condQ, condQ_true, condQ_false, ↓RunC_block, ↓RunR_done, ↓RunR_op, ↓RunR_opg, ↓RunR_snap, ↓RunR_chk, Holds, Option.getD_none, Option.getD_some, guardR_true, guardR_false, wantV_bool, wantV_none, callvQ_eq, afterR_some, ↓seqQ_normal, ↓seqQ_ret, ↓seqQ_exit, ↓blockQ_normal, ↓blockQ_ret, ↓blockQ_exit, ↓retQ_ret, ↓retQ_normal, ↓callQ_eq, ↓loopQ_normal, ↓loopQ_ret, ↓loopQ_exit, ↓upd_same, upd_at, sel_t, sel_f, initE_at, obj_upd_same, obj_upd_ne, obj_new_same, obj_updnew_same, obj_updnew_same2, obj_new2_same, obj_new3_same, obj_newupd_same, obj_new_ne, obj_new_ne2, obj_new_ne3, obj_new_ne4, next_upd, next_new, add_plain, cop, bin, binInt, un, shiftInt, flat, read_cells, src_ro, src_fix, src_grow, get_cells, List.getElem?_cons_zero, List.getElem?_cons_succ, write_fix, write_grow, setAt, bound, eqK, elemOk_ro, elemOk_fix, elemOk_grow, stiff_ro, stiff_fix, goInt, resultsV, resV, resL, finQ_some, Option.map_some, Option.map_none, Option.bind_some, Option.bind_none, List.map_cons, List.map_nil, List.getD_cons_zero, List.getD_cons_succ, List.getD_nil, Nat.reduceEqDiff, Nat.reduceAdd, Nat.reduceMul, Nat.reduceSub, Nat.reduceLT, Nat.reduceLeDiff, Nat.reduceBEq, if_true, if_false, ite_true, ite_false, List.length_cons, List.length_nil, Nat.zero_add, Nat.add_zero, List.drop_zero, List.drop_succ_cons, List.take_succ_cons, List.take_zero, List.set_cons_zero, List.set_cons_succ, Int.reduceLT, Int.reduceLE, Bool.not_true, Bool.not_false, Option.isNone_some, Option.isNone_none, decide_true, decide_false, beq_self_eq_true, Bool.false_eq_true, Bool.true_eq_false, if_pos, if_neg, reduceCtorEq, beq_iff_eq, BEq.rfl, wrap_i64, wrap_i32, wrap_i8, wrap_u8, wrap_u32, wrap_u64, Nat.mul_one, Int.toNat_natCast, ints_len, List.length_map, List.length_set, beq_ft, beq_tf, List.all_cons, List.all_nil, scalar, Bool.and_self, Bool.true_and, Bool.and_true, List.size_toArray, List.getElem?_toArray, binStr, fillIn, true_and, and_true, true_or, or_true, bne_self_eq_false, Int.reduceToNat, Int.reduceAdd, Int.reduceSub, Int.reduceMul]
    exact hQ t (by omega) (.inl c) (by omega)
  · have a1 : decide (((x : Nat) : Int) ≥ ((10 ^ t : Nat) : Int)) = false := decide_eq_false (by omega)
    have t0 : t ≠ 0 := by
      rintro rfl
      simp at c; omega
    obtain ⟨s, rfl⟩ : ∃ s, t = s + 1 := ⟨t - 1, by omega⟩
    have e1 : ((s + 1 : Nat) : Int) + 0 = ((s + 1 : Nat) : Int) := by omega
    have p2 := p2.resolve_left t0
    rw [Nat.add_sub_cancel] at p2
    have l2 := l2 (by omega)
    simp (disch := omega) only [c31, ↓c31_r0_run, ↓c31_r1_run, ↓c31_r2_run, f, f2, f3, ho, hg, a1, e1, ↓RunC_seq, ↓RunC_skip, ↓RunC_ret, ↓RunC_exit, ↓RunC_region, ↓RunC_condQ, condQ_true, condQ_false, ↓RunC_block, ↓RunR_done, ↓RunR_op, ↓RunR_opg, ↓RunR_snap, ↓RunR_chk, Holds, Option.getD_none, Option.getD_some, guardR_true, guardR_false, wantV_bool, wantV_none, callvQ_eq, afterR_some, ↓seqQ_normal, ↓seqQ_ret, ↓seqQ_exit, ↓blockQ_normal, ↓blockQ_ret, ↓blockQ_exit, ↓retQ_ret, ↓retQ_normal, ↓callQ_eq, ↓loopQ_normal, ↓loopQ_ret, ↓loopQ_exit, ↓upd_same, upd_at, sel_t, sel_f, initE_at, obj_upd_same, obj_upd_ne, obj_new_same, obj_updnew_same, obj_updnew_same2, obj_new2_same, obj_new3_same, obj_newupd_same, obj_new_ne, obj_new_ne2, obj_new_ne3, obj_new_ne4, next_upd, next_new, add_plain, cop, bin, binInt, un, shiftInt, flat, read_cells, src_ro, src_fix, src_grow, get_cells, List.getElem?_cons_zero, List.getElem?_cons_succ, write_fix, write_grow, setAt, bound, eqK, elemOk_ro, elemOk_fix, elemOk_grow, stiff_ro, stiff_fix, goInt, resultsV, resV, resL, finQ_some, Option.map_some, Option.map_none, Option.bind_some, Option.bind_none, List.map_cons, List.map_nil, List.getD_cons_zero, List.getD_cons_succ, List.getD_nil, Nat.reduceEqDiff, Nat.reduceAdd, Nat.reduceMul, Nat.reduceSub, Nat.reduceLT, Nat.reduceLeDiff, Nat.reduceBEq, if_true, if_false, ite_true, ite_false, List.length_cons, List.length_nil, Nat.zero_add, Nat.add_zero, List.drop_zero, List.drop_succ_cons, List.take_succ_cons, List.take_zero, List.set_cons_zero, List.set_cons_succ, Int.reduceLT, Int.reduceLE, Bool.not_true, Bool.not_false, Option.isNone_some, Option.isNone_none, decide_true, decide_false, beq_self_eq_true, Bool.false_eq_true, Bool.true_eq_false, if_pos, if_neg, reduceCtorEq, beq_iff_eq, BEq.rfl, wrap_i64, wrap_i32, wrap_i8, wrap_u8, wrap_u32, wrap_u64, Nat.mul_one, Int.toNat_natCast, ints_len, List.length_map, List.length_set, beq_ft, beq_tf, List.all_cons, List.all_nil, scalar, Bool.and_self, Bool.true_and, Bool.and_true, List.size_toArray, List.getElem?_toArray, binStr, fillIn, true_and, and_true, true_or, or_true, bne_self_eq_false, Int.reduceToNat, Int.reduceAdd, Int.reduceSub, Int.reduceMul]
    exact hQ s (by omega) (.inl (by omega)) (by omega)
end Go.Proofs.YtcmanhhpfbinoaaDoor.Can
