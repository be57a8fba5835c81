/- The law ConfigUnits, in the canonical machine. No condition. -/
import Derived.Test.YtgmhgpcfkkfolaaSBytes
namespace Go.Proofs.Ytgmhgpcfkkfolaa.Can
open Go
set_option linter.unusedSimpArgs false
set_option linter.unusedVariables false
attribute [local congr] RunR_congr RunC_congr afterR_congr guardR_congr condQ_congr CALL_congr finQ_congr op_congr opg_congr

theorem units_ok (L W B : Int) (c0 : 1 ≤ L ∧ L ≤ 2147483648) (c1 : 1 ≤ W ∧ W ≤ 1099511627776) (c2 : 1 ≤ B ∧ B ≤ L) : decide (RuleOK L W B 1 1 1 1 1 false) = decide (B * ceilD W (L + 1 - B) ≤ 1152921504606846976) := by
  rw [decide_eq_decide]
  unfold RuleOK
  exact ⟨fun q => q.2.2.2.2.2.2.2.2.2.2, fun q => ⟨c0, c1, c2, by omega, by omega, by omega, by omega, by omega, by omega, fun h => absurd h Bool.false_ne_true, q⟩⟩

theorem configUnits_law (h : Heap) (x : Int) (_ : (Lit.int .i64 x).wf = true) (y : Int) (_ : (Lit.int .i64 y).wf = true) (z : Int) (_ : (Lit.int .i64 z).wf = true) :
    CALL cp 3 [.int .i64 x, .int .i64 y, .int .i64 z] h fun v _ => v = .bool true := by
  obtain ⟨L, hL, c0⟩ : ∃ L, x % 2 ^ 31 + 1 = L ∧ 1 ≤ L ∧ L ≤ 2147483648 := ⟨_, rfl, by omega, by omega⟩
  obtain ⟨W, hW, c1⟩ : ∃ W, y % 2 ^ 40 + 1 = W ∧ 1 ≤ W ∧ W ≤ 1099511627776 := ⟨_, rfl, by omega, by omega⟩
  obtain ⟨B, hB, c2⟩ : ∃ B, z % 2 ^ 31 % L + 1 = B ∧ 1 ≤ B ∧ B ≤ L := by
    have h0 : 0 ≤ z % 2 ^ 31 % L := Int.emod_nonneg _ (by omega)
    have h1 : z % 2 ^ 31 % L < L := Int.emod_lt_of_pos _ (by omega)
    exact ⟨_, rfl, by omega, by omega⟩
  have a1 := and_i64 31 (by decide) x 2147483647 (by decide)
  have a2 := and_i64 40 (by decide) y 1099511627775 (by decide)
  have a3 := and_i64 31 (by decide) z 2147483647 (by decide)
  have t0 : (z % 2 ^ 31).tmod L = z % 2 ^ 31 % L := tmod_nn _ _ (by omega)
  have n0 : (L = 0) = False := by simp; omega
  have w1 : IntKind.i64.wrap (x % 2 ^ 31 + 1) = L := by rw [hL, wrap_i64] <;> omega
  have w2 : IntKind.i64.wrap (y % 2 ^ 40 + 1) = W := by rw [hW, wrap_i64] <;> omega
  have w3 : IntKind.i64.wrap (z % 2 ^ 31 % L + 1) = B := by rw [hB, wrap_i64] <;> omega
  rw [CALL_enter cp cp3]
  simp (disch := omega) only [c3, ↓c3_r0_run, ↓c3_r1_run, ↓c3_r2_run, ↓c3_r3_run, ↓c3_r4_run, ↓c3_r5_run, ↓c3_r6_run, ↓c3_r7_run, ↓c3_r8_run, ↓c3_r9_run, ↓RunC_seq, ↓RunC_skip, ↓RunC_ret, ↓RunC_exit, ↓RunC_region, ↓RunC_condQ, condQ_true, condQ_false, ↓RunC_block, ↓RunR_done, ↓RunR_op, ↓RunR_opg, ↓RunR_snap, ↓RunR_chk, Holds, Option.getD_none, Option.getD_some, guardR_true, guardR_false, wantV_bool, wantV_none, callvQ_eq, afterR_some, ↓seqQ_normal, ↓seqQ_ret, ↓seqQ_exit, ↓blockQ_normal, ↓blockQ_ret, ↓blockQ_exit, ↓retQ_ret, ↓retQ_normal, ↓callQ_eq, ↓loopQ_normal, ↓loopQ_ret, ↓loopQ_exit, ↓upd_same, upd_at, sel_t, sel_f, initE_at, obj_upd_same, obj_upd_ne, obj_new_same, obj_updnew_same, obj_updnew_same2, obj_new2_same, obj_new3_same, obj_newupd_same, obj_new_ne, obj_new_ne2, obj_new_ne3, obj_new_ne4, next_upd, next_new, add_plain, cop, bin, binInt, un, shiftInt, flat, read_cells, src_ro, src_fix, src_grow, get_cells, List.getElem?_cons_zero, List.getElem?_cons_succ, write_fix, write_grow, setAt, bound, eqK, elemOk_ro, elemOk_fix, elemOk_grow, stiff_ro, stiff_fix, goInt, resultsV, resV, resL, finQ_some, Option.map_some, Option.map_none, Option.bind_some, Option.bind_none, List.map_cons, List.map_nil, List.getD_cons_zero, List.getD_cons_succ, List.getD_nil, Nat.reduceEqDiff, Nat.reduceAdd, Nat.reduceMul, Nat.reduceSub, Nat.reduceLT, Nat.reduceLeDiff, Nat.reduceBEq, if_true, if_false, ite_true, ite_false, List.length_cons, List.length_nil, Nat.zero_add, Nat.add_zero, List.drop_zero, List.drop_succ_cons, List.take_succ_cons, List.take_zero, List.set_cons_zero, List.set_cons_succ, Int.reduceLT, Int.reduceLE, Bool.not_true, Bool.not_false, Option.isNone_some, Option.isNone_none, decide_true, decide_false, beq_self_eq_true, Bool.false_eq_true, Bool.true_eq_false, if_pos, if_neg, reduceCtorEq, beq_iff_eq, BEq.rfl, wrap_i64, wrap_i32, wrap_i8, wrap_u8, wrap_u32, wrap_u64, Nat.mul_one, Int.toNat_natCast, ints_len, List.length_map, List.length_set, beq_ft, beq_tf, List.all_cons, List.all_nil, scalar, Bool.and_self, Bool.true_and, Bool.and_true, List.size_toArray, List.getElem?_toArray, binStr, fillIn, true_and, and_true, true_or, or_true, bne_self_eq_false, Int.reduceToNat, Int.reduceAdd, Int.reduceSub, Int.reduceMul]
  refine fit_ok _ fun h1 o1 => ?_
  simp (disch := omega) only [c3, ↓c3_r0_run, ↓c3_r1_run, ↓c3_r2_run, ↓c3_r3_run, ↓c3_r4_run, ↓c3_r5_run, ↓c3_r6_run, ↓c3_r7_run, ↓c3_r8_run, ↓c3_r9_run, a1, a2, a3, t0, n0, w1, w2, w3, ↓RunC_seq, ↓RunC_skip, ↓RunC_ret, ↓RunC_exit, ↓RunC_region, ↓RunC_condQ, condQ_true, condQ_false, ↓RunC_block, ↓RunR_done, ↓RunR_op, ↓RunR_opg, ↓RunR_snap, ↓RunR_chk, Holds, Option.getD_none, Option.getD_some, guardR_true, guardR_false, wantV_bool, wantV_none, callvQ_eq, afterR_some, ↓seqQ_normal, ↓seqQ_ret, ↓seqQ_exit, ↓blockQ_normal, ↓blockQ_ret, ↓blockQ_exit, ↓retQ_ret, ↓retQ_normal, ↓callQ_eq, ↓loopQ_normal, ↓loopQ_ret, ↓loopQ_exit, ↓upd_same, upd_at, sel_t, sel_f, initE_at, obj_upd_same, obj_upd_ne, obj_new_same, obj_updnew_same, obj_updnew_same2, obj_new2_same, obj_new3_same, obj_newupd_same, obj_new_ne, obj_new_ne2, obj_new_ne3, obj_new_ne4, next_upd, next_new, add_plain, cop, bin, binInt, un, shiftInt, flat, read_cells, src_ro, src_fix, src_grow, get_cells, List.getElem?_cons_zero, List.getElem?_cons_succ, write_fix, write_grow, setAt, bound, eqK, elemOk_ro, elemOk_fix, elemOk_grow, stiff_ro, stiff_fix, goInt, resultsV, resV, resL, finQ_some, Option.map_some, Option.map_none, Option.bind_some, Option.bind_none, List.map_cons, List.map_nil, List.getD_cons_zero, List.getD_cons_succ, List.getD_nil, Nat.reduceEqDiff, Nat.reduceAdd, Nat.reduceMul, Nat.reduceSub, Nat.reduceLT, Nat.reduceLeDiff, Nat.reduceBEq, if_true, if_false, ite_true, ite_false, List.length_cons, List.length_nil, Nat.zero_add, Nat.add_zero, List.drop_zero, List.drop_succ_cons, List.take_succ_cons, List.take_zero, List.set_cons_zero, List.set_cons_succ, Int.reduceLT, Int.reduceLE, Bool.not_true, Bool.not_false, Option.isNone_some, Option.isNone_none, decide_true, decide_false, beq_self_eq_true, Bool.false_eq_true, Bool.true_eq_false, if_pos, if_neg, reduceCtorEq, beq_iff_eq, BEq.rfl, wrap_i64, wrap_i32, wrap_i8, wrap_u8, wrap_u32, wrap_u64, Nat.mul_one, Int.toNat_natCast, ints_len, List.length_map, List.length_set, beq_ft, beq_tf, List.all_cons, List.all_nil, scalar, Bool.and_self, Bool.true_and, Bool.and_true, List.size_toArray, List.getElem?_toArray, binStr, fillIn, true_and, and_true, true_or, or_true, bne_self_eq_false, Int.reduceToNat, Int.reduceAdd, Int.reduceSub, Int.reduceMul]
  refine CALL_heap (fun hA => hA.obj h1.next = .cells (rc L W B 1 1 1 1 1 false) 24 .fix ∧ hA.next = h1.next + 1) ⟨by simp only [obj_upd_same], rfl⟩ fun hA ⟨gA, nA⟩ => ?_
  have f0 := unit_ok hA L W B 1 1 1 1 1 false c0 c1 c2
  have f1 := fun h => ruleRight_ok h L W B 1 1 1 1 1 false
  have f2 := fun h => ruleRight_ok h L W 1 1 1 1 1 1 false
  rw [units_ok L W B c0 c1 c2] at f1
  have hone : decide (RuleOK L W 1 1 1 1 1 1 false) = true := by
    have cr := ceilD_range W (L + 1 - 1) c1.1 (by omega)
    rw [units_ok L W 1 c0 c1 ⟨Int.le_refl _, c0.1⟩]
    exact decide_eq_true (by omega)
  rw [hone] at f2
  have nB : (B = 0) = False := by simp; omega
  have tB : Int.tdiv 1152921504606846976 B = 1152921504606846976 / B := tdiv_nn _ _ (by decide)
  have b0 : 0 ≤ (1152921504606846976 : Int) / B := Int.ediv_nonneg (by omega) (by omega)
  have b1 : (1152921504606846976 : Int) / B ≤ 1152921504606846976 := Int.ediv_le_self B (by omega)
  have g2 := unit_test B (ceilD W (L + 1 - B)) c2.1 (by omega)
  simp (disch := omega) only [c3, ↓c3_r0_run, ↓c3_r1_run, ↓c3_r2_run, ↓c3_r3_run, ↓c3_r4_run, ↓c3_r5_run, ↓c3_r6_run, ↓c3_r7_run, ↓c3_r8_run, ↓c3_r9_run, f0, f1, f2, gA, nB, tB, g2, ↓RunC_seq, ↓RunC_skip, ↓RunC_ret, ↓RunC_exit, ↓RunC_region, ↓RunC_condQ, condQ_true, condQ_false, ↓RunC_block, ↓RunR_done, ↓RunR_op, ↓RunR_opg, ↓RunR_snap, ↓RunR_chk, Holds, Option.getD_none, Option.getD_some, guardR_true, guardR_false, wantV_bool, wantV_none, callvQ_eq, afterR_some, ↓seqQ_normal, ↓seqQ_ret, ↓seqQ_exit, ↓blockQ_normal, ↓blockQ_ret, ↓blockQ_exit, ↓retQ_ret, ↓retQ_normal, ↓callQ_eq, ↓loopQ_normal, ↓loopQ_ret, ↓loopQ_exit, ↓upd_same, upd_at, sel_t, sel_f, initE_at, obj_upd_same, obj_upd_ne, obj_new_same, obj_updnew_same, obj_updnew_same2, obj_new2_same, obj_new3_same, obj_newupd_same, obj_new_ne, obj_new_ne2, obj_new_ne3, obj_new_ne4, next_upd, next_new, add_plain, cop, bin, binInt, un, shiftInt, flat, read_cells, src_ro, src_fix, src_grow, get_cells, List.getElem?_cons_zero, List.getElem?_cons_succ, write_fix, write_grow, setAt, bound, eqK, elemOk_ro, elemOk_fix, elemOk_grow, stiff_ro, stiff_fix, goInt, resultsV, resV, resL, finQ_some, Option.map_some, Option.map_none, Option.bind_some, Option.bind_none, List.map_cons, List.map_nil, List.getD_cons_zero, List.getD_cons_succ, List.getD_nil, Nat.reduceEqDiff, Nat.reduceAdd, Nat.reduceMul, Nat.reduceSub, Nat.reduceLT, Nat.reduceLeDiff, Nat.reduceBEq, if_true, if_false, ite_true, ite_false, List.length_cons, List.length_nil, Nat.zero_add, Nat.add_zero, List.drop_zero, List.drop_succ_cons, List.take_succ_cons, List.take_zero, List.set_cons_zero, List.set_cons_succ, Int.reduceLT, Int.reduceLE, Bool.not_true, Bool.not_false, Option.isNone_some, Option.isNone_none, decide_true, decide_false, beq_self_eq_true, Bool.false_eq_true, Bool.true_eq_false, if_pos, if_neg, reduceCtorEq, beq_iff_eq, BEq.rfl, wrap_i64, wrap_i32, wrap_i8, wrap_u8, wrap_u32, wrap_u64, Nat.mul_one, Int.toNat_natCast, ints_len, List.length_map, List.length_set, beq_ft, beq_tf, List.all_cons, List.all_nil, scalar, Bool.and_self, Bool.true_and, Bool.and_true, List.size_toArray, List.getElem?_toArray, binStr, fillIn, true_and, and_true, true_or, or_true, bne_self_eq_false, Int.reduceToNat, Int.reduceAdd, Int.reduceSub, Int.reduceMul]
end Go.Proofs.Ytgmhgpcfkkfolaa.Can
