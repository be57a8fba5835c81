/- What a cell is bound by, in the canonical machine and in plain numbers. No condition. -/
import Derived.Test.YtdnimnlnicnjnaaSCellR
namespace Go.Proofs.Ytdnimnlnicnjnaa.Can
open Go
set_option linter.unusedSimpArgs false
set_option linter.unusedVariables false
attribute [local congr] RunR_congr RunC_congr afterR_congr guardR_congr condQ_congr CALL_congr finQ_congr op_congr opg_congr

def bdN (F S U T W L now : Int) : Int := if now < S + W then min U L else min (max (Int.tdiv (F - (now - W)) T) 0) L
section
variable {T W B L F S C U now : Int}
theorem bound_ok (h : Heap) (p : PaceOk T W B L) (hF : Small F) (hS : Small S) (hU : Small U) (hn : Small now) {Q : Value → Heap → Prop} (hQ : ∀ h', Old h h' → Q (.int .i64 (bdN F S U T W L now)) h') :
    CALL cp 23 [.agg (cellC F S C U).toArray, .agg (paceC T W B L).toArray, .int .i64 now] h Q := by
  rw [CALL_enter cp cp23]
  have w1 := p.w1
  have w2 := p.w2
  have nT : (T = 0) = False := by simp; have := p.t1; omega
  have td := tdiv_in (F - (now - W)) T p.t1
  obtain ⟨q, hq⟩ : ∃ q, q = Int.tdiv (F - (now - W)) T := ⟨_, rfl⟩
  rw [← hq] at td
  unfold Small at hF hU hn
  have qi : -9000000000000000000 ≤ q ∧ q ≤ 9000000000000000000 := by
    by_cases z : 0 ≤ F - (now - W)
    · have h1 := Int.ediv_le_self T z
      have h2 := Int.ediv_nonneg z (show 0 ≤ T by have := p.t1; omega)
      rw [td.1 z]; omega
    · have := td.2 (by omega); omega
  simp (disch := first | omega | (simp only [next_new, next_upd, ne_eq]; omega)) only [c23, ↓c23_r0_run, ↓c23_r1_run, ↓c23_r2_run, ↓c23_r3_c1_run, ↓c23_r3_run, ↓RunC_seq, ↓RunC_skip, ↓RunC_ret, ↓RunC_exit, ↓RunC_region, ↓RunC_condQ, condQ_true, condQ_false, ↓RunC_block, ↓RunR_done, ↓RunR_op, ↓RunR_opg, ↓RunR_snap, ↓RunR_chk, Holds, Option.getD_none, Option.getD_some, guardR_true, guardR_false, wantV_bool, wantV_none, callvQ_eq, afterR_some, ↓seqQ_normal, ↓seqQ_ret, ↓seqQ_exit, ↓blockQ_normal, ↓blockQ_ret, ↓blockQ_exit, ↓retQ_ret, ↓retQ_normal, ↓callQ_eq, ↓loopQ_normal, ↓loopQ_ret, ↓loopQ_exit, ↓upd_same, upd_at, sel_t, sel_f, initE_at, obj_upd_same, obj_upd_ne, obj_new_same, obj_updnew_same, obj_updnew_same2, obj_new2_same, obj_new3_same, obj_newupd_same, obj_new_ne, obj_new_ne2, obj_new_ne3, obj_new_ne4, next_upd, next_new, add_plain, cop, bin, binInt, un, shiftInt, flat, read_cells, src_ro, src_fix, src_grow, get_cells, List.getElem?_cons_zero, List.getElem?_cons_succ, write_fix, write_grow, setAt, bound, eqK, elemOk_ro, elemOk_fix, elemOk_grow, stiff_ro, stiff_fix, goInt, resultsV, resV, resL, finQ_some, Option.map_some, Option.map_none, Option.bind_some, Option.bind_none, List.map_cons, List.map_nil, List.getD_cons_zero, List.getD_cons_succ, List.getD_nil, Nat.reduceEqDiff, Nat.reduceAdd, Nat.reduceMul, Nat.reduceSub, Nat.reduceLT, Nat.reduceLeDiff, Nat.reduceBEq, if_true, if_false, ite_true, ite_false, List.length_cons, List.length_nil, Nat.zero_add, Nat.add_zero, List.drop_zero, List.drop_succ_cons, List.take_succ_cons, List.take_zero, List.set_cons_zero, List.set_cons_succ, Int.reduceLT, Int.reduceLE, Bool.not_true, Bool.not_false, Option.isNone_some, Option.isNone_none, decide_true, decide_false, beq_self_eq_true, Bool.false_eq_true, Bool.true_eq_false, if_pos, if_neg, reduceCtorEq, beq_iff_eq, BEq.rfl, wrap_i64, wrap_i32, wrap_i8, wrap_u8, wrap_u32, wrap_u64, Nat.mul_one, Int.toNat_natCast, ints_len, List.length_map, List.length_set, beq_ft, beq_tf, List.all_cons, List.all_nil, scalar, Bool.and_self, Bool.true_and, Bool.and_true, List.size_toArray, List.getElem?_toArray, binStr, fillIn, true_and, and_true, true_or, or_true, bne_self_eq_false, Int.reduceToNat, Int.reduceAdd, Int.reduceSub, Int.reduceMul]
  refine young_ok _ p hS fun h3 o3 => ?_
  have g1 := (o3.obj h.next (by simp only [next_new]; omega)).trans ((obj_new_ne _ _ (by simp only [next_new]; omega)).trans (obj_new_same _ _))
  have g2 := (o3.obj (h.next + 1) (by simp only [next_new]; omega)).trans (obj_new_same _ _)
  have o3 := (((Old.refl h).more _).more _).trans o3
  unfold bdN at hQ
  rw [← hq] at hQ
  by_cases y : now < S + W
  · have a1 := decide_eq_true y
    rw [if_pos y] at hQ
    simp (disch := first | omega | (simp only [next_new, next_upd, ne_eq]; omega)) only [c23, ↓c23_r0_run, ↓c23_r1_run, ↓c23_r2_run, ↓c23_r3_c1_run, ↓c23_r3_run, g1, g2, a1, ↓mm_min, ↓RunC_seq, ↓RunC_skip, ↓RunC_ret, ↓RunC_exit, ↓RunC_region, ↓RunC_condQ, condQ_true, condQ_false, ↓RunC_block, ↓RunR_done, ↓RunR_op, ↓RunR_opg, ↓RunR_snap, ↓RunR_chk, Holds, Option.getD_none, Option.getD_some, guardR_true, guardR_false, wantV_bool, wantV_none, callvQ_eq, afterR_some, ↓seqQ_normal, ↓seqQ_ret, ↓seqQ_exit, ↓blockQ_normal, ↓blockQ_ret, ↓blockQ_exit, ↓retQ_ret, ↓retQ_normal, ↓callQ_eq, ↓loopQ_normal, ↓loopQ_ret, ↓loopQ_exit, ↓upd_same, upd_at, sel_t, sel_f, initE_at, obj_upd_same, obj_upd_ne, obj_new_same, obj_updnew_same, obj_updnew_same2, obj_new2_same, obj_new3_same, obj_newupd_same, obj_new_ne, obj_new_ne2, obj_new_ne3, obj_new_ne4, next_upd, next_new, add_plain, cop, bin, binInt, un, shiftInt, flat, read_cells, src_ro, src_fix, src_grow, get_cells, List.getElem?_cons_zero, List.getElem?_cons_succ, write_fix, write_grow, setAt, bound, eqK, elemOk_ro, elemOk_fix, elemOk_grow, stiff_ro, stiff_fix, goInt, resultsV, resV, resL, finQ_some, Option.map_some, Option.map_none, Option.bind_some, Option.bind_none, List.map_cons, List.map_nil, List.getD_cons_zero, List.getD_cons_succ, List.getD_nil, Nat.reduceEqDiff, Nat.reduceAdd, Nat.reduceMul, Nat.reduceSub, Nat.reduceLT, Nat.reduceLeDiff, Nat.reduceBEq, if_true, if_false, ite_true, ite_false, List.length_cons, List.length_nil, Nat.zero_add, Nat.add_zero, List.drop_zero, List.drop_succ_cons, List.take_succ_cons, List.take_zero, List.set_cons_zero, List.set_cons_succ, Int.reduceLT, Int.reduceLE, Bool.not_true, Bool.not_false, Option.isNone_some, Option.isNone_none, decide_true, decide_false, beq_self_eq_true, Bool.false_eq_true, Bool.true_eq_false, if_pos, if_neg, reduceCtorEq, beq_iff_eq, BEq.rfl, wrap_i64, wrap_i32, wrap_i8, wrap_u8, wrap_u32, wrap_u64, Nat.mul_one, Int.toNat_natCast, ints_len, List.length_map, List.length_set, beq_ft, beq_tf, List.all_cons, List.all_nil, scalar, Bool.and_self, Bool.true_and, Bool.and_true, List.size_toArray, List.getElem?_toArray, binStr, fillIn, true_and, and_true, true_or, or_true, bne_self_eq_false, Int.reduceToNat, Int.reduceAdd, Int.reduceSub, Int.reduceMul]
    exact hQ _ o3
  · have a1 := decide_eq_false y
    rw [if_neg y] at hQ
    simp (disch := first | omega | (simp only [next_new, next_upd, ne_eq]; omega)) only [c23, ↓c23_r0_run, ↓c23_r1_run, ↓c23_r2_run, ↓c23_r3_c1_run, ↓c23_r3_run, g1, g2, a1, nT, ← hq, ↓mm_min, ↓mm_max, ↓RunC_seq, ↓RunC_skip, ↓RunC_ret, ↓RunC_exit, ↓RunC_region, ↓RunC_condQ, condQ_true, condQ_false, ↓RunC_block, ↓RunR_done, ↓RunR_op, ↓RunR_opg, ↓RunR_snap, ↓RunR_chk, Holds, Option.getD_none, Option.getD_some, guardR_true, guardR_false, wantV_bool, wantV_none, callvQ_eq, afterR_some, ↓seqQ_normal, ↓seqQ_ret, ↓seqQ_exit, ↓blockQ_normal, ↓blockQ_ret, ↓blockQ_exit, ↓retQ_ret, ↓retQ_normal, ↓callQ_eq, ↓loopQ_normal, ↓loopQ_ret, ↓loopQ_exit, ↓upd_same, upd_at, sel_t, sel_f, initE_at, obj_upd_same, obj_upd_ne, obj_new_same, obj_updnew_same, obj_updnew_same2, obj_new2_same, obj_new3_same, obj_newupd_same, obj_new_ne, obj_new_ne2, obj_new_ne3, obj_new_ne4, next_upd, next_new, add_plain, cop, bin, binInt, un, shiftInt, flat, read_cells, src_ro, src_fix, src_grow, get_cells, List.getElem?_cons_zero, List.getElem?_cons_succ, write_fix, write_grow, setAt, bound, eqK, elemOk_ro, elemOk_fix, elemOk_grow, stiff_ro, stiff_fix, goInt, resultsV, resV, resL, finQ_some, Option.map_some, Option.map_none, Option.bind_some, Option.bind_none, List.map_cons, List.map_nil, List.getD_cons_zero, List.getD_cons_succ, List.getD_nil, Nat.reduceEqDiff, Nat.reduceAdd, Nat.reduceMul, Nat.reduceSub, Nat.reduceLT, Nat.reduceLeDiff, Nat.reduceBEq, if_true, if_false, ite_true, ite_false, List.length_cons, List.length_nil, Nat.zero_add, Nat.add_zero, List.drop_zero, List.drop_succ_cons, List.take_succ_cons, List.take_zero, List.set_cons_zero, List.set_cons_succ, Int.reduceLT, Int.reduceLE, Bool.not_true, Bool.not_false, Option.isNone_some, Option.isNone_none, decide_true, decide_false, beq_self_eq_true, Bool.false_eq_true, Bool.true_eq_false, if_pos, if_neg, reduceCtorEq, beq_iff_eq, BEq.rfl, wrap_i64, wrap_i32, wrap_i8, wrap_u8, wrap_u32, wrap_u64, Nat.mul_one, Int.toNat_natCast, ints_len, List.length_map, List.length_set, beq_ft, beq_tf, List.all_cons, List.all_nil, scalar, Bool.and_self, Bool.true_and, Bool.and_true, List.size_toArray, List.getElem?_toArray, binStr, fillIn, true_and, and_true, true_or, or_true, bne_self_eq_false, Int.reduceToNat, Int.reduceAdd, Int.reduceSub, Int.reduceMul]
    exact hQ _ o3
theorem idle_ok (h : Heap) (p : PaceOk T W B L) (hS : Small S) (hn : Small now) {Q : Value → Heap → Prop} (hQ : ∀ h', Old h h' → Q (.bool (decide (¬ now < S + W ∧ F ≤ now - W))) h') :
    CALL cp 24 [.agg (cellC F S C U).toArray, .agg (paceC T W B L).toArray, .int .i64 now] h Q := by
  rw [CALL_enter cp cp24]
  have w1 := p.w1
  have w2 := p.w2
  unfold Small at hn
  simp (disch := first | omega | (simp only [next_new, next_upd, ne_eq]; omega)) only [c24, ↓c24_r0_run, ↓c24_r1_c1_run, ↓c24_r1_run, ↓RunC_seq, ↓RunC_skip, ↓RunC_ret, ↓RunC_exit, ↓RunC_region, ↓RunC_condQ, condQ_true, condQ_false, ↓RunC_block, ↓RunR_done, ↓RunR_op, ↓RunR_opg, ↓RunR_snap, ↓RunR_chk, Holds, Option.getD_none, Option.getD_some, guardR_true, guardR_false, wantV_bool, wantV_none, callvQ_eq, afterR_some, ↓seqQ_normal, ↓seqQ_ret, ↓seqQ_exit, ↓blockQ_normal, ↓blockQ_ret, ↓blockQ_exit, ↓retQ_ret, ↓retQ_normal, ↓callQ_eq, ↓loopQ_normal, ↓loopQ_ret, ↓loopQ_exit, ↓upd_same, upd_at, sel_t, sel_f, initE_at, obj_upd_same, obj_upd_ne, obj_new_same, obj_updnew_same, obj_updnew_same2, obj_new2_same, obj_new3_same, obj_newupd_same, obj_new_ne, obj_new_ne2, obj_new_ne3, obj_new_ne4, next_upd, next_new, add_plain, cop, bin, binInt, un, shiftInt, flat, read_cells, src_ro, src_fix, src_grow, get_cells, List.getElem?_cons_zero, List.getElem?_cons_succ, write_fix, write_grow, setAt, bound, eqK, elemOk_ro, elemOk_fix, elemOk_grow, stiff_ro, stiff_fix, goInt, resultsV, resV, resL, finQ_some, Option.map_some, Option.map_none, Option.bind_some, Option.bind_none, List.map_cons, List.map_nil, List.getD_cons_zero, List.getD_cons_succ, List.getD_nil, Nat.reduceEqDiff, Nat.reduceAdd, Nat.reduceMul, Nat.reduceSub, Nat.reduceLT, Nat.reduceLeDiff, Nat.reduceBEq, if_true, if_false, ite_true, ite_false, List.length_cons, List.length_nil, Nat.zero_add, Nat.add_zero, List.drop_zero, List.drop_succ_cons, List.take_succ_cons, List.take_zero, List.set_cons_zero, List.set_cons_succ, Int.reduceLT, Int.reduceLE, Bool.not_true, Bool.not_false, Option.isNone_some, Option.isNone_none, decide_true, decide_false, beq_self_eq_true, Bool.false_eq_true, Bool.true_eq_false, if_pos, if_neg, reduceCtorEq, beq_iff_eq, BEq.rfl, wrap_i64, wrap_i32, wrap_i8, wrap_u8, wrap_u32, wrap_u64, Nat.mul_one, Int.toNat_natCast, ints_len, List.length_map, List.length_set, beq_ft, beq_tf, List.all_cons, List.all_nil, scalar, Bool.and_self, Bool.true_and, Bool.and_true, List.size_toArray, List.getElem?_toArray, binStr, fillIn, true_and, and_true, true_or, or_true, bne_self_eq_false, Int.reduceToNat, Int.reduceAdd, Int.reduceSub, Int.reduceMul]
  refine young_ok _ p hS fun h3 o3 => ?_
  have g1 := (o3.obj h.next (by simp only [next_new]; omega)).trans ((obj_new_ne _ _ (by simp only [next_new]; omega)).trans (obj_new_same _ _))
  have g2 := (o3.obj (h.next + 1) (by simp only [next_new]; omega)).trans (obj_new_same _ _)
  have o3 := (((Old.refl h).more _).more _).trans o3
  by_cases y : now < S + W
  · have a1 := decide_eq_true y
    rw [decide_eq_false (fun k => k.1 y)] at hQ
    simp (disch := first | omega | (simp only [next_new, next_upd, ne_eq]; omega)) only [c24, ↓c24_r0_run, ↓c24_r1_c1_run, ↓c24_r1_run, g1, g2, a1, ↓RunC_seq, ↓RunC_skip, ↓RunC_ret, ↓RunC_exit, ↓RunC_region, ↓RunC_condQ, condQ_true, condQ_false, ↓RunC_block, ↓RunR_done, ↓RunR_op, ↓RunR_opg, ↓RunR_snap, ↓RunR_chk, Holds, Option.getD_none, Option.getD_some, guardR_true, guardR_false, wantV_bool, wantV_none, callvQ_eq, afterR_some, ↓seqQ_normal, ↓seqQ_ret, ↓seqQ_exit, ↓blockQ_normal, ↓blockQ_ret, ↓blockQ_exit, ↓retQ_ret, ↓retQ_normal, ↓callQ_eq, ↓loopQ_normal, ↓loopQ_ret, ↓loopQ_exit, ↓upd_same, upd_at, sel_t, sel_f, initE_at, obj_upd_same, obj_upd_ne, obj_new_same, obj_updnew_same, obj_updnew_same2, obj_new2_same, obj_new3_same, obj_newupd_same, obj_new_ne, obj_new_ne2, obj_new_ne3, obj_new_ne4, next_upd, next_new, add_plain, cop, bin, binInt, un, shiftInt, flat, read_cells, src_ro, src_fix, src_grow, get_cells, List.getElem?_cons_zero, List.getElem?_cons_succ, write_fix, write_grow, setAt, bound, eqK, elemOk_ro, elemOk_fix, elemOk_grow, stiff_ro, stiff_fix, goInt, resultsV, resV, resL, finQ_some, Option.map_some, Option.map_none, Option.bind_some, Option.bind_none, List.map_cons, List.map_nil, List.getD_cons_zero, List.getD_cons_succ, List.getD_nil, Nat.reduceEqDiff, Nat.reduceAdd, Nat.reduceMul, Nat.reduceSub, Nat.reduceLT, Nat.reduceLeDiff, Nat.reduceBEq, if_true, if_false, ite_true, ite_false, List.length_cons, List.length_nil, Nat.zero_add, Nat.add_zero, List.drop_zero, List.drop_succ_cons, List.take_succ_cons, List.take_zero, List.set_cons_zero, List.set_cons_succ, Int.reduceLT, Int.reduceLE, Bool.not_true, Bool.not_false, Option.isNone_some, Option.isNone_none, decide_true, decide_false, beq_self_eq_true, Bool.false_eq_true, Bool.true_eq_false, if_pos, if_neg, reduceCtorEq, beq_iff_eq, BEq.rfl, wrap_i64, wrap_i32, wrap_i8, wrap_u8, wrap_u32, wrap_u64, Nat.mul_one, Int.toNat_natCast, ints_len, List.length_map, List.length_set, beq_ft, beq_tf, List.all_cons, List.all_nil, scalar, Bool.and_self, Bool.true_and, Bool.and_true, List.size_toArray, List.getElem?_toArray, binStr, fillIn, true_and, and_true, true_or, or_true, bne_self_eq_false, Int.reduceToNat, Int.reduceAdd, Int.reduceSub, Int.reduceMul]
    exact hQ _ o3
  · have a1 := decide_eq_false y
    by_cases z : F ≤ now - W
    · have a2 := decide_eq_true z
      rw [decide_eq_true ⟨y, z⟩] at hQ
      simp (disch := first | omega | (simp only [next_new, next_upd, ne_eq]; omega)) only [c24, ↓c24_r0_run, ↓c24_r1_c1_run, ↓c24_r1_run, g1, g2, a1, a2, ↓RunC_seq, ↓RunC_skip, ↓RunC_ret, ↓RunC_exit, ↓RunC_region, ↓RunC_condQ, condQ_true, condQ_false, ↓RunC_block, ↓RunR_done, ↓RunR_op, ↓RunR_opg, ↓RunR_snap, ↓RunR_chk, Holds, Option.getD_none, Option.getD_some, guardR_true, guardR_false, wantV_bool, wantV_none, callvQ_eq, afterR_some, ↓seqQ_normal, ↓seqQ_ret, ↓seqQ_exit, ↓blockQ_normal, ↓blockQ_ret, ↓blockQ_exit, ↓retQ_ret, ↓retQ_normal, ↓callQ_eq, ↓loopQ_normal, ↓loopQ_ret, ↓loopQ_exit, ↓upd_same, upd_at, sel_t, sel_f, initE_at, obj_upd_same, obj_upd_ne, obj_new_same, obj_updnew_same, obj_updnew_same2, obj_new2_same, obj_new3_same, obj_newupd_same, obj_new_ne, obj_new_ne2, obj_new_ne3, obj_new_ne4, next_upd, next_new, add_plain, cop, bin, binInt, un, shiftInt, flat, read_cells, src_ro, src_fix, src_grow, get_cells, List.getElem?_cons_zero, List.getElem?_cons_succ, write_fix, write_grow, setAt, bound, eqK, elemOk_ro, elemOk_fix, elemOk_grow, stiff_ro, stiff_fix, goInt, resultsV, resV, resL, finQ_some, Option.map_some, Option.map_none, Option.bind_some, Option.bind_none, List.map_cons, List.map_nil, List.getD_cons_zero, List.getD_cons_succ, List.getD_nil, Nat.reduceEqDiff, Nat.reduceAdd, Nat.reduceMul, Nat.reduceSub, Nat.reduceLT, Nat.reduceLeDiff, Nat.reduceBEq, if_true, if_false, ite_true, ite_false, List.length_cons, List.length_nil, Nat.zero_add, Nat.add_zero, List.drop_zero, List.drop_succ_cons, List.take_succ_cons, List.take_zero, List.set_cons_zero, List.set_cons_succ, Int.reduceLT, Int.reduceLE, Bool.not_true, Bool.not_false, Option.isNone_some, Option.isNone_none, decide_true, decide_false, beq_self_eq_true, Bool.false_eq_true, Bool.true_eq_false, if_pos, if_neg, reduceCtorEq, beq_iff_eq, BEq.rfl, wrap_i64, wrap_i32, wrap_i8, wrap_u8, wrap_u32, wrap_u64, Nat.mul_one, Int.toNat_natCast, ints_len, List.length_map, List.length_set, beq_ft, beq_tf, List.all_cons, List.all_nil, scalar, Bool.and_self, Bool.true_and, Bool.and_true, List.size_toArray, List.getElem?_toArray, binStr, fillIn, true_and, and_true, true_or, or_true, bne_self_eq_false, Int.reduceToNat, Int.reduceAdd, Int.reduceSub, Int.reduceMul]
      exact hQ _ o3
    · have a2 := decide_eq_false z
      rw [decide_eq_false (fun k => z k.2)] at hQ
      simp (disch := first | omega | (simp only [next_new, next_upd, ne_eq]; omega)) only [c24, ↓c24_r0_run, ↓c24_r1_c1_run, ↓c24_r1_run, g1, g2, a1, a2, ↓RunC_seq, ↓RunC_skip, ↓RunC_ret, ↓RunC_exit, ↓RunC_region, ↓RunC_condQ, condQ_true, condQ_false, ↓RunC_block, ↓RunR_done, ↓RunR_op, ↓RunR_opg, ↓RunR_snap, ↓RunR_chk, Holds, Option.getD_none, Option.getD_some, guardR_true, guardR_false, wantV_bool, wantV_none, callvQ_eq, afterR_some, ↓seqQ_normal, ↓seqQ_ret, ↓seqQ_exit, ↓blockQ_normal, ↓blockQ_ret, ↓blockQ_exit, ↓retQ_ret, ↓retQ_normal, ↓callQ_eq, ↓loopQ_normal, ↓loopQ_ret, ↓loopQ_exit, ↓upd_same, upd_at, sel_t, sel_f, initE_at, obj_upd_same, obj_upd_ne, obj_new_same, obj_updnew_same, obj_updnew_same2, obj_new2_same, obj_new3_same, obj_newupd_same, obj_new_ne, obj_new_ne2, obj_new_ne3, obj_new_ne4, next_upd, next_new, add_plain, cop, bin, binInt, un, shiftInt, flat, read_cells, src_ro, src_fix, src_grow, get_cells, List.getElem?_cons_zero, List.getElem?_cons_succ, write_fix, write_grow, setAt, bound, eqK, elemOk_ro, elemOk_fix, elemOk_grow, stiff_ro, stiff_fix, goInt, resultsV, resV, resL, finQ_some, Option.map_some, Option.map_none, Option.bind_some, Option.bind_none, List.map_cons, List.map_nil, List.getD_cons_zero, List.getD_cons_succ, List.getD_nil, Nat.reduceEqDiff, Nat.reduceAdd, Nat.reduceMul, Nat.reduceSub, Nat.reduceLT, Nat.reduceLeDiff, Nat.reduceBEq, if_true, if_false, ite_true, ite_false, List.length_cons, List.length_nil, Nat.zero_add, Nat.add_zero, List.drop_zero, List.drop_succ_cons, List.take_succ_cons, List.take_zero, List.set_cons_zero, List.set_cons_succ, Int.reduceLT, Int.reduceLE, Bool.not_true, Bool.not_false, Option.isNone_some, Option.isNone_none, decide_true, decide_false, beq_self_eq_true, Bool.false_eq_true, Bool.true_eq_false, if_pos, if_neg, reduceCtorEq, beq_iff_eq, BEq.rfl, wrap_i64, wrap_i32, wrap_i8, wrap_u8, wrap_u32, wrap_u64, Nat.mul_one, Int.toNat_natCast, ints_len, List.length_map, List.length_set, beq_ft, beq_tf, List.all_cons, List.all_nil, scalar, Bool.and_self, Bool.true_and, Bool.and_true, List.size_toArray, List.getElem?_toArray, binStr, fillIn, true_and, and_true, true_or, or_true, bne_self_eq_false, Int.reduceToNat, Int.reduceAdd, Int.reduceSub, Int.reduceMul]
      exact hQ _ o3
end
/-! ### what was let through -/
abbrev LetT := Int × Int
abbrev LetE : Enc LetT := Enc.pair (Enc.int .i64) (Enc.int .i64)
def after (a : Int) : List LetT → Int
  | [] => 0
  | x :: r => (if x.1 > a then x.2 else 0) + after a r
theorem after_snoc (a : Int) (x : LetT) : ∀ l, after a (l ++ [x]) = after a l + (if x.1 > a then x.2 else 0)
  | [] => by simp [after]
  | y :: r => by rw [List.cons_append, after, after_snoc a x r, after]; omega
def Lets (now : Int) (l : List LetT) : Prop := ∀ x ∈ l, 0 ≤ x.1 ∧ x.1 ≤ now ∧ 1 ≤ x.2 ∧ x.2 ≤ 32
theorem after_none (a now : Int) (h : now ≤ a) : ∀ l, Lets now l → after a l = 0
  | [], _ => rfl
  | x :: r, hl => by
    have hx := hl x (by simp)
    rw [after, if_neg (by omega), after_none a now h r (fun y hy => hl y (List.mem_cons_of_mem _ hy))]; omega
theorem after_nn (a now : Int) : ∀ l, Lets now l → 0 ≤ after a l ∧ after a l ≤ 32 * l.length
  | [], _ => by simp [after]
  | x :: r, hl => by
    have hx := hl x (by simp)
    have := after_nn a now r (fun y hy => hl y (List.mem_cons_of_mem _ hy))
    rw [after, List.length_cons]; split <;> omega
structure InvB (T W B L now F U : Int) (l : List LetT) : Prop where
  lets : Lets now l
  f0 : 0 ≤ F
  full : F ≤ now + B * T
  paced : ∀ a, 0 < after a l → a + 1 + T * after a l ≤ F
  used : ∀ a, after a l ≤ U
  u1 : U ≤ 32 * l.length
theorem InvB.u0 {T W B L now F U : Int} {l : List LetT} (h : InvB T W B L now F U l) : 0 ≤ U := Int.le_trans (after_nn 0 now l h.lets).1 (h.used 0)
theorem InvB.later {T W B L now F U g : Int} {l : List LetT} (hg : 0 ≤ g) (h : InvB T W B L now F U l) : InvB T W B L (now + g) F U l := by
  obtain ⟨h1, h2, h3, h4, h5, h6⟩ := h
  exact ⟨fun x hx => by have := h1 x hx; omega, h2, by omega, h4, h5, h6⟩
theorem InvB.take {T W B L now F U c : Int} {l : List LetT} (hp : PaceOk T W B L) (hn : 0 ≤ now) (hc1 : 1 ≤ c) (hc2 : c ≤ 32) (hle : c ≤ base F T B now) (h : InvB T W B L now F U l) : InvB T W B L now (max F now + c * T) (U + c) (l ++ [(now, c)]) := by
  have ht := hp.t1
  obtain ⟨_, b2⟩ := base_take hp hc1 hle
  have hcT : 0 ≤ c * T := Int.mul_nonneg (by omega) (by omega)
  obtain ⟨h1, h2, h3, h4, h5, h6⟩ := h
  refine ⟨?_, by omega, b2, ?_, ?_, by rw [List.length_append, List.length_singleton]; omega⟩
  · intro x hx
    rcases List.mem_append.mp hx with hx | hx
    · have := h1 x hx; omega
    · rw [List.mem_singleton] at hx; subst hx; exact ⟨hn, by dsimp only; omega, hc1, hc2⟩
  · intro a ha
    rw [after_snoc] at ha ⊢
    dsimp only at ha ⊢
    by_cases c1 : now > a
    · rw [if_pos c1] at ha ⊢
      rw [Int.mul_add, Int.mul_comm T c]
      rcases Int.lt_or_eq_of_le (after_nn a now l h1).1 with hpos | hz
      · have := h4 a hpos; omega
      · rw [← hz, Int.mul_zero]; omega
    · rw [if_neg c1, after_none a now (by omega) l h1] at ha
      omega
  · intro a
    have := h5 a
    rw [after_snoc]; dsimp only; split <;> omega
theorem InvB.limit {T W B L now F U : Int} {l : List LetT} (hp : PaceOk T W B L) (h : InvB T W B L now F U l) : after (now - W) l ≤ L := by
  refine Int.not_lt.mp fun hgt => ?_
  have hb := hp.b1
  have hbl := hp.bl
  have h1 := h.paced (now - W) (by omega)
  have h2 := h.full
  have h3 := hp.unit
  have h4 : T * (L + 1) ≤ T * after (now - W) l := Int.mul_le_mul_of_nonneg_left (by omega) (by have := hp.t1; omega)
  have h5 : T * (L + 1) = T * (L + 1 - B) + B * T := by rw [Int.mul_sub, Int.mul_comm B T]; omega
  omega
/-- What was let through in the window that ends now is never above what the cell says. -/
theorem InvB.bound {T W B L now F U : Int} {l : List LetT} (hp : PaceOk T W B L) (h : InvB T W B L now F U l) : after (now - W) l ≤ bdN F 0 U T W L now ∧ bdN F 0 U T W L now ≤ L := by
  have hl := h.limit hp
  have h0 := (after_nn (now - W) now l h.lets).1
  have ht := hp.t1
  have hw := hp.w1
  have hb := hp.b1
  have hbl := hp.bl
  unfold bdN
  by_cases y : now < 0 + W
  · rw [if_pos y]
    have := h.used (now - W)
    omega
  · rw [if_neg y]
    refine ⟨?_, by omega⟩
    by_cases z : 0 < after (now - W) l
    · have h1 := h.paced (now - W) z
      have h2 : 0 ≤ T * after (now - W) l := Int.mul_nonneg (by omega) h0
      have h3 := (tdiv_in (F - (now - W)) T ht).1 (by omega)
      have h4 : after (now - W) l ≤ (F - (now - W)) / T := (Int.le_ediv_iff_mul_le (show 0 < T by omega)).2 (by rw [Int.mul_comm]; omega)
      omega
    · omega
/-- An idle one let nothing through, and is like a new one. -/
theorem InvB.idle {T W B L now F U : Int} {l : List LetT} (hp : PaceOk T W B L) (h : InvB T W B L now F U l) (hi : ¬ now < 0 + W ∧ F ≤ now - W) : after (now - W) l = 0 ∧ bdN F 0 U T W L now = 0 := by
  have h0 := (after_nn (now - W) now l h.lets).1
  have ht := hp.t1
  have hw := hp.w1
  have hb := hp.b1
  have hbl := hp.bl
  have a0 : after (now - W) l = 0 := by
    rcases Int.lt_or_eq_of_le h0 with z | z
    · have h1 := h.paced (now - W) z
      have h2 : 0 ≤ T * after (now - W) l := Int.mul_nonneg (by omega) h0
      omega
    · exact z.symm
  refine ⟨a0, ?_⟩
  unfold bdN
  rw [if_neg hi.1]
  have td := tdiv_in (F - (now - W)) T ht
  by_cases z : 0 ≤ F - (now - W)
  · have e : F - (now - W) = 0 := by omega
    rw [e] at td ⊢
    rw [Int.zero_tdiv]; omega
  · have := td.2 (by omega); omega
theorem idle_room {T W B L F U now : Int} (hp : PaceOk T W B L) (hi : ¬ now < 0 + W ∧ F ≤ now - W) : room F 0 0 U T W B L now = room now now 0 0 T W B L now := by
  have hw := hp.w1
  have hb := hp.b1
  have hbl := hp.bl
  unfold room base
  rw [if_neg hi.1, if_neg (by omega), if_pos (by omega), if_neg (by omega)]; omega
theorem idle_wait {T W B L F U now c : Int} (hp : PaceOk T W B L) (hc1 : 1 ≤ c) (hc2 : c ≤ B) (hi : ¬ now < 0 + W ∧ F ≤ now - W) : wait F 0 0 U T W B L now c = wait now now 0 0 T W B L now c := by
  have hw := hp.w1
  have hb := hp.b1
  have hbl := hp.bl
  unfold wait lag
  rw [if_neg (fun k => hi.1 k.1), if_neg (by omega)]
  rw [show max F now = now by omega, show max now now = now by omega]
end Go.Proofs.Ytdnimnlnicnjnaa.Can
