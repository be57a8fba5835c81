/- Waiting at a ring, and what the laws on rings share, in the canonical machine. No condition. -/
import Derived.Test.YtcmdehfbidgoeaaSRingNew
namespace Go.Proofs.Ytcmdehfbidgoeaa.Can
open Go
set_option linter.unusedSimpArgs false
set_option linter.unusedVariables false
attribute [local congr] RunR_congr RunC_congr afterR_congr guardR_congr condQ_congr CALL_congr finQ_congr op_congr opg_congr

theorem near_mono {a b : Int} (h : a ≤ b) : near a ≤ near b := by
  unfold near
  split
  · split
    · omega
    · split <;> omega
  · split
    · split
      · omega
      · split <;> omega
    · split
      · omega
      · split <;> omega
theorem product_ok (h : Heap) (a b : Int) (ha : I64 a) (hb : I64 b) (hp : I64 (a * b)) (Q : Value → Heap → Prop) : CALL cp 34 [.int .i64 a, .int .i64 b] h Q ↔ Q (.int .i64 (a * b)) h := by
  refine CALL_det ?_ Q
  rw [CALL_enter cp cp34]
  have f := fun h => mul_ok h a b ha hb
  have w := i64_conv _ hp
  have a1 := decide_eq_true hp
  simp (disch := omega) only [c34, ↓c34_r0_run, ↓c34_r1_run, ↓c34_r2_run, ↓c34_r3_run, ↓c34_r4_run, f, w, a1, ↓RunC_seq, ↓RunC_skip, ↓RunC_ret, ↓RunC_exit, ↓RunC_region, ↓RunC_condQ, condQ_true, condQ_false, ↓RunC_block, ↓RunR_done, ↓RunR_op, ↓RunR_opg, ↓RunR_snap, ↓RunR_chk, Holds, Option.getD_none, Option.getD_some, guardR_true, guardR_false, wantV_bool, wantV_none, callvQ_eq, afterR_some, ↓seqQ_normal, ↓seqQ_ret, ↓seqQ_exit, ↓blockQ_normal, ↓blockQ_ret, ↓blockQ_exit, ↓retQ_ret, ↓retQ_normal, ↓callQ_eq, ↓loopQ_normal, ↓loopQ_ret, ↓loopQ_exit, ↓upd_same, upd_at, sel_t, sel_f, initE_at, obj_upd_same, obj_upd_ne, obj_new_same, obj_updnew_same, obj_updnew_same2, obj_new2_same, obj_new3_same, obj_newupd_same, obj_new_ne, obj_new_ne2, obj_new_ne3, obj_new_ne4, next_upd, next_new, add_plain, cop, bin, binInt, un, shiftInt, flat, read_cells, src_ro, src_fix, src_grow, get_cells, List.getElem?_cons_zero, List.getElem?_cons_succ, write_fix, write_grow, setAt, bound, eqK, elemOk_ro, elemOk_fix, elemOk_grow, stiff_ro, stiff_fix, goInt, resultsV, resV, resL, finQ_some, Option.map_some, Option.map_none, Option.bind_some, Option.bind_none, List.map_cons, List.map_nil, List.getD_cons_zero, List.getD_cons_succ, List.getD_nil, Nat.reduceEqDiff, Nat.reduceAdd, Nat.reduceMul, Nat.reduceSub, Nat.reduceLT, Nat.reduceLeDiff, Nat.reduceBEq, if_true, if_false, ite_true, ite_false, List.length_cons, List.length_nil, Nat.zero_add, Nat.add_zero, List.drop_zero, List.drop_succ_cons, List.take_succ_cons, List.take_zero, List.set_cons_zero, List.set_cons_succ, Int.reduceLT, Int.reduceLE, Bool.not_true, Bool.not_false, Option.isNone_some, Option.isNone_none, decide_true, decide_false, beq_self_eq_true, Bool.false_eq_true, Bool.true_eq_false, if_pos, if_neg, reduceCtorEq, beq_iff_eq, BEq.rfl, wrap_i64, wrap_i32, wrap_i8, wrap_u8, wrap_u32, wrap_u64, Nat.mul_one, Int.toNat_natCast, ints_len, List.length_map, List.length_set, beq_ft, beq_tf, List.all_cons, List.all_nil, scalar, Bool.and_self, Bool.true_and, Bool.and_true, List.size_toArray, List.getElem?_toArray, binStr, fillIn, true_and, and_true, true_or, or_true, bne_self_eq_false, Int.reduceToNat, Int.reduceAdd, Int.reduceSub, Int.reduceMul]
/-- The slot at which there is room. -/
def waitK (r : RP) (st : List Int) (cs : Nat → List Int) (key : ByteArray) (cost n : Int) : Nat → Nat → Int
  | 0, k => n + r.N
  | d + 1, k => if near (fromN r st cs key (n + k) 0 r.N + cost) ≤ r.L then n + k else waitK r st cs key cost n d (k + 1)
def waitN (r : RP) (now : Int) (st : List Int) (cs : Nat → List Int) (key : ByteArray) (cost : Int) : Int :=
  if near (estN r now st cs key + cost) ≤ r.L then 0 else waitK r st cs key cost (now / r.W) r.N 1 * r.W - now
theorem fromN_in (r : RP) (st : List Int) (cs : Nat → List Int) (key : ByteArray) (n : Int) (into k : Nat) : I64 (fromN r st cs key n into k) := by
  cases k with
  | zero => exact (by unfold fromN I64; omega)
  | succ k => exact near_in _
section
variable {h h' : Heap} {r : RP} {now : Int} {st : List Int} {cs : Nat → List Int}
theorem slot_at (R : RingAt h r now st cs) (hnow : 0 ≤ now ∧ now ≤ 4611686018427387904) (k : Nat) (hk : k ≤ r.N) : (now / r.W + k) * r.W = (now / r.W) * r.W + k * r.W ∧ 0 ≤ (now / r.W) * r.W ∧ (now / r.W) * r.W ≤ now ∧ now < (now / r.W) * r.W + r.W ∧ 0 ≤ k * r.W ∧ k * r.W ≤ 71468255805440 := by
  have hN := R.hN
  have hW := R.hW
  have h1 := Int.ediv_mul_add_emod now r.W
  have h2 := Int.emod_nonneg now (show r.W ≠ 0 by omega)
  have h3 := Int.emod_lt_of_pos now (show 0 < r.W by omega)
  have h4 : (k : Int) * r.W ≤ 65 * 1099511627776 := Int.mul_le_mul (by omega) hW.2 (by omega) (by omega)
  have h5 : 0 ≤ (k : Int) * r.W := Int.mul_nonneg (by omega) (by omega)
  have h6 : 0 ≤ now / r.W := Int.ediv_nonneg hnow.1 (by omega)
  have h7 : 0 ≤ (now / r.W) * r.W := Int.mul_nonneg h6 (by omega)
  refine ⟨Int.add_mul _ _ _, h7, by omega, by omega, h5, by omega⟩
theorem wait_ok (R : RingAt h r now st cs) (hnow : 0 ≤ now ∧ now ≤ 4611686018427387904) (key : ByteArray) (hs : key.size ≤ 140737488355328) (cost : Int) (hc : I64 cost)
    (pos : ∀ i, 0 ≤ leastAt r st cs key i ∧ leastAt r st cs key i ≤ 9223372036854775807) {Q : Value → Heap → Prop}
    (hQ : ∀ h', Old h h' → Q (.int .i64 (waitN r now st cs key cost)) h') : CALL cp 22 [.pointer (some ⟨r.x, 0, none⟩), .string key, .int .i64 cost] h Q := by
  rw [CALL_enter cp cp22]
  simp (disch := omega) only [c22, ↓c22_r0_run, ↓c22_r1_c1_run, ↓c22_r1_run, ↓c22_r2_run, ↓c22_r3_run, ↓c22_r4_run, ↓c22_r5_run, ↓c22_r7_c1_run, ↓c22_r7_run, ↓c22_r8_c1_run, ↓c22_r8_run, ↓c22_r6_run, ↓c22_r9_c2_run, ↓c22_r9_c1_run, ↓c22_r9_run, eqS, ↓RunC_seq, ↓RunC_skip, ↓RunC_ret, ↓RunC_exit, ↓RunC_region, ↓RunC_condQ, condQ_true, condQ_false, ↓RunC_block, ↓RunR_done, ↓RunR_op, ↓RunR_opg, ↓RunR_snap, ↓RunR_chk, Holds, Option.getD_none, Option.getD_some, guardR_true, guardR_false, wantV_bool, wantV_none, callvQ_eq, afterR_some, ↓seqQ_normal, ↓seqQ_ret, ↓seqQ_exit, ↓blockQ_normal, ↓blockQ_ret, ↓blockQ_exit, ↓retQ_ret, ↓retQ_normal, ↓callQ_eq, ↓loopQ_normal, ↓loopQ_ret, ↓loopQ_exit, ↓upd_same, upd_at, sel_t, sel_f, initE_at, obj_upd_same, obj_upd_ne, obj_new_same, obj_updnew_same, obj_updnew_same2, obj_new2_same, obj_new3_same, obj_newupd_same, obj_new_ne, obj_new_ne2, obj_new_ne3, obj_new_ne4, next_upd, next_new, add_plain, cop, bin, binInt, un, shiftInt, flat, read_cells, src_ro, src_fix, src_grow, get_cells, List.getElem?_cons_zero, List.getElem?_cons_succ, write_fix, write_grow, setAt, bound, eqK, elemOk_ro, elemOk_fix, elemOk_grow, stiff_ro, stiff_fix, goInt, resultsV, resV, resL, finQ_some, Option.map_some, Option.map_none, Option.bind_some, Option.bind_none, List.map_cons, List.map_nil, List.getD_cons_zero, List.getD_cons_succ, List.getD_nil, Nat.reduceEqDiff, Nat.reduceAdd, Nat.reduceMul, Nat.reduceSub, Nat.reduceLT, Nat.reduceLeDiff, Nat.reduceBEq, if_true, if_false, ite_true, ite_false, List.length_cons, List.length_nil, Nat.zero_add, Nat.add_zero, List.drop_zero, List.drop_succ_cons, List.take_succ_cons, List.take_zero, List.set_cons_zero, List.set_cons_succ, Int.reduceLT, Int.reduceLE, Bool.not_true, Bool.not_false, Option.isNone_some, Option.isNone_none, decide_true, decide_false, beq_self_eq_true, Bool.false_eq_true, Bool.true_eq_false, if_pos, if_neg, reduceCtorEq, beq_iff_eq, BEq.rfl, wrap_i64, wrap_i32, wrap_i8, wrap_u8, wrap_u32, wrap_u64, Nat.mul_one, Int.toNat_natCast, ints_len, List.length_map, List.length_set, beq_ft, beq_tf, List.all_cons, List.all_nil, scalar, Bool.and_self, Bool.true_and, Bool.and_true, List.size_toArray, List.getElem?_toArray, binStr, fillIn, true_and, and_true, true_or, or_true, bne_self_eq_false, Int.reduceToNat, Int.reduceAdd, Int.reduceSub, Int.reduceMul]
  refine estimate_ok R (by omega) key hs pos fun h1 o1 => ?_
  have R1 := R.old o1
  have ox0 := R.ox
  have ox := R1.ox
  have hN := R.hN
  have hW := R.hW
  have hL := R.hL
  have ei : I64 (estN r now st cs key) := fromN_in _ _ _ _ _ _ _
  have fs := fun h => sum_ok h (estN r now st cs key) cost ei hc
  unfold waitN at hQ
  by_cases c : near (estN r now st cs key + cost) ≤ r.L
  · have a1 := decide_eq_true c
    rw [if_pos c] at hQ
    simp (disch := omega) only [c22, ↓c22_r0_run, ↓c22_r1_c1_run, ↓c22_r1_run, ↓c22_r2_run, ↓c22_r3_run, ↓c22_r4_run, ↓c22_r5_run, ↓c22_r7_c1_run, ↓c22_r7_run, ↓c22_r8_c1_run, ↓c22_r8_run, ↓c22_r6_run, ↓c22_r9_c2_run, ↓c22_r9_c1_run, ↓c22_r9_run, ox0, ox, fs, a1, eqS, ↓RunC_seq, ↓RunC_skip, ↓RunC_ret, ↓RunC_exit, ↓RunC_region, ↓RunC_condQ, condQ_true, condQ_false, ↓RunC_block, ↓RunR_done, ↓RunR_op, ↓RunR_opg, ↓RunR_snap, ↓RunR_chk, Holds, Option.getD_none, Option.getD_some, guardR_true, guardR_false, wantV_bool, wantV_none, callvQ_eq, afterR_some, ↓seqQ_normal, ↓seqQ_ret, ↓seqQ_exit, ↓blockQ_normal, ↓blockQ_ret, ↓blockQ_exit, ↓retQ_ret, ↓retQ_normal, ↓callQ_eq, ↓loopQ_normal, ↓loopQ_ret, ↓loopQ_exit, ↓upd_same, upd_at, sel_t, sel_f, initE_at, obj_upd_same, obj_upd_ne, obj_new_same, obj_updnew_same, obj_updnew_same2, obj_new2_same, obj_new3_same, obj_newupd_same, obj_new_ne, obj_new_ne2, obj_new_ne3, obj_new_ne4, next_upd, next_new, add_plain, cop, bin, binInt, un, shiftInt, flat, read_cells, src_ro, src_fix, src_grow, get_cells, List.getElem?_cons_zero, List.getElem?_cons_succ, write_fix, write_grow, setAt, bound, eqK, elemOk_ro, elemOk_fix, elemOk_grow, stiff_ro, stiff_fix, goInt, resultsV, resV, resL, finQ_some, Option.map_some, Option.map_none, Option.bind_some, Option.bind_none, List.map_cons, List.map_nil, List.getD_cons_zero, List.getD_cons_succ, List.getD_nil, Nat.reduceEqDiff, Nat.reduceAdd, Nat.reduceMul, Nat.reduceSub, Nat.reduceLT, Nat.reduceLeDiff, Nat.reduceBEq, if_true, if_false, ite_true, ite_false, List.length_cons, List.length_nil, Nat.zero_add, Nat.add_zero, List.drop_zero, List.drop_succ_cons, List.take_succ_cons, List.take_zero, List.set_cons_zero, List.set_cons_succ, Int.reduceLT, Int.reduceLE, Bool.not_true, Bool.not_false, Option.isNone_some, Option.isNone_none, decide_true, decide_false, beq_self_eq_true, Bool.false_eq_true, Bool.true_eq_false, if_pos, if_neg, reduceCtorEq, beq_iff_eq, BEq.rfl, wrap_i64, wrap_i32, wrap_i8, wrap_u8, wrap_u32, wrap_u64, Nat.mul_one, Int.toNat_natCast, ints_len, List.length_map, List.length_set, beq_ft, beq_tf, List.all_cons, List.all_nil, scalar, Bool.and_self, Bool.true_and, Bool.and_true, List.size_toArray, List.getElem?_toArray, binStr, fillIn, true_and, and_true, true_or, or_true, bne_self_eq_false, Int.reduceToNat, Int.reduceAdd, Int.reduceSub, Int.reduceMul]
    exact hQ _ o1
  have a1 := decide_eq_false c
  rw [if_neg c] at hQ
  have fn := fun Q => number_ok R1 now (by omega) Q
  obtain ⟨n, hn⟩ : ∃ n, n = now / r.W := ⟨_, rfl⟩
  have q0 : 0 ≤ n := by rw [hn]; exact Int.ediv_nonneg hnow.1 (by omega)
  have q1 : n ≤ now := by rw [hn]; exact Int.ediv_le_self r.W hnow.1
  have sa := fun k hk => slot_at R1 hnow k hk
  rw [← hn] at fn hQ sa
  simp (disch := omega) only [c22, ↓c22_r0_run, ↓c22_r1_c1_run, ↓c22_r1_run, ↓c22_r2_run, ↓c22_r3_run, ↓c22_r4_run, ↓c22_r5_run, ↓c22_r7_c1_run, ↓c22_r7_run, ↓c22_r8_c1_run, ↓c22_r8_run, ↓c22_r6_run, ↓c22_r9_c2_run, ↓c22_r9_c1_run, ↓c22_r9_run, ox0, ox, fs, a1, fn, eqS, ↓RunC_seq, ↓RunC_skip, ↓RunC_ret, ↓RunC_exit, ↓RunC_region, ↓RunC_condQ, condQ_true, condQ_false, ↓RunC_block, ↓RunR_done, ↓RunR_op, ↓RunR_opg, ↓RunR_snap, ↓RunR_chk, Holds, Option.getD_none, Option.getD_some, guardR_true, guardR_false, wantV_bool, wantV_none, callvQ_eq, afterR_some, ↓seqQ_normal, ↓seqQ_ret, ↓seqQ_exit, ↓blockQ_normal, ↓blockQ_ret, ↓blockQ_exit, ↓retQ_ret, ↓retQ_normal, ↓callQ_eq, ↓loopQ_normal, ↓loopQ_ret, ↓loopQ_exit, ↓upd_same, upd_at, sel_t, sel_f, initE_at, obj_upd_same, obj_upd_ne, obj_new_same, obj_updnew_same, obj_updnew_same2, obj_new2_same, obj_new3_same, obj_newupd_same, obj_new_ne, obj_new_ne2, obj_new_ne3, obj_new_ne4, next_upd, next_new, add_plain, cop, bin, binInt, un, shiftInt, flat, read_cells, src_ro, src_fix, src_grow, get_cells, List.getElem?_cons_zero, List.getElem?_cons_succ, write_fix, write_grow, setAt, bound, eqK, elemOk_ro, elemOk_fix, elemOk_grow, stiff_ro, stiff_fix, goInt, resultsV, resV, resL, finQ_some, Option.map_some, Option.map_none, Option.bind_some, Option.bind_none, List.map_cons, List.map_nil, List.getD_cons_zero, List.getD_cons_succ, List.getD_nil, Nat.reduceEqDiff, Nat.reduceAdd, Nat.reduceMul, Nat.reduceSub, Nat.reduceLT, Nat.reduceLeDiff, Nat.reduceBEq, if_true, if_false, ite_true, ite_false, List.length_cons, List.length_nil, Nat.zero_add, Nat.add_zero, List.drop_zero, List.drop_succ_cons, List.take_succ_cons, List.take_zero, List.set_cons_zero, List.set_cons_succ, Int.reduceLT, Int.reduceLE, Bool.not_true, Bool.not_false, Option.isNone_some, Option.isNone_none, decide_true, decide_false, beq_self_eq_true, Bool.false_eq_true, Bool.true_eq_false, if_pos, if_neg, reduceCtorEq, beq_iff_eq, BEq.rfl, wrap_i64, wrap_i32, wrap_i8, wrap_u8, wrap_u32, wrap_u64, Nat.mul_one, Int.toNat_natCast, ints_len, List.length_map, List.length_set, beq_ft, beq_tf, List.all_cons, List.all_nil, scalar, Bool.and_self, Bool.true_and, Bool.and_true, List.size_toArray, List.getElem?_toArray, binStr, fillIn, true_and, and_true, true_or, or_true, bne_self_eq_false, Int.reduceToNat, Int.reduceAdd, Int.reduceSub, Int.reduceMul]
  refine RunC_loop cp c22_l0 _ (fun d e hh => ∃ k : Nat, k + d = r.N + 1 ∧ 1 ≤ k ∧ Old h hh ∧ waitK r st cs key cost n d k = waitK r st cs key cost n r.N 1 ∧ e 0 = .pointer (some ⟨r.x, 0, none⟩) ∧ e 1 = .string key ∧ e 2 = .int .i64 cost ∧ e 7 = .int .i64 n ∧ e 8 = .int .i64 k) ?_ r.N _ _
    ⟨1, by omega, by omega, o1, rfl, rfl, rfl, rfl, rfl, rfl⟩
  rintro d e hh ⟨k, hk, hk1, o, wk, e0, e1, e2, e7, e8⟩
  have R1 := R.old o
  have ox := R1.ox
  by_cases ck : k ≤ r.N
  · have b1 : decide ((k : Int) ≤ (r.N : Int)) = true := decide_eq_true (by omega)
    obtain ⟨s1, s2, s3, s4, s5, s6⟩ := sa k ck
    simp (disch := omega) only [c22_l0, c22, ↓c22_r0_run, ↓c22_r1_c1_run, ↓c22_r1_run, ↓c22_r2_run, ↓c22_r3_run, ↓c22_r4_run, ↓c22_r5_run, ↓c22_r7_c1_run, ↓c22_r7_run, ↓c22_r8_c1_run, ↓c22_r8_run, ↓c22_r6_run, ↓c22_r9_c2_run, ↓c22_r9_c1_run, ↓c22_r9_run, e0, e1, e2, e7, e8, b1, ox, eqS, ↓RunC_seq, ↓RunC_skip, ↓RunC_ret, ↓RunC_exit, ↓RunC_region, ↓RunC_condQ, condQ_true, condQ_false, ↓RunC_block, ↓RunR_done, ↓RunR_op, ↓RunR_opg, ↓RunR_snap, ↓RunR_chk, Holds, Option.getD_none, Option.getD_some, guardR_true, guardR_false, wantV_bool, wantV_none, callvQ_eq, afterR_some, ↓seqQ_normal, ↓seqQ_ret, ↓seqQ_exit, ↓blockQ_normal, ↓blockQ_ret, ↓blockQ_exit, ↓retQ_ret, ↓retQ_normal, ↓callQ_eq, ↓loopQ_normal, ↓loopQ_ret, ↓loopQ_exit, ↓upd_same, upd_at, sel_t, sel_f, initE_at, obj_upd_same, obj_upd_ne, obj_new_same, obj_updnew_same, obj_updnew_same2, obj_new2_same, obj_new3_same, obj_newupd_same, obj_new_ne, obj_new_ne2, obj_new_ne3, obj_new_ne4, next_upd, next_new, add_plain, cop, bin, binInt, un, shiftInt, flat, read_cells, src_ro, src_fix, src_grow, get_cells, List.getElem?_cons_zero, List.getElem?_cons_succ, write_fix, write_grow, setAt, bound, eqK, elemOk_ro, elemOk_fix, elemOk_grow, stiff_ro, stiff_fix, goInt, resultsV, resV, resL, finQ_some, Option.map_some, Option.map_none, Option.bind_some, Option.bind_none, List.map_cons, List.map_nil, List.getD_cons_zero, List.getD_cons_succ, List.getD_nil, Nat.reduceEqDiff, Nat.reduceAdd, Nat.reduceMul, Nat.reduceSub, Nat.reduceLT, Nat.reduceLeDiff, Nat.reduceBEq, if_true, if_false, ite_true, ite_false, List.length_cons, List.length_nil, Nat.zero_add, Nat.add_zero, List.drop_zero, List.drop_succ_cons, List.take_succ_cons, List.take_zero, List.set_cons_zero, List.set_cons_succ, Int.reduceLT, Int.reduceLE, Bool.not_true, Bool.not_false, Option.isNone_some, Option.isNone_none, decide_true, decide_false, beq_self_eq_true, Bool.false_eq_true, Bool.true_eq_false, if_pos, if_neg, reduceCtorEq, beq_iff_eq, BEq.rfl, wrap_i64, wrap_i32, wrap_i8, wrap_u8, wrap_u32, wrap_u64, Nat.mul_one, Int.toNat_natCast, ints_len, List.length_map, List.length_set, beq_ft, beq_tf, List.all_cons, List.all_nil, scalar, Bool.and_self, Bool.true_and, Bool.and_true, List.size_toArray, List.getElem?_toArray, binStr, fillIn, true_and, and_true, true_or, or_true, bne_self_eq_false, Int.reduceToNat, Int.reduceAdd, Int.reduceSub, Int.reduceMul]
    refine from_ok R1 (n + k) (by omega) 0 (by omega) key hs pos fun h2 o2 => ?_
    have R2 := R1.old o2
    have ox0 := R1.ox
    have ox := R2.ox
    have fs := fun h => sum_ok h (fromN r st cs key (n + k) 0 r.N) cost (fromN_in _ _ _ _ _ _ _) hc
    have nx : (k : Int) + 1 = ((k + 1 : Nat) : Int) := by omega
    obtain ⟨d, rfl⟩ : ∃ d', d = d' + 1 := ⟨d - 1, by omega⟩
    simp only [waitK] at wk
    by_cases c2 : near (fromN r st cs key (n + k) 0 r.N + cost) ≤ r.L
    · have a2 := decide_eq_true c2
      rw [if_pos c2] at wk
      rw [← wk] at hQ
      have hp : I64 ((n + k) * r.W) := by unfold I64; omega
      have fp := fun h => product_ok h (n + k) r.W (by unfold I64; omega) (by unfold I64; omega) hp
      have fm := fun h => sum_ok h ((n + k) * r.W) (0 - now) hp (by unfold I64; omega)
      have ne : near ((n + k) * r.W + (0 - now)) = (n + k) * r.W - now := by rw [near_eq (by unfold I64; omega)]; omega
      rw [ne] at fm
      simp (disch := omega) only [c22, ↓c22_r0_run, ↓c22_r1_c1_run, ↓c22_r1_run, ↓c22_r2_run, ↓c22_r3_run, ↓c22_r4_run, ↓c22_r5_run, ↓c22_r7_c1_run, ↓c22_r7_run, ↓c22_r8_c1_run, ↓c22_r8_run, ↓c22_r6_run, ↓c22_r9_c2_run, ↓c22_r9_c1_run, ↓c22_r9_run, e0, e1, e2, e7, e8, ox0, ox, fs, a2, fp, fm, eqS, ↓RunC_seq, ↓RunC_skip, ↓RunC_ret, ↓RunC_exit, ↓RunC_region, ↓RunC_condQ, condQ_true, condQ_false, ↓RunC_block, ↓RunR_done, ↓RunR_op, ↓RunR_opg, ↓RunR_snap, ↓RunR_chk, Holds, Option.getD_none, Option.getD_some, guardR_true, guardR_false, wantV_bool, wantV_none, callvQ_eq, afterR_some, ↓seqQ_normal, ↓seqQ_ret, ↓seqQ_exit, ↓blockQ_normal, ↓blockQ_ret, ↓blockQ_exit, ↓retQ_ret, ↓retQ_normal, ↓callQ_eq, ↓loopQ_normal, ↓loopQ_ret, ↓loopQ_exit, ↓upd_same, upd_at, sel_t, sel_f, initE_at, obj_upd_same, obj_upd_ne, obj_new_same, obj_updnew_same, obj_updnew_same2, obj_new2_same, obj_new3_same, obj_newupd_same, obj_new_ne, obj_new_ne2, obj_new_ne3, obj_new_ne4, next_upd, next_new, add_plain, cop, bin, binInt, un, shiftInt, flat, read_cells, src_ro, src_fix, src_grow, get_cells, List.getElem?_cons_zero, List.getElem?_cons_succ, write_fix, write_grow, setAt, bound, eqK, elemOk_ro, elemOk_fix, elemOk_grow, stiff_ro, stiff_fix, goInt, resultsV, resV, resL, finQ_some, Option.map_some, Option.map_none, Option.bind_some, Option.bind_none, List.map_cons, List.map_nil, List.getD_cons_zero, List.getD_cons_succ, List.getD_nil, Nat.reduceEqDiff, Nat.reduceAdd, Nat.reduceMul, Nat.reduceSub, Nat.reduceLT, Nat.reduceLeDiff, Nat.reduceBEq, if_true, if_false, ite_true, ite_false, List.length_cons, List.length_nil, Nat.zero_add, Nat.add_zero, List.drop_zero, List.drop_succ_cons, List.take_succ_cons, List.take_zero, List.set_cons_zero, List.set_cons_succ, Int.reduceLT, Int.reduceLE, Bool.not_true, Bool.not_false, Option.isNone_some, Option.isNone_none, decide_true, decide_false, beq_self_eq_true, Bool.false_eq_true, Bool.true_eq_false, if_pos, if_neg, reduceCtorEq, beq_iff_eq, BEq.rfl, wrap_i64, wrap_i32, wrap_i8, wrap_u8, wrap_u32, wrap_u64, Nat.mul_one, Int.toNat_natCast, ints_len, List.length_map, List.length_set, beq_ft, beq_tf, List.all_cons, List.all_nil, scalar, Bool.and_self, Bool.true_and, Bool.and_true, List.size_toArray, List.getElem?_toArray, binStr, fillIn, true_and, and_true, true_or, or_true, bne_self_eq_false, Int.reduceToNat, Int.reduceAdd, Int.reduceSub, Int.reduceMul]
      exact hQ _ (o.trans o2)
    · have a2 := decide_eq_false c2
      rw [if_neg c2] at wk
      simp (disch := omega) only [c22, ↓c22_r0_run, ↓c22_r1_c1_run, ↓c22_r1_run, ↓c22_r2_run, ↓c22_r3_run, ↓c22_r4_run, ↓c22_r5_run, ↓c22_r7_c1_run, ↓c22_r7_run, ↓c22_r8_c1_run, ↓c22_r8_run, ↓c22_r6_run, ↓c22_r9_c2_run, ↓c22_r9_c1_run, ↓c22_r9_run, e0, e1, e2, e7, e8, ox0, ox, fs, a2, nx, eqS, ↓RunC_seq, ↓RunC_skip, ↓RunC_ret, ↓RunC_exit, ↓RunC_region, ↓RunC_condQ, condQ_true, condQ_false, ↓RunC_block, ↓RunR_done, ↓RunR_op, ↓RunR_opg, ↓RunR_snap, ↓RunR_chk, Holds, Option.getD_none, Option.getD_some, guardR_true, guardR_false, wantV_bool, wantV_none, callvQ_eq, afterR_some, ↓seqQ_normal, ↓seqQ_ret, ↓seqQ_exit, ↓blockQ_normal, ↓blockQ_ret, ↓blockQ_exit, ↓retQ_ret, ↓retQ_normal, ↓callQ_eq, ↓loopQ_normal, ↓loopQ_ret, ↓loopQ_exit, ↓upd_same, upd_at, sel_t, sel_f, initE_at, obj_upd_same, obj_upd_ne, obj_new_same, obj_updnew_same, obj_updnew_same2, obj_new2_same, obj_new3_same, obj_newupd_same, obj_new_ne, obj_new_ne2, obj_new_ne3, obj_new_ne4, next_upd, next_new, add_plain, cop, bin, binInt, un, shiftInt, flat, read_cells, src_ro, src_fix, src_grow, get_cells, List.getElem?_cons_zero, List.getElem?_cons_succ, write_fix, write_grow, setAt, bound, eqK, elemOk_ro, elemOk_fix, elemOk_grow, stiff_ro, stiff_fix, goInt, resultsV, resV, resL, finQ_some, Option.map_some, Option.map_none, Option.bind_some, Option.bind_none, List.map_cons, List.map_nil, List.getD_cons_zero, List.getD_cons_succ, List.getD_nil, Nat.reduceEqDiff, Nat.reduceAdd, Nat.reduceMul, Nat.reduceSub, Nat.reduceLT, Nat.reduceLeDiff, Nat.reduceBEq, if_true, if_false, ite_true, ite_false, List.length_cons, List.length_nil, Nat.zero_add, Nat.add_zero, List.drop_zero, List.drop_succ_cons, List.take_succ_cons, List.take_zero, List.set_cons_zero, List.set_cons_succ, Int.reduceLT, Int.reduceLE, Bool.not_true, Bool.not_false, Option.isNone_some, Option.isNone_none, decide_true, decide_false, beq_self_eq_true, Bool.false_eq_true, Bool.true_eq_false, if_pos, if_neg, reduceCtorEq, beq_iff_eq, BEq.rfl, wrap_i64, wrap_i32, wrap_i8, wrap_u8, wrap_u32, wrap_u64, Nat.mul_one, Int.toNat_natCast, ints_len, List.length_map, List.length_set, beq_ft, beq_tf, List.all_cons, List.all_nil, scalar, Bool.and_self, Bool.true_and, Bool.and_true, List.size_toArray, List.getElem?_toArray, binStr, fillIn, true_and, and_true, true_or, or_true, bne_self_eq_false, Int.reduceToNat, Int.reduceAdd, Int.reduceSub, Int.reduceMul]
      refine ⟨d, by omega, k + 1, by omega, by omega, o.trans o2, wk, ?_⟩
      repeat' first | assumption | rfl | apply And.intro
  · have b1 : decide ((k : Int) ≤ (r.N : Int)) = false := decide_eq_false (by omega)
    obtain rfl : d = 0 := by omega
    simp only [waitK] at wk
    rw [← wk] at hQ
    obtain ⟨s1, s2, s3, s4, s5, s6⟩ := sa r.N (Nat.le_refl _)
    have hp : I64 ((n + r.N) * r.W) := by unfold I64; omega
    have fp := fun h => product_ok h (n + r.N) r.W (by unfold I64; omega) (by unfold I64; omega) hp
    have fm := fun h => sum_ok h ((n + r.N) * r.W) (0 - now) hp (by unfold I64; omega)
    have ne : near ((n + r.N) * r.W + (0 - now)) = (n + r.N) * r.W - now := by rw [near_eq (by unfold I64; omega)]; omega
    rw [ne] at fm
    simp (disch := omega) only [c22_l0, c22, ↓c22_r0_run, ↓c22_r1_c1_run, ↓c22_r1_run, ↓c22_r2_run, ↓c22_r3_run, ↓c22_r4_run, ↓c22_r5_run, ↓c22_r7_c1_run, ↓c22_r7_run, ↓c22_r8_c1_run, ↓c22_r8_run, ↓c22_r6_run, ↓c22_r9_c2_run, ↓c22_r9_c1_run, ↓c22_r9_run, e0, e1, e2, e7, e8, b1, ox, fp, fm, eqS, ↓RunC_seq, ↓RunC_skip, ↓RunC_ret, ↓RunC_exit, ↓RunC_region, ↓RunC_condQ, condQ_true, condQ_false, ↓RunC_block, ↓RunR_done, ↓RunR_op, ↓RunR_opg, ↓RunR_snap, ↓RunR_chk, Holds, Option.getD_none, Option.getD_some, guardR_true, guardR_false, wantV_bool, wantV_none, callvQ_eq, afterR_some, ↓seqQ_normal, ↓seqQ_ret, ↓seqQ_exit, ↓blockQ_normal, ↓blockQ_ret, ↓blockQ_exit, ↓retQ_ret, ↓retQ_normal, ↓callQ_eq, ↓loopQ_normal, ↓loopQ_ret, ↓loopQ_exit, ↓upd_same, upd_at, sel_t, sel_f, initE_at, obj_upd_same, obj_upd_ne, obj_new_same, obj_updnew_same, obj_updnew_same2, obj_new2_same, obj_new3_same, obj_newupd_same, obj_new_ne, obj_new_ne2, obj_new_ne3, obj_new_ne4, next_upd, next_new, add_plain, cop, bin, binInt, un, shiftInt, flat, read_cells, src_ro, src_fix, src_grow, get_cells, List.getElem?_cons_zero, List.getElem?_cons_succ, write_fix, write_grow, setAt, bound, eqK, elemOk_ro, elemOk_fix, elemOk_grow, stiff_ro, stiff_fix, goInt, resultsV, resV, resL, finQ_some, Option.map_some, Option.map_none, Option.bind_some, Option.bind_none, List.map_cons, List.map_nil, List.getD_cons_zero, List.getD_cons_succ, List.getD_nil, Nat.reduceEqDiff, Nat.reduceAdd, Nat.reduceMul, Nat.reduceSub, Nat.reduceLT, Nat.reduceLeDiff, Nat.reduceBEq, if_true, if_false, ite_true, ite_false, List.length_cons, List.length_nil, Nat.zero_add, Nat.add_zero, List.drop_zero, List.drop_succ_cons, List.take_succ_cons, List.take_zero, List.set_cons_zero, List.set_cons_succ, Int.reduceLT, Int.reduceLE, Bool.not_true, Bool.not_false, Option.isNone_some, Option.isNone_none, decide_true, decide_false, beq_self_eq_true, Bool.false_eq_true, Bool.true_eq_false, if_pos, if_neg, reduceCtorEq, beq_iff_eq, BEq.rfl, wrap_i64, wrap_i32, wrap_i8, wrap_u8, wrap_u32, wrap_u64, Nat.mul_one, Int.toNat_natCast, ints_len, List.length_map, List.length_set, beq_ft, beq_tf, List.all_cons, List.all_nil, scalar, Bool.and_self, Bool.true_and, Bool.and_true, List.size_toArray, List.getElem?_toArray, binStr, fillIn, true_and, and_true, true_or, or_true, bne_self_eq_false, Int.reduceToNat, Int.reduceAdd, Int.reduceSub, Int.reduceMul]
    exact hQ _ o
end
theorem rbytes_ok (h : Heap) (S w Rr : Nat) (L Wd B C T : Int) (sm : Bool) (hS : S ≤ 64) (hr : Rr ≤ 8) (hw : w ≤ 4096) (Q : Value → Heap → Prop) (hQ : ∀ h', Old h h' → Q (.int .i64 (((S + 1) * (16 + 8 * Rr * w) : Nat) : Int)) h') :
    CALL cp 15 [.agg (ruleC L Wd B S C Rr w T sm).toArray] h Q := by
  rw [CALL_enter cp cp15]
  have f := fun h => slotBytes_ok h Rr w hr hw
  have k1 : (S : Int) + 1 = ((S + 1 : Nat) : Int) := by omega
  have m1 : 8 * Rr * w ≤ 8 * 8 * 4096 := Nat.mul_le_mul (by omega) hw
  obtain ⟨m, hm⟩ : ∃ m, m = 8 * Rr * w := ⟨_, rfl⟩
  rw [← hm] at f m1 hQ
  have k2 : (16 : Int) + (m : Int) = ((16 + m : Nat) : Int) := by omega
  have k3 : ((S + 1 : Nat) : Int) * ((16 + m : Nat) : Int) = (((S + 1) * (16 + m) : Nat) : Int) := by simp only [Int.natCast_mul]
  have m2 : (S + 1) * (16 + m) ≤ 65 * 262160 := Nat.mul_le_mul (by omega) (by omega)
  simp (disch := first | omega | (simp only [next_new, next_upd, ne_eq]; omega)) only [c15, ↓c15_r0_run, ↓c15_r1_run, ↓c15_r2_run, f, k1, k2, k3, ↓RunC_seq, ↓RunC_skip, ↓RunC_ret, ↓RunC_exit, ↓RunC_region, ↓RunC_condQ, condQ_true, condQ_false, ↓RunC_block, ↓RunR_done, ↓RunR_op, ↓RunR_opg, ↓RunR_snap, ↓RunR_chk, Holds, Option.getD_none, Option.getD_some, guardR_true, guardR_false, wantV_bool, wantV_none, callvQ_eq, afterR_some, ↓seqQ_normal, ↓seqQ_ret, ↓seqQ_exit, ↓blockQ_normal, ↓blockQ_ret, ↓blockQ_exit, ↓retQ_ret, ↓retQ_normal, ↓callQ_eq, ↓loopQ_normal, ↓loopQ_ret, ↓loopQ_exit, ↓upd_same, upd_at, sel_t, sel_f, initE_at, obj_upd_same, obj_upd_ne, obj_new_same, obj_updnew_same, obj_updnew_same2, obj_new2_same, obj_new3_same, obj_newupd_same, obj_new_ne, obj_new_ne2, obj_new_ne3, obj_new_ne4, next_upd, next_new, add_plain, cop, bin, binInt, un, shiftInt, flat, read_cells, src_ro, src_fix, src_grow, get_cells, List.getElem?_cons_zero, List.getElem?_cons_succ, write_fix, write_grow, setAt, bound, eqK, elemOk_ro, elemOk_fix, elemOk_grow, stiff_ro, stiff_fix, goInt, resultsV, resV, resL, finQ_some, Option.map_some, Option.map_none, Option.bind_some, Option.bind_none, List.map_cons, List.map_nil, List.getD_cons_zero, List.getD_cons_succ, List.getD_nil, Nat.reduceEqDiff, Nat.reduceAdd, Nat.reduceMul, Nat.reduceSub, Nat.reduceLT, Nat.reduceLeDiff, Nat.reduceBEq, if_true, if_false, ite_true, ite_false, List.length_cons, List.length_nil, Nat.zero_add, Nat.add_zero, List.drop_zero, List.drop_succ_cons, List.take_succ_cons, List.take_zero, List.set_cons_zero, List.set_cons_succ, Int.reduceLT, Int.reduceLE, Bool.not_true, Bool.not_false, Option.isNone_some, Option.isNone_none, decide_true, decide_false, beq_self_eq_true, Bool.false_eq_true, Bool.true_eq_false, if_pos, if_neg, reduceCtorEq, beq_iff_eq, BEq.rfl, wrap_i64, wrap_i32, wrap_i8, wrap_u8, wrap_u32, wrap_u64, Nat.mul_one, Int.toNat_natCast, ints_len, List.length_map, List.length_set, beq_ft, beq_tf, List.all_cons, List.all_nil, scalar, Bool.and_self, Bool.true_and, Bool.and_true, List.size_toArray, List.getElem?_toArray, binStr, fillIn, true_and, and_true, true_or, or_true, bne_self_eq_false, Int.reduceToNat, Int.reduceAdd, Int.reduceSub, Int.reduceMul]
  exact hQ _ ((Old.refl h).more _)
theorem gap_ok (h : Heap) (x : Int) (hx : I64 x) (Q : Value → Heap → Prop) : CALL cp 17 [.int .i64 x] h Q ↔ Q (.int .i64 (if x % 2 = 1 then x / 2 % 4096 else x / 2 % 16)) h := by
  refine CALL_det ?_ Q
  rw [CALL_enter cp cp17]
  have s1 := fun x : Int => shr_k .i64 x 1 (by decide)
  have m1 := and_i64 1 (by decide) x 1 (by decide)
  have m12 := and_i64 12 (by decide) (x / 2) 4095 (by decide)
  have m4 := and_i64 4 (by decide) (x / 2) 15 (by decide)
  have p1 : (2 : Int) ^ 1 = 2 := by decide
  have p4 : (2 : Int) ^ 4 = 16 := by decide
  have p12 : (2 : Int) ^ 12 = 4096 := by decide
  unfold I64 at hx
  by_cases c : x % 2 = 1
  · have a1 : (x % 2 == 1) = true := by rw [c]; rfl
    rw [if_pos c]
    simp (disch := omega) only [c17, ↓c17_r0_run, ↓c17_r1_run, ↓c17_r2_run, ↓c17_r3_run, s1, m1, m12, m4, p1, p4, p12, a1, ↓RunC_seq, ↓RunC_skip, ↓RunC_ret, ↓RunC_exit, ↓RunC_region, ↓RunC_condQ, condQ_true, condQ_false, ↓RunC_block, ↓RunR_done, ↓RunR_op, ↓RunR_opg, ↓RunR_snap, ↓RunR_chk, Holds, Option.getD_none, Option.getD_some, guardR_true, guardR_false, wantV_bool, wantV_none, callvQ_eq, afterR_some, ↓seqQ_normal, ↓seqQ_ret, ↓seqQ_exit, ↓blockQ_normal, ↓blockQ_ret, ↓blockQ_exit, ↓retQ_ret, ↓retQ_normal, ↓callQ_eq, ↓loopQ_normal, ↓loopQ_ret, ↓loopQ_exit, ↓upd_same, upd_at, sel_t, sel_f, initE_at, obj_upd_same, obj_upd_ne, obj_new_same, obj_updnew_same, obj_updnew_same2, obj_new2_same, obj_new3_same, obj_newupd_same, obj_new_ne, obj_new_ne2, obj_new_ne3, obj_new_ne4, next_upd, next_new, add_plain, cop, bin, binInt, un, shiftInt, flat, read_cells, src_ro, src_fix, src_grow, get_cells, List.getElem?_cons_zero, List.getElem?_cons_succ, write_fix, write_grow, setAt, bound, eqK, elemOk_ro, elemOk_fix, elemOk_grow, stiff_ro, stiff_fix, goInt, resultsV, resV, resL, finQ_some, Option.map_some, Option.map_none, Option.bind_some, Option.bind_none, List.map_cons, List.map_nil, List.getD_cons_zero, List.getD_cons_succ, List.getD_nil, Nat.reduceEqDiff, Nat.reduceAdd, Nat.reduceMul, Nat.reduceSub, Nat.reduceLT, Nat.reduceLeDiff, Nat.reduceBEq, if_true, if_false, ite_true, ite_false, List.length_cons, List.length_nil, Nat.zero_add, Nat.add_zero, List.drop_zero, List.drop_succ_cons, List.take_succ_cons, List.take_zero, List.set_cons_zero, List.set_cons_succ, Int.reduceLT, Int.reduceLE, Bool.not_true, Bool.not_false, Option.isNone_some, Option.isNone_none, decide_true, decide_false, beq_self_eq_true, Bool.false_eq_true, Bool.true_eq_false, if_pos, if_neg, reduceCtorEq, beq_iff_eq, BEq.rfl, wrap_i64, wrap_i32, wrap_i8, wrap_u8, wrap_u32, wrap_u64, Nat.mul_one, Int.toNat_natCast, ints_len, List.length_map, List.length_set, beq_ft, beq_tf, List.all_cons, List.all_nil, scalar, Bool.and_self, Bool.true_and, Bool.and_true, List.size_toArray, List.getElem?_toArray, binStr, fillIn, true_and, and_true, true_or, or_true, bne_self_eq_false, Int.reduceToNat, Int.reduceAdd, Int.reduceSub, Int.reduceMul]
  · have a1 : (x % 2 == 1) = false := beq_eq_false_iff_ne.2 c
    rw [if_neg c]
    simp (disch := omega) only [c17, ↓c17_r0_run, ↓c17_r1_run, ↓c17_r2_run, ↓c17_r3_run, s1, m1, m12, m4, p1, p4, p12, a1, ↓RunC_seq, ↓RunC_skip, ↓RunC_ret, ↓RunC_exit, ↓RunC_region, ↓RunC_condQ, condQ_true, condQ_false, ↓RunC_block, ↓RunR_done, ↓RunR_op, ↓RunR_opg, ↓RunR_snap, ↓RunR_chk, Holds, Option.getD_none, Option.getD_some, guardR_true, guardR_false, wantV_bool, wantV_none, callvQ_eq, afterR_some, ↓seqQ_normal, ↓seqQ_ret, ↓seqQ_exit, ↓blockQ_normal, ↓blockQ_ret, ↓blockQ_exit, ↓retQ_ret, ↓retQ_normal, ↓callQ_eq, ↓loopQ_normal, ↓loopQ_ret, ↓loopQ_exit, ↓upd_same, upd_at, sel_t, sel_f, initE_at, obj_upd_same, obj_upd_ne, obj_new_same, obj_updnew_same, obj_updnew_same2, obj_new2_same, obj_new3_same, obj_newupd_same, obj_new_ne, obj_new_ne2, obj_new_ne3, obj_new_ne4, next_upd, next_new, add_plain, cop, bin, binInt, un, shiftInt, flat, read_cells, src_ro, src_fix, src_grow, get_cells, List.getElem?_cons_zero, List.getElem?_cons_succ, write_fix, write_grow, setAt, bound, eqK, elemOk_ro, elemOk_fix, elemOk_grow, stiff_ro, stiff_fix, goInt, resultsV, resV, resL, finQ_some, Option.map_some, Option.map_none, Option.bind_some, Option.bind_none, List.map_cons, List.map_nil, List.getD_cons_zero, List.getD_cons_succ, List.getD_nil, Nat.reduceEqDiff, Nat.reduceAdd, Nat.reduceMul, Nat.reduceSub, Nat.reduceLT, Nat.reduceLeDiff, Nat.reduceBEq, if_true, if_false, ite_true, ite_false, List.length_cons, List.length_nil, Nat.zero_add, Nat.add_zero, List.drop_zero, List.drop_succ_cons, List.take_succ_cons, List.take_zero, List.set_cons_zero, List.set_cons_succ, Int.reduceLT, Int.reduceLE, Bool.not_true, Bool.not_false, Option.isNone_some, Option.isNone_none, decide_true, decide_false, beq_self_eq_true, Bool.false_eq_true, Bool.true_eq_false, if_pos, if_neg, reduceCtorEq, beq_iff_eq, BEq.rfl, wrap_i64, wrap_i32, wrap_i8, wrap_u8, wrap_u32, wrap_u64, Nat.mul_one, Int.toNat_natCast, ints_len, List.length_map, List.length_set, beq_ft, beq_tf, List.all_cons, List.all_nil, scalar, Bool.and_self, Bool.true_and, Bool.and_true, List.size_toArray, List.getElem?_toArray, binStr, fillIn, true_and, and_true, true_or, or_true, bne_self_eq_false, Int.reduceToNat, Int.reduceAdd, Int.reduceSub, Int.reduceMul]
def gapN (x : Int) : Int := if x % 2 = 1 then x / 2 % 4096 else x / 2 % 16
theorem gapN_in (x : Int) : 0 ≤ gapN x ∧ gapN x ≤ 4095 := by unfold gapN; split <;> omega
abbrev PlanT := Int × Int × Int × Int × Bool
/-- A plan's slots, stretch, width and limit. -/
def pS (a : Int) : Nat := (a % 8).toNat + 1
def pT (b : Int) : Nat := (b % 32).toNat + 1
def pw (c : Int) : Nat := (c % 16).toNat + 1
def pL (d : Int) : Int := d % 64 + 1
theorem rule_ok (h : Heap) (a b c d : Int) (sm : Bool) (ha : I64 a) (hb : I64 b) (hc : I64 c) (hd : I64 d) {Q : Value → Heap → Prop}
    (hQ : ∀ h', Old h h' → Q (.agg (ruleC (pL d) ((pT b : Int) * (pS a : Int)) 0 (pS a) 0 0 (pw c) 0 sm).toArray) h') :
    CALL cp 11 [.agg #[.int .i64 a, .int .i64 b, .int .i64 c, .int .i64 d, .bool sm]] h Q := by
  rw [CALL_enter cp cp11]
  have m3 := and_i64 3 (by decide) a 7 (by decide)
  have m5 := and_i64 5 (by decide) b 31 (by decide)
  have m4 := and_i64 4 (by decide) c 15 (by decide)
  have m6 := and_i64 6 (by decide) d 63 (by decide)
  have p3 : (2 : Int) ^ 3 = 8 := by decide
  have p5 : (2 : Int) ^ 5 = 32 := by decide
  have p4 : (2 : Int) ^ 4 = 16 := by decide
  have p6 : (2 : Int) ^ 6 = 64 := by decide
  have ea : a % 8 + 1 = (pS a : Int) := by unfold pS; omega
  have eb : b % 32 + 1 = (pT b : Int) := by unfold pT; omega
  have ec : c % 16 + 1 = (pw c : Int) := by unfold pw; omega
  have ed : d % 64 + 1 = pL d := rfl
  have la : pS a ≤ 8 := by unfold pS; omega
  have lb : pT b ≤ 32 := by unfold pT; omega
  have lc : pw c ≤ 16 := by unfold pw; omega
  have ld : 1 ≤ pL d ∧ pL d ≤ 64 := by unfold pL; omega
  have lm : (pT b : Int) * (pS a : Int) ≤ 32 * 8 := Int.mul_le_mul (by omega) (by omega) (by omega) (by omega)
  have lm0 : 0 ≤ (pT b : Int) * (pS a : Int) := Int.mul_nonneg (by omega) (by omega)
  simp (disch := first | omega | (simp only [next_new, next_upd, ne_eq]; omega)) only [c11, ↓c11_r0_run, ↓c11_r1_run, ↓c11_r2_run, ↓c11_r3_c1_run, ↓c11_r3_run, m3, m5, m4, m6, p3, p4, p5, p6, ea, eb, ec, ed, ↓RunC_seq, ↓RunC_skip, ↓RunC_ret, ↓RunC_exit, ↓RunC_region, ↓RunC_condQ, condQ_true, condQ_false, ↓RunC_block, ↓RunR_done, ↓RunR_op, ↓RunR_opg, ↓RunR_snap, ↓RunR_chk, Holds, Option.getD_none, Option.getD_some, guardR_true, guardR_false, wantV_bool, wantV_none, callvQ_eq, afterR_some, ↓seqQ_normal, ↓seqQ_ret, ↓seqQ_exit, ↓blockQ_normal, ↓blockQ_ret, ↓blockQ_exit, ↓retQ_ret, ↓retQ_normal, ↓callQ_eq, ↓loopQ_normal, ↓loopQ_ret, ↓loopQ_exit, ↓upd_same, upd_at, sel_t, sel_f, initE_at, obj_upd_same, obj_upd_ne, obj_new_same, obj_updnew_same, obj_updnew_same2, obj_new2_same, obj_new3_same, obj_newupd_same, obj_new_ne, obj_new_ne2, obj_new_ne3, obj_new_ne4, next_upd, next_new, add_plain, cop, bin, binInt, un, shiftInt, flat, read_cells, src_ro, src_fix, src_grow, get_cells, List.getElem?_cons_zero, List.getElem?_cons_succ, write_fix, write_grow, setAt, bound, eqK, elemOk_ro, elemOk_fix, elemOk_grow, stiff_ro, stiff_fix, goInt, resultsV, resV, resL, finQ_some, Option.map_some, Option.map_none, Option.bind_some, Option.bind_none, List.map_cons, List.map_nil, List.getD_cons_zero, List.getD_cons_succ, List.getD_nil, Nat.reduceEqDiff, Nat.reduceAdd, Nat.reduceMul, Nat.reduceSub, Nat.reduceLT, Nat.reduceLeDiff, Nat.reduceBEq, if_true, if_false, ite_true, ite_false, List.length_cons, List.length_nil, Nat.zero_add, Nat.add_zero, List.drop_zero, List.drop_succ_cons, List.take_succ_cons, List.take_zero, List.set_cons_zero, List.set_cons_succ, Int.reduceLT, Int.reduceLE, Bool.not_true, Bool.not_false, Option.isNone_some, Option.isNone_none, decide_true, decide_false, beq_self_eq_true, Bool.false_eq_true, Bool.true_eq_false, if_pos, if_neg, reduceCtorEq, beq_iff_eq, BEq.rfl, wrap_i64, wrap_i32, wrap_i8, wrap_u8, wrap_u32, wrap_u64, Nat.mul_one, Int.toNat_natCast, ints_len, List.length_map, List.length_set, beq_ft, beq_tf, List.all_cons, List.all_nil, scalar, Bool.and_self, Bool.true_and, Bool.and_true, List.size_toArray, List.getElem?_toArray, binStr, fillIn, true_and, and_true, true_or, or_true, bne_self_eq_false, Int.reduceToNat, Int.reduceAdd, Int.reduceSub, Int.reduceMul]
  refine hQ _ ?_
  first | exact (((Old.refl h).more _).put _ _) | exact (((Old.refl h).more _).more _).trans ((Old.refl _).put _ _)
end Go.Proofs.Ytcmdehfbidgoeaa.Can
