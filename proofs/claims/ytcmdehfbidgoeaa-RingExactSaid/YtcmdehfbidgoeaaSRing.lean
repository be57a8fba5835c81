/- Rings, in the canonical machine. No condition. -/
import Derived.Test.YtcmdehfbidgoeaaSLaw06
namespace Go.Proofs.Ytcmdehfbidgoeaa.Can
open Go
set_option linter.unusedSimpArgs false
set_option linter.unusedVariables false
attribute [local congr] RunR_congr RunC_congr afterR_congr guardR_congr condQ_congr CALL_congr finQ_congr op_congr opg_congr

theorem least_nil (h : Heap) (key : ByteArray) (Q : Value → Heap → Prop) : CALL cp 35 [.pointer none, .string key] h Q ↔ Q (.int .i64 0) h := by
  refine CALL_det ?_ Q
  rw [CALL_enter cp cp35]
  simp (disch := omega) only [c35, ↓c35_r0_run, ↓c35_r1_run, ↓c35_r2_run, ↓c35_r3_run, ↓c35_r4_run, ↓c35_r5_run, ↓c35_r7_run, ↓c35_r6_run, ↓c35_r8_run, eqS, ↓RunC_seq, ↓RunC_skip, ↓RunC_ret, ↓RunC_exit, ↓RunC_region, ↓RunC_condQ, condQ_true, condQ_false, ↓RunC_block, ↓RunR_done, ↓RunR_op, ↓RunR_opg, ↓RunR_snap, ↓RunR_chk, Holds, Option.getD_none, Option.getD_some, guardR_true, guardR_false, wantV_bool, wantV_none, callvQ_eq, afterR_some, ↓seqQ_normal, ↓seqQ_ret, ↓seqQ_exit, ↓blockQ_normal, ↓blockQ_ret, ↓blockQ_exit, ↓retQ_ret, ↓retQ_normal, ↓callQ_eq, ↓loopQ_normal, ↓loopQ_ret, ↓loopQ_exit, ↓upd_same, upd_at, sel_t, sel_f, initE_at, obj_upd_same, obj_upd_ne, obj_new_same, obj_updnew_same, obj_updnew_same2, obj_new2_same, obj_new3_same, obj_newupd_same, obj_new_ne, obj_new_ne2, obj_new_ne3, obj_new_ne4, next_upd, next_new, add_plain, cop, bin, binInt, un, shiftInt, flat, read_cells, src_ro, src_fix, src_grow, get_cells, List.getElem?_cons_zero, List.getElem?_cons_succ, write_fix, write_grow, setAt, bound, eqK, elemOk_ro, elemOk_fix, elemOk_grow, stiff_ro, stiff_fix, goInt, resultsV, resV, resL, finQ_some, Option.map_some, Option.map_none, Option.bind_some, Option.bind_none, List.map_cons, List.map_nil, List.getD_cons_zero, List.getD_cons_succ, List.getD_nil, Nat.reduceEqDiff, Nat.reduceAdd, Nat.reduceMul, Nat.reduceSub, Nat.reduceLT, Nat.reduceLeDiff, Nat.reduceBEq, if_true, if_false, ite_true, ite_false, List.length_cons, List.length_nil, Nat.zero_add, Nat.add_zero, List.drop_zero, List.drop_succ_cons, List.take_succ_cons, List.take_zero, List.set_cons_zero, List.set_cons_succ, Int.reduceLT, Int.reduceLE, Bool.not_true, Bool.not_false, Option.isNone_some, Option.isNone_none, decide_true, decide_false, beq_self_eq_true, Bool.false_eq_true, Bool.true_eq_false, if_pos, if_neg, reduceCtorEq, beq_iff_eq, BEq.rfl, wrap_i64, wrap_i32, wrap_i8, wrap_u8, wrap_u32, wrap_u64, Nat.mul_one, Int.toNat_natCast, ints_len, List.length_map, List.length_set, beq_ft, beq_tf, List.all_cons, List.all_nil, scalar, Bool.and_self, Bool.true_and, Bool.and_true, List.size_toArray, List.getElem?_toArray, binStr, fillIn, true_and, and_true, true_or, or_true, bne_self_eq_false, Int.reduceToNat, Int.reduceAdd, Int.reduceSub, Int.reduceMul]
theorem count_nil (h : Heap) (key : ByteArray) (r : Int) (Q : Value → Heap → Prop) : CALL cp 33 [.pointer none, .int .i64 r, .string key] h Q ↔ Q (.int .i64 0) h := by
  refine CALL_det ?_ Q
  rw [CALL_enter cp cp33]
  simp (disch := omega) only [c33, ↓c33_r0_run, ↓c33_r1_c1_run, ↓c33_r1_run, ↓c33_r2_run, ↓c33_r3_run, eqS, ↓RunC_seq, ↓RunC_skip, ↓RunC_ret, ↓RunC_exit, ↓RunC_region, ↓RunC_condQ, condQ_true, condQ_false, ↓RunC_block, ↓RunR_done, ↓RunR_op, ↓RunR_opg, ↓RunR_snap, ↓RunR_chk, Holds, Option.getD_none, Option.getD_some, guardR_true, guardR_false, wantV_bool, wantV_none, callvQ_eq, afterR_some, ↓seqQ_normal, ↓seqQ_ret, ↓seqQ_exit, ↓blockQ_normal, ↓blockQ_ret, ↓blockQ_exit, ↓retQ_ret, ↓retQ_normal, ↓callQ_eq, ↓loopQ_normal, ↓loopQ_ret, ↓loopQ_exit, ↓upd_same, upd_at, sel_t, sel_f, initE_at, obj_upd_same, obj_upd_ne, obj_new_same, obj_updnew_same, obj_updnew_same2, obj_new2_same, obj_new3_same, obj_newupd_same, obj_new_ne, obj_new_ne2, obj_new_ne3, obj_new_ne4, next_upd, next_new, add_plain, cop, bin, binInt, un, shiftInt, flat, read_cells, src_ro, src_fix, src_grow, get_cells, List.getElem?_cons_zero, List.getElem?_cons_succ, write_fix, write_grow, setAt, bound, eqK, elemOk_ro, elemOk_fix, elemOk_grow, stiff_ro, stiff_fix, goInt, resultsV, resV, resL, finQ_some, Option.map_some, Option.map_none, Option.bind_some, Option.bind_none, List.map_cons, List.map_nil, List.getD_cons_zero, List.getD_cons_succ, List.getD_nil, Nat.reduceEqDiff, Nat.reduceAdd, Nat.reduceMul, Nat.reduceSub, Nat.reduceLT, Nat.reduceLeDiff, Nat.reduceBEq, if_true, if_false, ite_true, ite_false, List.length_cons, List.length_nil, Nat.zero_add, Nat.add_zero, List.drop_zero, List.drop_succ_cons, List.take_succ_cons, List.take_zero, List.set_cons_zero, List.set_cons_succ, Int.reduceLT, Int.reduceLE, Bool.not_true, Bool.not_false, Option.isNone_some, Option.isNone_none, decide_true, decide_false, beq_self_eq_true, Bool.false_eq_true, Bool.true_eq_false, if_pos, if_neg, reduceCtorEq, beq_iff_eq, BEq.rfl, wrap_i64, wrap_i32, wrap_i8, wrap_u8, wrap_u32, wrap_u64, Nat.mul_one, Int.toNat_natCast, ints_len, List.length_map, List.length_set, beq_ft, beq_tf, List.all_cons, List.all_nil, scalar, Bool.and_self, Bool.true_and, Bool.and_true, List.size_toArray, List.getElem?_toArray, binStr, fillIn, true_and, and_true, true_or, or_true, bne_self_eq_false, Int.reduceToNat, Int.reduceAdd, Int.reduceSub, Int.reduceMul]
def ceilN (n c : Nat) : Nat := if n % c = 0 then n / c else n / c + 1
theorem up_ok (h : Heap) (a b c : Nat) (ha : a < 18446744073709551616) (hb : b < 18446744073709551616) (hc : c < 18446744073709551616) (hf : a * b / 18446744073709551616 < c) (hq : a * b / c < 18446744073709551615) (Q : Value → Heap → Prop) :
    CALL cp 42 [.int .u64 a, .int .u64 b, .int .u64 c] h Q ↔ Q (.tuple #[.int .u64 (ceilN (a * b) c : Nat), .bool true]) h := by
  refine CALL_det ?_ Q
  rw [CALL_enter cp cp42]
  have f := fun h => divide_ok h a b c ha hb hc hf
  obtain ⟨n, hn⟩ : ∃ n, n = a * b := ⟨_, rfl⟩
  rw [← hn] at f hq ⊢
  have a2 : (((n / c : Nat) : Int) == 18446744073709551615) = false := beq_eq_false_iff_ne.2 (by omega)
  by_cases h0 : n % c = 0
  · have a1 : decide (((n % c : Nat) : Int) > 0) = false := decide_eq_false (by omega)
    have e : ceilN n c = n / c := by unfold ceilN; rw [if_pos h0]
    rw [e]
    simp (disch := omega) only [c42, ↓c42_r0_run, ↓c42_r1_c1_run, ↓c42_r1_run, ↓c42_r2_run, ↓c42_r3_run, ↓c42_r4_run, ↓c42_r5_run, ↓c42_r6_run, f, a1, a2, ↓RunC_seq, ↓RunC_skip, ↓RunC_ret, ↓RunC_exit, ↓RunC_region, ↓RunC_condQ, condQ_true, condQ_false, ↓RunC_block, ↓RunR_done, ↓RunR_op, ↓RunR_opg, ↓RunR_snap, ↓RunR_chk, Holds, Option.getD_none, Option.getD_some, guardR_true, guardR_false, wantV_bool, wantV_none, callvQ_eq, afterR_some, ↓seqQ_normal, ↓seqQ_ret, ↓seqQ_exit, ↓blockQ_normal, ↓blockQ_ret, ↓blockQ_exit, ↓retQ_ret, ↓retQ_normal, ↓callQ_eq, ↓loopQ_normal, ↓loopQ_ret, ↓loopQ_exit, ↓upd_same, upd_at, sel_t, sel_f, initE_at, obj_upd_same, obj_upd_ne, obj_new_same, obj_updnew_same, obj_updnew_same2, obj_new2_same, obj_new3_same, obj_newupd_same, obj_new_ne, obj_new_ne2, obj_new_ne3, obj_new_ne4, next_upd, next_new, add_plain, cop, bin, binInt, un, shiftInt, flat, read_cells, src_ro, src_fix, src_grow, get_cells, List.getElem?_cons_zero, List.getElem?_cons_succ, write_fix, write_grow, setAt, bound, eqK, elemOk_ro, elemOk_fix, elemOk_grow, stiff_ro, stiff_fix, goInt, resultsV, resV, resL, finQ_some, Option.map_some, Option.map_none, Option.bind_some, Option.bind_none, List.map_cons, List.map_nil, List.getD_cons_zero, List.getD_cons_succ, List.getD_nil, Nat.reduceEqDiff, Nat.reduceAdd, Nat.reduceMul, Nat.reduceSub, Nat.reduceLT, Nat.reduceLeDiff, Nat.reduceBEq, if_true, if_false, ite_true, ite_false, List.length_cons, List.length_nil, Nat.zero_add, Nat.add_zero, List.drop_zero, List.drop_succ_cons, List.take_succ_cons, List.take_zero, List.set_cons_zero, List.set_cons_succ, Int.reduceLT, Int.reduceLE, Bool.not_true, Bool.not_false, Option.isNone_some, Option.isNone_none, decide_true, decide_false, beq_self_eq_true, Bool.false_eq_true, Bool.true_eq_false, if_pos, if_neg, reduceCtorEq, beq_iff_eq, BEq.rfl, wrap_i64, wrap_i32, wrap_i8, wrap_u8, wrap_u32, wrap_u64, Nat.mul_one, Int.toNat_natCast, ints_len, List.length_map, List.length_set, beq_ft, beq_tf, List.all_cons, List.all_nil, scalar, Bool.and_self, Bool.true_and, Bool.and_true, List.size_toArray, List.getElem?_toArray, binStr, fillIn, true_and, and_true, true_or, or_true, bne_self_eq_false, Int.reduceToNat, Int.reduceAdd, Int.reduceSub, Int.reduceMul]
  · have a1 : decide (((n % c : Nat) : Int) > 0) = true := decide_eq_true (by omega)
    have e : ((ceilN n c : Nat) : Int) = ((n / c : Nat) : Int) + 1 := by unfold ceilN; rw [if_neg h0]; omega
    rw [e]
    simp (disch := omega) only [c42, ↓c42_r0_run, ↓c42_r1_c1_run, ↓c42_r1_run, ↓c42_r2_run, ↓c42_r3_run, ↓c42_r4_run, ↓c42_r5_run, ↓c42_r6_run, f, a1, a2, ↓RunC_seq, ↓RunC_skip, ↓RunC_ret, ↓RunC_exit, ↓RunC_region, ↓RunC_condQ, condQ_true, condQ_false, ↓RunC_block, ↓RunR_done, ↓RunR_op, ↓RunR_opg, ↓RunR_snap, ↓RunR_chk, Holds, Option.getD_none, Option.getD_some, guardR_true, guardR_false, wantV_bool, wantV_none, callvQ_eq, afterR_some, ↓seqQ_normal, ↓seqQ_ret, ↓seqQ_exit, ↓blockQ_normal, ↓blockQ_ret, ↓blockQ_exit, ↓retQ_ret, ↓retQ_normal, ↓callQ_eq, ↓loopQ_normal, ↓loopQ_ret, ↓loopQ_exit, ↓upd_same, upd_at, sel_t, sel_f, initE_at, obj_upd_same, obj_upd_ne, obj_new_same, obj_updnew_same, obj_updnew_same2, obj_new2_same, obj_new3_same, obj_newupd_same, obj_new_ne, obj_new_ne2, obj_new_ne3, obj_new_ne4, next_upd, next_new, add_plain, cop, bin, binInt, un, shiftInt, flat, read_cells, src_ro, src_fix, src_grow, get_cells, List.getElem?_cons_zero, List.getElem?_cons_succ, write_fix, write_grow, setAt, bound, eqK, elemOk_ro, elemOk_fix, elemOk_grow, stiff_ro, stiff_fix, goInt, resultsV, resV, resL, finQ_some, Option.map_some, Option.map_none, Option.bind_some, Option.bind_none, List.map_cons, List.map_nil, List.getD_cons_zero, List.getD_cons_succ, List.getD_nil, Nat.reduceEqDiff, Nat.reduceAdd, Nat.reduceMul, Nat.reduceSub, Nat.reduceLT, Nat.reduceLeDiff, Nat.reduceBEq, if_true, if_false, ite_true, ite_false, List.length_cons, List.length_nil, Nat.zero_add, Nat.add_zero, List.drop_zero, List.drop_succ_cons, List.take_succ_cons, List.take_zero, List.set_cons_zero, List.set_cons_succ, Int.reduceLT, Int.reduceLE, Bool.not_true, Bool.not_false, Option.isNone_some, Option.isNone_none, decide_true, decide_false, beq_self_eq_true, Bool.false_eq_true, Bool.true_eq_false, if_pos, if_neg, reduceCtorEq, beq_iff_eq, BEq.rfl, wrap_i64, wrap_i32, wrap_i8, wrap_u8, wrap_u32, wrap_u64, Nat.mul_one, Int.toNat_natCast, ints_len, List.length_map, List.length_set, beq_ft, beq_tf, List.all_cons, List.all_nil, scalar, Bool.and_self, Bool.true_and, Bool.and_true, List.size_toArray, List.getElem?_toArray, binStr, fillIn, true_and, and_true, true_or, or_true, bne_self_eq_false, Int.reduceToNat, Int.reduceAdd, Int.reduceSub, Int.reduceMul]
/-- What stays as it is of a ring. -/
structure RP where
  x : Nat
  sb : Nat
  tb : Nat
  ps : Nat → Nat
  nbs : Nat → Nat
  rv : Value
  rb : Nat
  rows : List RowT
  N : Nat
  w : Nat
  W : Int
  L : Int
  part : Bool
abbrev ringC (r : RP) (now : Int) : List Value := [.slice (some ⟨r.sb, 0, none⟩) r.N r.N, .slice (some ⟨r.tb, 0, none⟩) r.N r.N, .int .i64 r.W, .int .i64 r.rows.length, .int .i64 r.L, .bool r.part, .int .i64 now]
structure RingAt (h : Heap) (r : RP) (now : Int) (st : List Int) (cs : Nat → List Int) : Prop where
  ox : h.obj r.x = .cells (ringC r now) 56 .fix
  lx : r.x < h.next
  os : h.obj r.sb = .cells ((List.range r.N).map fun i => Value.pointer (some ⟨r.ps i, 0, none⟩)) 57 .grow
  ls : r.sb < h.next
  ot : h.obj r.tb = .cells (ints .i64 st) 2 .grow
  lt : r.tb < h.next
  len : st.length = r.N
  s64 : ∀ s ∈ st, I64 s
  hN : 2 ≤ r.N ∧ r.N ≤ 65
  hW : 1 ≤ r.W ∧ r.W ≤ 1099511627776
  hL : I64 r.L
  sl : ∀ i, i < r.N → SlotAt h (r.ps i) (r.nbs i) r.rv r.rb r.rows r.w (cs i)
  nn : ∀ i j, i < r.N → j < r.N → i ≠ j → r.nbs i ≠ r.nbs j
  pn : ∀ i j, i < r.N → j < r.N → r.ps i ≠ r.nbs j
  xn : ∀ i, i < r.N → r.x ≠ r.nbs i ∧ r.sb ≠ r.nbs i ∧ r.tb ≠ r.nbs i
  px : ∀ i, i < r.N → r.ps i ≠ r.x ∧ r.ps i ≠ r.tb
  xx : r.x ≠ r.sb ∧ r.x ≠ r.tb ∧ r.sb ≠ r.tb
  rx : r.rb ≠ r.x ∧ r.rb ≠ r.tb
section
variable {h h' : Heap} {r : RP} {now : Int} {st : List Int} {cs : Nat → List Int}
theorem RingAt.old (R : RingAt h r now st cs) (o : Old h h') : RingAt h' r now st cs where
  ox := (o.obj _ R.lx).trans R.ox
  lx := Nat.lt_of_lt_of_le R.lx o.next
  os := (o.obj _ R.ls).trans R.os
  ls := Nat.lt_of_lt_of_le R.ls o.next
  ot := (o.obj _ R.lt).trans R.ot
  lt := Nat.lt_of_lt_of_le R.lt o.next
  len := R.len
  s64 := R.s64
  hN := R.hN
  hW := R.hW
  hL := R.hL
  sl := fun i hi => (R.sl i hi).old o
  nn := R.nn
  pn := R.pn
  xn := R.xn
  px := R.px
  xx := R.xx
  rx := R.rx
theorem number_ok (R : RingAt h r now st cs) (t : Int) (ht : 0 ≤ t ∧ t ≤ 9223372036854775807) (Q : Value → Heap → Prop) : CALL cp 14 [.pointer (some ⟨r.x, 0, none⟩), .int .i64 t] h Q ↔ Q (.int .i64 (t / r.W)) h := by
  refine CALL_det ?_ Q
  rw [CALL_enter cp cp14]
  have ox := R.ox
  have hW := R.hW
  have n0 : (r.W = 0) = False := by simp; omega
  have t1 : Int.tdiv t r.W = t / r.W := tdiv_nn t r.W ht.1
  have q0 : 0 ≤ t / r.W := Int.ediv_nonneg ht.1 (by omega)
  have q1 : t / r.W ≤ t := Int.ediv_le_self r.W ht.1
  simp (disch := omega) only [c14, ↓c14_r0_run, ↓c14_r1_run, ↓c14_r2_run, ↓c14_r3_run, ox, eqS, n0, t1, ↓RunC_seq, ↓RunC_skip, ↓RunC_ret, ↓RunC_exit, ↓RunC_region, ↓RunC_condQ, condQ_true, condQ_false, ↓RunC_block, ↓RunR_done, ↓RunR_op, ↓RunR_opg, ↓RunR_snap, ↓RunR_chk, Holds, Option.getD_none, Option.getD_some, guardR_true, guardR_false, wantV_bool, wantV_none, callvQ_eq, afterR_some, ↓seqQ_normal, ↓seqQ_ret, ↓seqQ_exit, ↓blockQ_normal, ↓blockQ_ret, ↓blockQ_exit, ↓retQ_ret, ↓retQ_normal, ↓callQ_eq, ↓loopQ_normal, ↓loopQ_ret, ↓loopQ_exit, ↓upd_same, upd_at, sel_t, sel_f, initE_at, obj_upd_same, obj_upd_ne, obj_new_same, obj_updnew_same, obj_updnew_same2, obj_new2_same, obj_new3_same, obj_newupd_same, obj_new_ne, obj_new_ne2, obj_new_ne3, obj_new_ne4, next_upd, next_new, add_plain, cop, bin, binInt, un, shiftInt, flat, read_cells, src_ro, src_fix, src_grow, get_cells, List.getElem?_cons_zero, List.getElem?_cons_succ, write_fix, write_grow, setAt, bound, eqK, elemOk_ro, elemOk_fix, elemOk_grow, stiff_ro, stiff_fix, goInt, resultsV, resV, resL, finQ_some, Option.map_some, Option.map_none, Option.bind_some, Option.bind_none, List.map_cons, List.map_nil, List.getD_cons_zero, List.getD_cons_succ, List.getD_nil, Nat.reduceEqDiff, Nat.reduceAdd, Nat.reduceMul, Nat.reduceSub, Nat.reduceLT, Nat.reduceLeDiff, Nat.reduceBEq, if_true, if_false, ite_true, ite_false, List.length_cons, List.length_nil, Nat.zero_add, Nat.add_zero, List.drop_zero, List.drop_succ_cons, List.take_succ_cons, List.take_zero, List.set_cons_zero, List.set_cons_succ, Int.reduceLT, Int.reduceLE, Bool.not_true, Bool.not_false, Option.isNone_some, Option.isNone_none, decide_true, decide_false, beq_self_eq_true, Bool.false_eq_true, Bool.true_eq_false, if_pos, if_neg, reduceCtorEq, beq_iff_eq, BEq.rfl, wrap_i64, wrap_i32, wrap_i8, wrap_u8, wrap_u32, wrap_u64, Nat.mul_one, Int.toNat_natCast, ints_len, List.length_map, List.length_set, beq_ft, beq_tf, List.all_cons, List.all_nil, scalar, Bool.and_self, Bool.true_and, Bool.and_true, List.size_toArray, List.getElem?_toArray, binStr, fillIn, true_and, and_true, true_or, or_true, bne_self_eq_false, Int.reduceToNat, Int.reduceAdd, Int.reduceSub, Int.reduceMul]
/-- A number's place. -/
def pl (r : RP) (n : Int) : Nat := (n % r.N).toNat
def alive (r : RP) (st : List Int) (n : Int) : Prop := 0 ≤ n ∧ ctr st (pl r n) = n + 1
instance (r : RP) (st : List Int) (n : Int) : Decidable (alive r st n) := by unfold alive; infer_instance
theorem pl_lt (R : RingAt h r now st cs) (n : Int) : pl r n < r.N := by
  have := R.hN
  have h1 := Int.emod_lt_of_pos n (show (0 : Int) < r.N by omega)
  have h2 := Int.emod_nonneg n (show (r.N : Int) ≠ 0 by omega)
  unfold pl; omega
theorem pl_int (R : RingAt h r now st cs) (n : Int) : n % (r.N : Int) = ((pl r n : Nat) : Int) := by
  have := R.hN
  have h2 := Int.emod_nonneg n (show (r.N : Int) ≠ 0 by omega)
  unfold pl; omega
theorem RingAt.stamp (R : RingAt h r now st cs) {i : Nat} (hi : i < r.N) : st[i]? = some (ctr st i) ∧ I64 (ctr st i) := by
  have h1 : st[i]? = some (st[i]'(by rw [R.len]; exact hi)) := List.getElem?_eq_getElem _
  unfold ctr
  rw [h1]
  exact ⟨rfl, R.s64 _ (List.mem_of_getElem? h1)⟩
theorem RingAt.ptr (R : RingAt h r now st cs) {i : Nat} (hi : i < r.N) : ((List.range r.N).map fun i => Value.pointer (some ⟨r.ps i, 0, none⟩))[i]? = some (.pointer (some ⟨r.ps i, 0, none⟩)) := by
  rw [List.getElem?_map, List.getElem?_range hi]; rfl
theorem of_ok (R : RingAt h r now st cs) (n : Int) (hn : -1000 ≤ n ∧ n ≤ 9223372036854774000) (Q : Value → Heap → Prop) :
    CALL cp 32 [.pointer (some ⟨r.x, 0, none⟩), .int .i64 n] h Q ↔ Q (if alive r st n then .pointer (some ⟨r.ps (pl r n), 0, none⟩) else .pointer none) h := by
  refine CALL_det ?_ Q
  rw [CALL_enter cp cp32]
  have ox := R.ox
  have os := R.os
  have ot := R.ot
  have hN := R.hN
  by_cases c : n < 0
  · have a1 := decide_eq_true c
    rw [if_neg (fun h => by have := h.1; omega)]
    simp (disch := omega) only [c32, ↓c32_r0_run, ↓c32_r1_run, ↓c32_r2_run, ↓c32_r3_run, ↓c32_r4_run, ↓c32_r5_run, ↓c32_r6_run, a1, ↓RunC_seq, ↓RunC_skip, ↓RunC_ret, ↓RunC_exit, ↓RunC_region, ↓RunC_condQ, condQ_true, condQ_false, ↓RunC_block, ↓RunR_done, ↓RunR_op, ↓RunR_opg, ↓RunR_snap, ↓RunR_chk, Holds, Option.getD_none, Option.getD_some, guardR_true, guardR_false, wantV_bool, wantV_none, callvQ_eq, afterR_some, ↓seqQ_normal, ↓seqQ_ret, ↓seqQ_exit, ↓blockQ_normal, ↓blockQ_ret, ↓blockQ_exit, ↓retQ_ret, ↓retQ_normal, ↓callQ_eq, ↓loopQ_normal, ↓loopQ_ret, ↓loopQ_exit, ↓upd_same, upd_at, sel_t, sel_f, initE_at, obj_upd_same, obj_upd_ne, obj_new_same, obj_updnew_same, obj_updnew_same2, obj_new2_same, obj_new3_same, obj_newupd_same, obj_new_ne, obj_new_ne2, obj_new_ne3, obj_new_ne4, next_upd, next_new, add_plain, cop, bin, binInt, un, shiftInt, flat, read_cells, src_ro, src_fix, src_grow, get_cells, List.getElem?_cons_zero, List.getElem?_cons_succ, write_fix, write_grow, setAt, bound, eqK, elemOk_ro, elemOk_fix, elemOk_grow, stiff_ro, stiff_fix, goInt, resultsV, resV, resL, finQ_some, Option.map_some, Option.map_none, Option.bind_some, Option.bind_none, List.map_cons, List.map_nil, List.getD_cons_zero, List.getD_cons_succ, List.getD_nil, Nat.reduceEqDiff, Nat.reduceAdd, Nat.reduceMul, Nat.reduceSub, Nat.reduceLT, Nat.reduceLeDiff, Nat.reduceBEq, if_true, if_false, ite_true, ite_false, List.length_cons, List.length_nil, Nat.zero_add, Nat.add_zero, List.drop_zero, List.drop_succ_cons, List.take_succ_cons, List.take_zero, List.set_cons_zero, List.set_cons_succ, Int.reduceLT, Int.reduceLE, Bool.not_true, Bool.not_false, Option.isNone_some, Option.isNone_none, decide_true, decide_false, beq_self_eq_true, Bool.false_eq_true, Bool.true_eq_false, if_pos, if_neg, reduceCtorEq, beq_iff_eq, BEq.rfl, wrap_i64, wrap_i32, wrap_i8, wrap_u8, wrap_u32, wrap_u64, Nat.mul_one, Int.toNat_natCast, ints_len, List.length_map, List.length_set, beq_ft, beq_tf, List.all_cons, List.all_nil, scalar, Bool.and_self, Bool.true_and, Bool.and_true, List.size_toArray, List.getElem?_toArray, binStr, fillIn, true_and, and_true, true_or, or_true, bne_self_eq_false, Int.reduceToNat, Int.reduceAdd, Int.reduceSub, Int.reduceMul]
  have a1 := decide_eq_false c
  have n0 : ((r.N : Int) = 0) = False := by simp; omega
  have t1 : Int.tmod n (r.N : Int) = ((pl r n : Nat) : Int) := by rw [tmod_nn _ _ (by omega)]; exact pl_int R n
  have hp := pl_lt R n
  obtain ⟨hs, _⟩ := R.stamp hp
  have hs := ints_get .i64 _ hs
  have hq := R.ptr hp
  by_cases c2 : ctr st (pl r n) = n + 1
  · have a2 : (ctr st (pl r n) != n + 1) = false := by rw [c2]; exact bne_self_eq_false _
    rw [if_pos ⟨by omega, c2⟩]
    simp (disch := omega) only [c32, ↓c32_r0_run, ↓c32_r1_run, ↓c32_r2_run, ↓c32_r3_run, ↓c32_r4_run, ↓c32_r5_run, ↓c32_r6_run, a1, ox, os, ot, n0, t1, hs, hq, a2, ↓RunC_seq, ↓RunC_skip, ↓RunC_ret, ↓RunC_exit, ↓RunC_region, ↓RunC_condQ, condQ_true, condQ_false, ↓RunC_block, ↓RunR_done, ↓RunR_op, ↓RunR_opg, ↓RunR_snap, ↓RunR_chk, Holds, Option.getD_none, Option.getD_some, guardR_true, guardR_false, wantV_bool, wantV_none, callvQ_eq, afterR_some, ↓seqQ_normal, ↓seqQ_ret, ↓seqQ_exit, ↓blockQ_normal, ↓blockQ_ret, ↓blockQ_exit, ↓retQ_ret, ↓retQ_normal, ↓callQ_eq, ↓loopQ_normal, ↓loopQ_ret, ↓loopQ_exit, ↓upd_same, upd_at, sel_t, sel_f, initE_at, obj_upd_same, obj_upd_ne, obj_new_same, obj_updnew_same, obj_updnew_same2, obj_new2_same, obj_new3_same, obj_newupd_same, obj_new_ne, obj_new_ne2, obj_new_ne3, obj_new_ne4, next_upd, next_new, add_plain, cop, bin, binInt, un, shiftInt, flat, read_cells, src_ro, src_fix, src_grow, get_cells, List.getElem?_cons_zero, List.getElem?_cons_succ, write_fix, write_grow, setAt, bound, eqK, elemOk_ro, elemOk_fix, elemOk_grow, stiff_ro, stiff_fix, goInt, resultsV, resV, resL, finQ_some, Option.map_some, Option.map_none, Option.bind_some, Option.bind_none, List.map_cons, List.map_nil, List.getD_cons_zero, List.getD_cons_succ, List.getD_nil, Nat.reduceEqDiff, Nat.reduceAdd, Nat.reduceMul, Nat.reduceSub, Nat.reduceLT, Nat.reduceLeDiff, Nat.reduceBEq, if_true, if_false, ite_true, ite_false, List.length_cons, List.length_nil, Nat.zero_add, Nat.add_zero, List.drop_zero, List.drop_succ_cons, List.take_succ_cons, List.take_zero, List.set_cons_zero, List.set_cons_succ, Int.reduceLT, Int.reduceLE, Bool.not_true, Bool.not_false, Option.isNone_some, Option.isNone_none, decide_true, decide_false, beq_self_eq_true, Bool.false_eq_true, Bool.true_eq_false, if_pos, if_neg, reduceCtorEq, beq_iff_eq, BEq.rfl, wrap_i64, wrap_i32, wrap_i8, wrap_u8, wrap_u32, wrap_u64, Nat.mul_one, Int.toNat_natCast, ints_len, List.length_map, List.length_set, beq_ft, beq_tf, List.all_cons, List.all_nil, scalar, Bool.and_self, Bool.true_and, Bool.and_true, List.size_toArray, List.getElem?_toArray, binStr, fillIn, true_and, and_true, true_or, or_true, bne_self_eq_false, Int.reduceToNat, Int.reduceAdd, Int.reduceSub, Int.reduceMul]
  · have a2 : (ctr st (pl r n) != n + 1) = true := by rw [bne_iff_ne]; exact c2
    rw [if_neg (fun h => c2 h.2)]
    simp (disch := omega) only [c32, ↓c32_r0_run, ↓c32_r1_run, ↓c32_r2_run, ↓c32_r3_run, ↓c32_r4_run, ↓c32_r5_run, ↓c32_r6_run, a1, ox, os, ot, n0, t1, hs, hq, a2, ↓RunC_seq, ↓RunC_skip, ↓RunC_ret, ↓RunC_exit, ↓RunC_region, ↓RunC_condQ, condQ_true, condQ_false, ↓RunC_block, ↓RunR_done, ↓RunR_op, ↓RunR_opg, ↓RunR_snap, ↓RunR_chk, Holds, Option.getD_none, Option.getD_some, guardR_true, guardR_false, wantV_bool, wantV_none, callvQ_eq, afterR_some, ↓seqQ_normal, ↓seqQ_ret, ↓seqQ_exit, ↓blockQ_normal, ↓blockQ_ret, ↓blockQ_exit, ↓retQ_ret, ↓retQ_normal, ↓callQ_eq, ↓loopQ_normal, ↓loopQ_ret, ↓loopQ_exit, ↓upd_same, upd_at, sel_t, sel_f, initE_at, obj_upd_same, obj_upd_ne, obj_new_same, obj_updnew_same, obj_updnew_same2, obj_new2_same, obj_new3_same, obj_newupd_same, obj_new_ne, obj_new_ne2, obj_new_ne3, obj_new_ne4, next_upd, next_new, add_plain, cop, bin, binInt, un, shiftInt, flat, read_cells, src_ro, src_fix, src_grow, get_cells, List.getElem?_cons_zero, List.getElem?_cons_succ, write_fix, write_grow, setAt, bound, eqK, elemOk_ro, elemOk_fix, elemOk_grow, stiff_ro, stiff_fix, goInt, resultsV, resV, resL, finQ_some, Option.map_some, Option.map_none, Option.bind_some, Option.bind_none, List.map_cons, List.map_nil, List.getD_cons_zero, List.getD_cons_succ, List.getD_nil, Nat.reduceEqDiff, Nat.reduceAdd, Nat.reduceMul, Nat.reduceSub, Nat.reduceLT, Nat.reduceLeDiff, Nat.reduceBEq, if_true, if_false, ite_true, ite_false, List.length_cons, List.length_nil, Nat.zero_add, Nat.add_zero, List.drop_zero, List.drop_succ_cons, List.take_succ_cons, List.take_zero, List.set_cons_zero, List.set_cons_succ, Int.reduceLT, Int.reduceLE, Bool.not_true, Bool.not_false, Option.isNone_some, Option.isNone_none, decide_true, decide_false, beq_self_eq_true, Bool.false_eq_true, Bool.true_eq_false, if_pos, if_neg, reduceCtorEq, beq_iff_eq, BEq.rfl, wrap_i64, wrap_i32, wrap_i8, wrap_u8, wrap_u32, wrap_u64, Nat.mul_one, Int.toNat_natCast, ints_len, List.length_map, List.length_set, beq_ft, beq_tf, List.all_cons, List.all_nil, scalar, Bool.and_self, Bool.true_and, Bool.and_true, List.size_toArray, List.getElem?_toArray, binStr, fillIn, true_and, and_true, true_or, or_true, bne_self_eq_false, Int.reduceToNat, Int.reduceAdd, Int.reduceSub, Int.reduceMul]
theorem RingAt.setNow (R : RingAt h r now st cs) (t : Int) : RingAt (h.upd r.x (.cells (ringC r t) 56 .fix)) r t st cs := by
  have o : OldX r.x h (h.upd r.x (.cells (ringC r t) 56 .fix)) := ⟨Nat.le_refl _, fun b _ hb => obj_upd_ne _ _ hb⟩
  exact { R with
    ox := obj_upd_same _ _ _
    os := (o.obj _ R.ls (Ne.symm R.xx.1)).trans R.os
    ot := (o.obj _ R.lt (Ne.symm R.xx.2.1)).trans R.ot
    lx := R.lx, ls := R.ls, lt := R.lt
    sl := fun i hi => (R.sl i hi).oldx o (R.px i hi).1 (Ne.symm (R.xn i hi).1) R.rx.1 }
theorem to_ok (R : RingAt h r now st cs) (t : Int) {Q : Value → Heap → Prop} (hQ : ∀ h', OldX r.x h h' → RingAt h' r (max now t) st cs → Q (.tuple #[]) h') :
    CALL cp 18 [.pointer (some ⟨r.x, 0, none⟩), .int .i64 t] h Q := by
  rw [CALL_enter cp cp18]
  have ox := R.ox
  simp (disch := omega) only [c18, ↓c18_r0_run, ↓c18_r1_run, ox, eqS, ↓mm_max, ↓RunC_seq, ↓RunC_skip, ↓RunC_ret, ↓RunC_exit, ↓RunC_region, ↓RunC_condQ, condQ_true, condQ_false, ↓RunC_block, ↓RunR_done, ↓RunR_op, ↓RunR_opg, ↓RunR_snap, ↓RunR_chk, Holds, Option.getD_none, Option.getD_some, guardR_true, guardR_false, wantV_bool, wantV_none, callvQ_eq, afterR_some, ↓seqQ_normal, ↓seqQ_ret, ↓seqQ_exit, ↓blockQ_normal, ↓blockQ_ret, ↓blockQ_exit, ↓retQ_ret, ↓retQ_normal, ↓callQ_eq, ↓loopQ_normal, ↓loopQ_ret, ↓loopQ_exit, ↓upd_same, upd_at, sel_t, sel_f, initE_at, obj_upd_same, obj_upd_ne, obj_new_same, obj_updnew_same, obj_updnew_same2, obj_new2_same, obj_new3_same, obj_newupd_same, obj_new_ne, obj_new_ne2, obj_new_ne3, obj_new_ne4, next_upd, next_new, add_plain, cop, bin, binInt, un, shiftInt, flat, read_cells, src_ro, src_fix, src_grow, get_cells, List.getElem?_cons_zero, List.getElem?_cons_succ, write_fix, write_grow, setAt, bound, eqK, elemOk_ro, elemOk_fix, elemOk_grow, stiff_ro, stiff_fix, goInt, resultsV, resV, resL, finQ_some, Option.map_some, Option.map_none, Option.bind_some, Option.bind_none, List.map_cons, List.map_nil, List.getD_cons_zero, List.getD_cons_succ, List.getD_nil, Nat.reduceEqDiff, Nat.reduceAdd, Nat.reduceMul, Nat.reduceSub, Nat.reduceLT, Nat.reduceLeDiff, Nat.reduceBEq, if_true, if_false, ite_true, ite_false, List.length_cons, List.length_nil, Nat.zero_add, Nat.add_zero, List.drop_zero, List.drop_succ_cons, List.take_succ_cons, List.take_zero, List.set_cons_zero, List.set_cons_succ, Int.reduceLT, Int.reduceLE, Bool.not_true, Bool.not_false, Option.isNone_some, Option.isNone_none, decide_true, decide_false, beq_self_eq_true, Bool.false_eq_true, Bool.true_eq_false, if_pos, if_neg, reduceCtorEq, beq_iff_eq, BEq.rfl, wrap_i64, wrap_i32, wrap_i8, wrap_u8, wrap_u32, wrap_u64, Nat.mul_one, Int.toNat_natCast, ints_len, List.length_map, List.length_set, beq_ft, beq_tf, List.all_cons, List.all_nil, scalar, Bool.and_self, Bool.true_and, Bool.and_true, List.size_toArray, List.getElem?_toArray, binStr, fillIn, true_and, and_true, true_or, or_true, bne_self_eq_false, Int.reduceToNat, Int.reduceAdd, Int.reduceSub, Int.reduceMul]
  exact hQ _ ⟨Nat.le_refl _, fun b _ hb => obj_upd_ne _ _ hb⟩ (R.setNow _)
def putC (cs : Nat → List Int) (i : Nat) (c : List Int) : Nat → List Int := fun j => if j = i then c else cs j
/-- What is not the ring's to change is as it was. -/
structure OldR (r : RP) (h h' : Heap) : Prop where
  next : h.next ≤ h'.next
  obj : ∀ b, b < h.next → b ≠ r.x → b ≠ r.tb → (∀ i, i < r.N → b ≠ r.nbs i) → h'.obj b = h.obj b
theorem OldR.trans {a b c : Heap} (h : OldR r a b) (k : OldR r b c) : OldR r a c := ⟨Nat.le_trans h.next k.next, fun x hx h1 h2 h3 => by rw [k.obj x (Nat.lt_of_lt_of_le hx h.next) h1 h2 h3, h.obj x hx h1 h2 h3]⟩
theorem Old.ring {a b : Heap} (o : Old a b) (r : RP) : OldR r a b := ⟨o.next, fun x hx _ _ _ => o.obj x hx⟩
theorem OldX.ringX {a b : Heap} (o : OldX r.x a b) : OldR r a b := ⟨o.next, fun x hx h1 _ _ => o.obj x hx h1⟩
theorem OldX.ringT {a b : Heap} (o : OldX r.tb a b) : OldR r a b := ⟨o.next, fun x hx _ h2 _ => o.obj x hx h2⟩
theorem OldX.ringN {a b : Heap} {i : Nat} (hi : i < r.N) (o : OldX (r.nbs i) a b) : OldR r a b := ⟨o.next, fun x hx _ _ h3 => o.obj x hx (h3 i hi)⟩
theorem RingAt.setSlot (R : RingAt h r now st cs) {i : Nat} (hi : i < r.N) (o : OldX (r.nbs i) h h') {c : List Int} (S : SlotAt h' (r.ps i) (r.nbs i) r.rv r.rb r.rows r.w c) : RingAt h' r now st (putC cs i c) where
  ox := (o.obj _ R.lx (R.xn i hi).1).trans R.ox
  lx := Nat.lt_of_lt_of_le R.lx o.next
  os := (o.obj _ R.ls (R.xn i hi).2.1).trans R.os
  ls := Nat.lt_of_lt_of_le R.ls o.next
  ot := (o.obj _ R.lt (R.xn i hi).2.2).trans R.ot
  lt := Nat.lt_of_lt_of_le R.lt o.next
  len := R.len
  s64 := R.s64
  hN := R.hN
  hW := R.hW
  hL := R.hL
  sl := fun j hj => by
    unfold putC
    by_cases e : j = i
    · subst e; rw [if_pos rfl]; exact S
    · rw [if_neg e]; exact (R.sl j hj).oldx o (R.pn j i hj hi) (R.nn j i hj hi e) (R.sl i hi).rn
  nn := R.nn
  pn := R.pn
  xn := R.xn
  px := R.px
  xx := R.xx
  rx := R.rx
theorem RingAt.setStamp (R : RingAt h r now st cs) (i : Nat) (v : Int) (hv : I64 v) : RingAt (h.upd r.tb (.cells (ints .i64 (st.set i v)) 2 .grow)) r now (st.set i v) cs := by
  have o : OldX r.tb h (h.upd r.tb (.cells (ints .i64 (st.set i v)) 2 .grow)) := ⟨Nat.le_refl _, fun b _ hb => obj_upd_ne _ _ hb⟩
  exact { R with
    ox := (o.obj _ R.lx R.xx.2.1).trans R.ox
    os := (o.obj _ R.ls R.xx.2.2).trans R.os
    ot := obj_upd_same _ _ _
    lx := R.lx, ls := R.ls, lt := R.lt
    len := by rw [List.length_set]; exact R.len
    s64 := set64 R.s64 hv
    sl := fun j hj => (R.sl j hj).oldx o (R.px j hj).2 (Ne.symm (R.xn j hj).2.2) R.rx.2 }
/-- The counters that a note finds. -/
def baseC (r : RP) (st : List Int) (cs : Nat → List Int) (n : Int) : List Int := if ctr st (pl r n) = n + 1 then cs (pl r n) else List.replicate (r.rows.length * r.w) 0
theorem radd_ok (R : RingAt h r now st cs) (hnow : 0 ≤ now ∧ now ≤ 9223372036854770000) (key : ByteArray) (hs : key.size ≤ 140737488355328) (cost : Int) (hc : I64 cost) {Q : Value → Heap → Prop}
    (hQ : ∀ h', OldR r h h' → RingAt h' r now (st.set (pl r (now / r.W)) (now / r.W + 1)) (putC cs (pl r (now / r.W)) (addC (baseC r st cs (now / r.W)) (ix r.rows r.w key) r.rows.length cost)) → Q (.tuple #[]) h') :
    CALL cp 19 [.pointer (some ⟨r.x, 0, none⟩), .string key, .int .i64 cost] h Q := by
  rw [CALL_enter cp cp19]
  have ox := R.ox
  have os := R.os
  have ot := R.ot
  have hN := R.hN
  have hW := R.hW
  have fn := fun Q => number_ok R now (by omega) Q
  obtain ⟨n, hn⟩ : ∃ n, n = now / r.W := ⟨_, rfl⟩
  have q0 : 0 ≤ n := by rw [hn]; exact Int.ediv_nonneg hnow.1 (by omega)
  have q1 : n ≤ now := by rw [hn]; exact Int.ediv_le_self r.W hnow.1
  rw [← hn] at fn hQ
  have n0 : ((r.N : Int) = 0) = False := by simp; omega
  have t1 : Int.tmod n (r.N : Int) = ((pl r n : Nat) : Int) := by rw [tmod_nn _ _ q0]; exact pl_int R n
  have hp := pl_lt R n
  obtain ⟨hst, _⟩ := R.stamp hp
  have hsl := List.getElem?_eq_some_iff.1 hst
  have hst := ints_get .i64 _ hst
  have hq := R.ptr hp
  have len := R.len
  unfold baseC at hQ
  by_cases c : ctr st (pl r n) = n + 1
  · have a2 : (ctr st (pl r n) != n + 1) = false := by rw [c]; exact bne_self_eq_false _
    rw [if_pos c] at hQ
    have hset : st.set (pl r n) (n + 1) = st := by
      obtain ⟨hl, hv⟩ := hsl
      rw [c] at hv
      rw [← hv]; exact List.set_getElem_self hl
    rw [hset] at hQ
    simp (disch := omega) only [c19, ↓c19_r0_run, ↓c19_r1_run, ↓c19_r2_run, ↓c19_r3_run, ↓c19_r4_run, ↓c19_r5_run, ↓c19_r6_run, ox, os, ot, eqS, fn, n0, t1, hst, hq, a2, ↓RunC_seq, ↓RunC_skip, ↓RunC_ret, ↓RunC_exit, ↓RunC_region, ↓RunC_condQ, condQ_true, condQ_false, ↓RunC_block, ↓RunR_done, ↓RunR_op, ↓RunR_opg, ↓RunR_snap, ↓RunR_chk, Holds, Option.getD_none, Option.getD_some, guardR_true, guardR_false, wantV_bool, wantV_none, callvQ_eq, afterR_some, ↓seqQ_normal, ↓seqQ_ret, ↓seqQ_exit, ↓blockQ_normal, ↓blockQ_ret, ↓blockQ_exit, ↓retQ_ret, ↓retQ_normal, ↓callQ_eq, ↓loopQ_normal, ↓loopQ_ret, ↓loopQ_exit, ↓upd_same, upd_at, sel_t, sel_f, initE_at, obj_upd_same, obj_upd_ne, obj_new_same, obj_updnew_same, obj_updnew_same2, obj_new2_same, obj_new3_same, obj_newupd_same, obj_new_ne, obj_new_ne2, obj_new_ne3, obj_new_ne4, next_upd, next_new, add_plain, cop, bin, binInt, un, shiftInt, flat, read_cells, src_ro, src_fix, src_grow, get_cells, List.getElem?_cons_zero, List.getElem?_cons_succ, write_fix, write_grow, setAt, bound, eqK, elemOk_ro, elemOk_fix, elemOk_grow, stiff_ro, stiff_fix, goInt, resultsV, resV, resL, finQ_some, Option.map_some, Option.map_none, Option.bind_some, Option.bind_none, List.map_cons, List.map_nil, List.getD_cons_zero, List.getD_cons_succ, List.getD_nil, Nat.reduceEqDiff, Nat.reduceAdd, Nat.reduceMul, Nat.reduceSub, Nat.reduceLT, Nat.reduceLeDiff, Nat.reduceBEq, if_true, if_false, ite_true, ite_false, List.length_cons, List.length_nil, Nat.zero_add, Nat.add_zero, List.drop_zero, List.drop_succ_cons, List.take_succ_cons, List.take_zero, List.set_cons_zero, List.set_cons_succ, Int.reduceLT, Int.reduceLE, Bool.not_true, Bool.not_false, Option.isNone_some, Option.isNone_none, decide_true, decide_false, beq_self_eq_true, Bool.false_eq_true, Bool.true_eq_false, if_pos, if_neg, reduceCtorEq, beq_iff_eq, BEq.rfl, wrap_i64, wrap_i32, wrap_i8, wrap_u8, wrap_u32, wrap_u64, Nat.mul_one, Int.toNat_natCast, ints_len, List.length_map, List.length_set, beq_ft, beq_tf, List.all_cons, List.all_nil, scalar, Bool.and_self, Bool.true_and, Bool.and_true, List.size_toArray, List.getElem?_toArray, binStr, fillIn, true_and, and_true, true_or, or_true, bne_self_eq_false, Int.reduceToNat, Int.reduceAdd, Int.reduceSub, Int.reduceMul]
    refine add_ok' (R.sl _ hp) key hs cost hc fun h1 o1 S1 => ?_
    simp (disch := omega) only [c19, ↓c19_r0_run, ↓c19_r1_run, ↓c19_r2_run, ↓c19_r3_run, ↓c19_r4_run, ↓c19_r5_run, ↓c19_r6_run, ↓RunC_seq, ↓RunC_skip, ↓RunC_ret, ↓RunC_exit, ↓RunC_region, ↓RunC_condQ, condQ_true, condQ_false, ↓RunC_block, ↓RunR_done, ↓RunR_op, ↓RunR_opg, ↓RunR_snap, ↓RunR_chk, Holds, Option.getD_none, Option.getD_some, guardR_true, guardR_false, wantV_bool, wantV_none, callvQ_eq, afterR_some, ↓seqQ_normal, ↓seqQ_ret, ↓seqQ_exit, ↓blockQ_normal, ↓blockQ_ret, ↓blockQ_exit, ↓retQ_ret, ↓retQ_normal, ↓callQ_eq, ↓loopQ_normal, ↓loopQ_ret, ↓loopQ_exit, ↓upd_same, upd_at, sel_t, sel_f, initE_at, obj_upd_same, obj_upd_ne, obj_new_same, obj_updnew_same, obj_updnew_same2, obj_new2_same, obj_new3_same, obj_newupd_same, obj_new_ne, obj_new_ne2, obj_new_ne3, obj_new_ne4, next_upd, next_new, add_plain, cop, bin, binInt, un, shiftInt, flat, read_cells, src_ro, src_fix, src_grow, get_cells, List.getElem?_cons_zero, List.getElem?_cons_succ, write_fix, write_grow, setAt, bound, eqK, elemOk_ro, elemOk_fix, elemOk_grow, stiff_ro, stiff_fix, goInt, resultsV, resV, resL, finQ_some, Option.map_some, Option.map_none, Option.bind_some, Option.bind_none, List.map_cons, List.map_nil, List.getD_cons_zero, List.getD_cons_succ, List.getD_nil, Nat.reduceEqDiff, Nat.reduceAdd, Nat.reduceMul, Nat.reduceSub, Nat.reduceLT, Nat.reduceLeDiff, Nat.reduceBEq, if_true, if_false, ite_true, ite_false, List.length_cons, List.length_nil, Nat.zero_add, Nat.add_zero, List.drop_zero, List.drop_succ_cons, List.take_succ_cons, List.take_zero, List.set_cons_zero, List.set_cons_succ, Int.reduceLT, Int.reduceLE, Bool.not_true, Bool.not_false, Option.isNone_some, Option.isNone_none, decide_true, decide_false, beq_self_eq_true, Bool.false_eq_true, Bool.true_eq_false, if_pos, if_neg, reduceCtorEq, beq_iff_eq, BEq.rfl, wrap_i64, wrap_i32, wrap_i8, wrap_u8, wrap_u32, wrap_u64, Nat.mul_one, Int.toNat_natCast, ints_len, List.length_map, List.length_set, beq_ft, beq_tf, List.all_cons, List.all_nil, scalar, Bool.and_self, Bool.true_and, Bool.and_true, List.size_toArray, List.getElem?_toArray, binStr, fillIn, true_and, and_true, true_or, or_true, bne_self_eq_false, Int.reduceToNat, Int.reduceAdd, Int.reduceSub, Int.reduceMul]
    exact hQ _ (o1.ringN hp) (R.setSlot hp o1 S1)
  · have a2 : (ctr st (pl r n) != n + 1) = true := by rw [bne_iff_ne]; exact c
    rw [if_neg c] at hQ
    simp (disch := omega) only [c19, ↓c19_r0_run, ↓c19_r1_run, ↓c19_r2_run, ↓c19_r3_run, ↓c19_r4_run, ↓c19_r5_run, ↓c19_r6_run, ox, os, ot, eqS, fn, n0, t1, hst, hq, a2, ↓RunC_seq, ↓RunC_skip, ↓RunC_ret, ↓RunC_exit, ↓RunC_region, ↓RunC_condQ, condQ_true, condQ_false, ↓RunC_block, ↓RunR_done, ↓RunR_op, ↓RunR_opg, ↓RunR_snap, ↓RunR_chk, Holds, Option.getD_none, Option.getD_some, guardR_true, guardR_false, wantV_bool, wantV_none, callvQ_eq, afterR_some, ↓seqQ_normal, ↓seqQ_ret, ↓seqQ_exit, ↓blockQ_normal, ↓blockQ_ret, ↓blockQ_exit, ↓retQ_ret, ↓retQ_normal, ↓callQ_eq, ↓loopQ_normal, ↓loopQ_ret, ↓loopQ_exit, ↓upd_same, upd_at, sel_t, sel_f, initE_at, obj_upd_same, obj_upd_ne, obj_new_same, obj_updnew_same, obj_updnew_same2, obj_new2_same, obj_new3_same, obj_newupd_same, obj_new_ne, obj_new_ne2, obj_new_ne3, obj_new_ne4, next_upd, next_new, add_plain, cop, bin, binInt, un, shiftInt, flat, read_cells, src_ro, src_fix, src_grow, get_cells, List.getElem?_cons_zero, List.getElem?_cons_succ, write_fix, write_grow, setAt, bound, eqK, elemOk_ro, elemOk_fix, elemOk_grow, stiff_ro, stiff_fix, goInt, resultsV, resV, resL, finQ_some, Option.map_some, Option.map_none, Option.bind_some, Option.bind_none, List.map_cons, List.map_nil, List.getD_cons_zero, List.getD_cons_succ, List.getD_nil, Nat.reduceEqDiff, Nat.reduceAdd, Nat.reduceMul, Nat.reduceSub, Nat.reduceLT, Nat.reduceLeDiff, Nat.reduceBEq, if_true, if_false, ite_true, ite_false, List.length_cons, List.length_nil, Nat.zero_add, Nat.add_zero, List.drop_zero, List.drop_succ_cons, List.take_succ_cons, List.take_zero, List.set_cons_zero, List.set_cons_succ, Int.reduceLT, Int.reduceLE, Bool.not_true, Bool.not_false, Option.isNone_some, Option.isNone_none, decide_true, decide_false, beq_self_eq_true, Bool.false_eq_true, Bool.true_eq_false, if_pos, if_neg, reduceCtorEq, beq_iff_eq, BEq.rfl, wrap_i64, wrap_i32, wrap_i8, wrap_u8, wrap_u32, wrap_u64, Nat.mul_one, Int.toNat_natCast, ints_len, List.length_map, List.length_set, beq_ft, beq_tf, List.all_cons, List.all_nil, scalar, Bool.and_self, Bool.true_and, Bool.and_true, List.size_toArray, List.getElem?_toArray, binStr, fillIn, true_and, and_true, true_or, or_true, bne_self_eq_false, Int.reduceToNat, Int.reduceAdd, Int.reduceSub, Int.reduceMul]
    refine clear_ok (R.sl _ hp) fun h1 o1 S1 => ?_
    have R1 := R.setSlot hp o1 S1
    have ox1 := R1.ox
    have os1 := R1.os
    have ot1 := R1.ot
    have R2 := R1.setStamp (pl r n) (n + 1) (by unfold I64; omega)
    have xt := R.xx.2.1
    have st' := R.xx.2.2
    have nt := (R.xn _ hp).2.2
    simp (disch := omega) only [c19, ↓c19_r0_run, ↓c19_r1_run, ↓c19_r2_run, ↓c19_r3_run, ↓c19_r4_run, ↓c19_r5_run, ↓c19_r6_run, ox1, os1, ot1, hq, setAt_one, ints_set, len, ↓RunC_seq, ↓RunC_skip, ↓RunC_ret, ↓RunC_exit, ↓RunC_region, ↓RunC_condQ, condQ_true, condQ_false, ↓RunC_block, ↓RunR_done, ↓RunR_op, ↓RunR_opg, ↓RunR_snap, ↓RunR_chk, Holds, Option.getD_none, Option.getD_some, guardR_true, guardR_false, wantV_bool, wantV_none, callvQ_eq, afterR_some, ↓seqQ_normal, ↓seqQ_ret, ↓seqQ_exit, ↓blockQ_normal, ↓blockQ_ret, ↓blockQ_exit, ↓retQ_ret, ↓retQ_normal, ↓callQ_eq, ↓loopQ_normal, ↓loopQ_ret, ↓loopQ_exit, ↓upd_same, upd_at, sel_t, sel_f, initE_at, obj_upd_same, obj_upd_ne, obj_new_same, obj_updnew_same, obj_updnew_same2, obj_new2_same, obj_new3_same, obj_newupd_same, obj_new_ne, obj_new_ne2, obj_new_ne3, obj_new_ne4, next_upd, next_new, add_plain, cop, bin, binInt, un, shiftInt, flat, read_cells, src_ro, src_fix, src_grow, get_cells, List.getElem?_cons_zero, List.getElem?_cons_succ, write_fix, write_grow, setAt, bound, eqK, elemOk_ro, elemOk_fix, elemOk_grow, stiff_ro, stiff_fix, goInt, resultsV, resV, resL, finQ_some, Option.map_some, Option.map_none, Option.bind_some, Option.bind_none, List.map_cons, List.map_nil, List.getD_cons_zero, List.getD_cons_succ, List.getD_nil, Nat.reduceEqDiff, Nat.reduceAdd, Nat.reduceMul, Nat.reduceSub, Nat.reduceLT, Nat.reduceLeDiff, Nat.reduceBEq, if_true, if_false, ite_true, ite_false, List.length_cons, List.length_nil, Nat.zero_add, Nat.add_zero, List.drop_zero, List.drop_succ_cons, List.take_succ_cons, List.take_zero, List.set_cons_zero, List.set_cons_succ, Int.reduceLT, Int.reduceLE, Bool.not_true, Bool.not_false, Option.isNone_some, Option.isNone_none, decide_true, decide_false, beq_self_eq_true, Bool.false_eq_true, Bool.true_eq_false, if_pos, if_neg, reduceCtorEq, beq_iff_eq, BEq.rfl, wrap_i64, wrap_i32, wrap_i8, wrap_u8, wrap_u32, wrap_u64, Nat.mul_one, Int.toNat_natCast, ints_len, List.length_map, List.length_set, beq_ft, beq_tf, List.all_cons, List.all_nil, scalar, Bool.and_self, Bool.true_and, Bool.and_true, List.size_toArray, List.getElem?_toArray, binStr, fillIn, true_and, and_true, true_or, or_true, bne_self_eq_false, Int.reduceToNat, Int.reduceAdd, Int.reduceSub, Int.reduceMul]
    refine add_ok' (R2.sl _ hp) key hs cost hc fun h2 o2 S2 => ?_
    have R3 := R2.setSlot hp o2 S2
    have oT : OldX r.tb h1 (h1.upd r.tb (.cells (ints .i64 (st.set (pl r n) (n + 1))) 2 .grow)) := ⟨Nat.le_refl _, fun b _ hb => obj_upd_ne _ _ hb⟩
    simp (disch := omega) only [c19, ↓c19_r0_run, ↓c19_r1_run, ↓c19_r2_run, ↓c19_r3_run, ↓c19_r4_run, ↓c19_r5_run, ↓c19_r6_run, ↓RunC_seq, ↓RunC_skip, ↓RunC_ret, ↓RunC_exit, ↓RunC_region, ↓RunC_condQ, condQ_true, condQ_false, ↓RunC_block, ↓RunR_done, ↓RunR_op, ↓RunR_opg, ↓RunR_snap, ↓RunR_chk, Holds, Option.getD_none, Option.getD_some, guardR_true, guardR_false, wantV_bool, wantV_none, callvQ_eq, afterR_some, ↓seqQ_normal, ↓seqQ_ret, ↓seqQ_exit, ↓blockQ_normal, ↓blockQ_ret, ↓blockQ_exit, ↓retQ_ret, ↓retQ_normal, ↓callQ_eq, ↓loopQ_normal, ↓loopQ_ret, ↓loopQ_exit, ↓upd_same, upd_at, sel_t, sel_f, initE_at, obj_upd_same, obj_upd_ne, obj_new_same, obj_updnew_same, obj_updnew_same2, obj_new2_same, obj_new3_same, obj_newupd_same, obj_new_ne, obj_new_ne2, obj_new_ne3, obj_new_ne4, next_upd, next_new, add_plain, cop, bin, binInt, un, shiftInt, flat, read_cells, src_ro, src_fix, src_grow, get_cells, List.getElem?_cons_zero, List.getElem?_cons_succ, write_fix, write_grow, setAt, bound, eqK, elemOk_ro, elemOk_fix, elemOk_grow, stiff_ro, stiff_fix, goInt, resultsV, resV, resL, finQ_some, Option.map_some, Option.map_none, Option.bind_some, Option.bind_none, List.map_cons, List.map_nil, List.getD_cons_zero, List.getD_cons_succ, List.getD_nil, Nat.reduceEqDiff, Nat.reduceAdd, Nat.reduceMul, Nat.reduceSub, Nat.reduceLT, Nat.reduceLeDiff, Nat.reduceBEq, if_true, if_false, ite_true, ite_false, List.length_cons, List.length_nil, Nat.zero_add, Nat.add_zero, List.drop_zero, List.drop_succ_cons, List.take_succ_cons, List.take_zero, List.set_cons_zero, List.set_cons_succ, Int.reduceLT, Int.reduceLE, Bool.not_true, Bool.not_false, Option.isNone_some, Option.isNone_none, decide_true, decide_false, beq_self_eq_true, Bool.false_eq_true, Bool.true_eq_false, if_pos, if_neg, reduceCtorEq, beq_iff_eq, BEq.rfl, wrap_i64, wrap_i32, wrap_i8, wrap_u8, wrap_u32, wrap_u64, Nat.mul_one, Int.toNat_natCast, ints_len, List.length_map, List.length_set, beq_ft, beq_tf, List.all_cons, List.all_nil, scalar, Bool.and_self, Bool.true_and, Bool.and_true, List.size_toArray, List.getElem?_toArray, binStr, fillIn, true_and, and_true, true_or, or_true, bne_self_eq_false, Int.reduceToNat, Int.reduceAdd, Int.reduceSub, Int.reduceMul]
    refine hQ _ (((o1.ringN hp).trans oT.ringT).trans (o2.ringN hp)) ?_
    have e : ∀ c d, putC (putC cs (pl r n) c) (pl r n) d = putC cs (pl r n) d := fun c d => by funext j; unfold putC; split <;> rfl
    have e2 : ∀ c, putC cs (pl r n) c (pl r n) = c := fun c => by unfold putC; rw [if_pos rfl]
    rw [e, e2] at R3
    exact R3
/-- What of the eldest slot counts. -/
def eldN (r : RP) (m into : Nat) : Nat := if r.part then ceilN (m * (r.W.toNat - into)) r.W.toNat else m
theorem eldest_ok (R : RingAt h r now st cs) (m into : Nat) (hm : m ≤ 9223372036854775807) (hi : (into : Int) < r.W) (Q : Value → Heap → Prop) :
    CALL cp 37 [.pointer (some ⟨r.x, 0, none⟩), .int .i64 m, .int .i64 into] h Q ↔ Q (.int .i64 (eldN r m into : Nat)) h := by
  refine CALL_det ?_ Q
  rw [CALL_enter cp cp37]
  have ox := R.ox
  have hW := R.hW
  unfold eldN
  cases hp : r.part with
  | false =>
    simp (disch := omega) only [c37, ↓c37_r0_run, ↓c37_r1_run, ↓c37_r2_run, ↓c37_r3_c2_run, ↓c37_r3_c1_run, ↓c37_r3_run, ↓c37_r4_run, ox, hp, ↓RunC_seq, ↓RunC_skip, ↓RunC_ret, ↓RunC_exit, ↓RunC_region, ↓RunC_condQ, condQ_true, condQ_false, ↓RunC_block, ↓RunR_done, ↓RunR_op, ↓RunR_opg, ↓RunR_snap, ↓RunR_chk, Holds, Option.getD_none, Option.getD_some, guardR_true, guardR_false, wantV_bool, wantV_none, callvQ_eq, afterR_some, ↓seqQ_normal, ↓seqQ_ret, ↓seqQ_exit, ↓blockQ_normal, ↓blockQ_ret, ↓blockQ_exit, ↓retQ_ret, ↓retQ_normal, ↓callQ_eq, ↓loopQ_normal, ↓loopQ_ret, ↓loopQ_exit, ↓upd_same, upd_at, sel_t, sel_f, initE_at, obj_upd_same, obj_upd_ne, obj_new_same, obj_updnew_same, obj_updnew_same2, obj_new2_same, obj_new3_same, obj_newupd_same, obj_new_ne, obj_new_ne2, obj_new_ne3, obj_new_ne4, next_upd, next_new, add_plain, cop, bin, binInt, un, shiftInt, flat, read_cells, src_ro, src_fix, src_grow, get_cells, List.getElem?_cons_zero, List.getElem?_cons_succ, write_fix, write_grow, setAt, bound, eqK, elemOk_ro, elemOk_fix, elemOk_grow, stiff_ro, stiff_fix, goInt, resultsV, resV, resL, finQ_some, Option.map_some, Option.map_none, Option.bind_some, Option.bind_none, List.map_cons, List.map_nil, List.getD_cons_zero, List.getD_cons_succ, List.getD_nil, Nat.reduceEqDiff, Nat.reduceAdd, Nat.reduceMul, Nat.reduceSub, Nat.reduceLT, Nat.reduceLeDiff, Nat.reduceBEq, if_true, if_false, ite_true, ite_false, List.length_cons, List.length_nil, Nat.zero_add, Nat.add_zero, List.drop_zero, List.drop_succ_cons, List.take_succ_cons, List.take_zero, List.set_cons_zero, List.set_cons_succ, Int.reduceLT, Int.reduceLE, Bool.not_true, Bool.not_false, Option.isNone_some, Option.isNone_none, decide_true, decide_false, beq_self_eq_true, Bool.false_eq_true, Bool.true_eq_false, if_pos, if_neg, reduceCtorEq, beq_iff_eq, BEq.rfl, wrap_i64, wrap_i32, wrap_i8, wrap_u8, wrap_u32, wrap_u64, Nat.mul_one, Int.toNat_natCast, ints_len, List.length_map, List.length_set, beq_ft, beq_tf, List.all_cons, List.all_nil, scalar, Bool.and_self, Bool.true_and, Bool.and_true, List.size_toArray, List.getElem?_toArray, binStr, fillIn, true_and, and_true, true_or, or_true, bne_self_eq_false, Int.reduceToNat, Int.reduceAdd, Int.reduceSub, Int.reduceMul]
    first | done | trivial
  | true =>
    obtain ⟨W, hWn⟩ : ∃ W : Nat, r.W = W := ⟨r.W.toNat, by omega⟩
    have hmul : m * (W - into) ≤ m * W := Nat.mul_le_mul_left m (Nat.sub_le _ _)
    have hmul2 : m * W ≤ 9223372036854775807 * W := Nat.mul_le_mul_right W hm
    have hq : m * (W - into) / W ≤ m := Nat.div_le_of_le_mul (by rw [Nat.mul_comm W]; exact hmul)
    have f := fun h => up_ok h m (W - into) W (by omega) (by omega) (by omega) (by omega) (by omega)
    have cl : ceilN (m * (W - into)) W ≤ m := by
      unfold ceilN
      split
      · exact hq
      · rename_i hne
        have h1 := Nat.div_add_mod (m * (W - into)) W
        have h2 : W * (m * (W - into) / W) < W * m := by rw [Nat.mul_comm W m]; omega
        have := Nat.lt_of_mul_lt_mul_left h2
        omega
    have sb : r.W - (into : Int) = ((W - into : Nat) : Int) := by omega
    have sb' : (W : Int) - (into : Int) = ((W - into : Nat) : Int) := by omega
    have k1 : r.W.toNat = W := by omega
    rw [if_pos rfl, k1]
    simp (disch := omega) only [c37, ↓c37_r0_run, ↓c37_r1_run, ↓c37_r2_run, ↓c37_r3_c2_run, ↓c37_r3_c1_run, ↓c37_r3_run, ↓c37_r4_run, ox, hp, hWn, sb', f, ↓RunC_seq, ↓RunC_skip, ↓RunC_ret, ↓RunC_exit, ↓RunC_region, ↓RunC_condQ, condQ_true, condQ_false, ↓RunC_block, ↓RunR_done, ↓RunR_op, ↓RunR_opg, ↓RunR_snap, ↓RunR_chk, Holds, Option.getD_none, Option.getD_some, guardR_true, guardR_false, wantV_bool, wantV_none, callvQ_eq, afterR_some, ↓seqQ_normal, ↓seqQ_ret, ↓seqQ_exit, ↓blockQ_normal, ↓blockQ_ret, ↓blockQ_exit, ↓retQ_ret, ↓retQ_normal, ↓callQ_eq, ↓loopQ_normal, ↓loopQ_ret, ↓loopQ_exit, ↓upd_same, upd_at, sel_t, sel_f, initE_at, obj_upd_same, obj_upd_ne, obj_new_same, obj_updnew_same, obj_updnew_same2, obj_new2_same, obj_new3_same, obj_newupd_same, obj_new_ne, obj_new_ne2, obj_new_ne3, obj_new_ne4, next_upd, next_new, add_plain, cop, bin, binInt, un, shiftInt, flat, read_cells, src_ro, src_fix, src_grow, get_cells, List.getElem?_cons_zero, List.getElem?_cons_succ, write_fix, write_grow, setAt, bound, eqK, elemOk_ro, elemOk_fix, elemOk_grow, stiff_ro, stiff_fix, goInt, resultsV, resV, resL, finQ_some, Option.map_some, Option.map_none, Option.bind_some, Option.bind_none, List.map_cons, List.map_nil, List.getD_cons_zero, List.getD_cons_succ, List.getD_nil, Nat.reduceEqDiff, Nat.reduceAdd, Nat.reduceMul, Nat.reduceSub, Nat.reduceLT, Nat.reduceLeDiff, Nat.reduceBEq, if_true, if_false, ite_true, ite_false, List.length_cons, List.length_nil, Nat.zero_add, Nat.add_zero, List.drop_zero, List.drop_succ_cons, List.take_succ_cons, List.take_zero, List.set_cons_zero, List.set_cons_succ, Int.reduceLT, Int.reduceLE, Bool.not_true, Bool.not_false, Option.isNone_some, Option.isNone_none, decide_true, decide_false, beq_self_eq_true, Bool.false_eq_true, Bool.true_eq_false, if_pos, if_neg, reduceCtorEq, beq_iff_eq, BEq.rfl, wrap_i64, wrap_i32, wrap_i8, wrap_u8, wrap_u32, wrap_u64, Nat.mul_one, Int.toNat_natCast, ints_len, List.length_map, List.length_set, beq_ft, beq_tf, List.all_cons, List.all_nil, scalar, Bool.and_self, Bool.true_and, Bool.and_true, List.size_toArray, List.getElem?_toArray, binStr, fillIn, true_and, and_true, true_or, or_true, bne_self_eq_false, Int.reduceToNat, Int.reduceAdd, Int.reduceSub, Int.reduceMul]
theorem eldN_le (R : RingAt h r now st cs) (m into : Nat) : eldN r m into ≤ m := by
  have hW := R.hW
  unfold eldN
  split
  · obtain ⟨W, hWn⟩ : ∃ W : Nat, r.W.toNat = W := ⟨_, rfl⟩
    rw [hWn]
    have hmul : m * (W - into) ≤ m * W := Nat.mul_le_mul_left m (Nat.sub_le _ _)
    have hq : m * (W - into) / W ≤ m := Nat.div_le_of_le_mul (by rw [Nat.mul_comm W]; exact hmul)
    unfold ceilN
    split
    · exact hq
    · rename_i hne
      have h1 := Nat.div_add_mod (m * (W - into)) W
      have h2 : W * (m * (W - into) / W) < W * m := by rw [Nat.mul_comm W m]; omega
      have := Nat.lt_of_mul_lt_mul_left h2
      omega
  · exact Nat.le_refl _
/-- What a key has in the slot of a number. -/
def leastAt (r : RP) (st : List Int) (cs : Nat → List Int) (key : ByteArray) (n : Int) : Int := if alive r st n then leastN (cs (pl r n)) (ix r.rows r.w key) (r.rows.length - 1) else 0
def termN (r : RP) (st : List Int) (cs : Nat → List Int) (key : ByteArray) (n : Int) (into : Nat) (k : Nat) : Int :=
  if k = 0 then ((eldN r (leastAt r st cs key (n - r.N + 1 + k)).toNat into : Nat) : Int) else leastAt r st cs key (n - r.N + 1 + k)
def fromN (r : RP) (st : List Int) (cs : Nat → List Int) (key : ByteArray) (n : Int) (into : Nat) : Nat → Int
  | 0 => 0
  | k + 1 => near (fromN r st cs key n into k + termN r st cs key n into k)
theorem ofLeast_ok (R : RingAt h r now st cs) (n : Int) (key : ByteArray) (hs : key.size ≤ 140737488355328) {Q : Value → Heap → Prop} (hQ : ∀ h', Old h h' → Q (.int .i64 (leastAt r st cs key n)) h') :
    CALL cp 35 [if alive r st n then .pointer (some ⟨r.ps (pl r n), 0, none⟩) else .pointer none, .string key] h Q := by
  unfold leastAt at hQ
  by_cases c : alive r st n
  · rw [if_pos c]
    rw [if_pos c] at hQ
    exact least_ok (R.sl _ (pl_lt R n)) key hs hQ
  · rw [if_neg c]
    rw [if_neg c] at hQ
    exact (least_nil h key Q).2 (hQ h (Old.refl h))
theorem from_ok (R : RingAt h r now st cs) (n : Int) (hn : 0 ≤ n ∧ n ≤ 9223372036854770000) (into : Nat) (hi : (into : Int) < r.W) (key : ByteArray) (hs : key.size ≤ 140737488355328)
    (pos : ∀ i, 0 ≤ leastAt r st cs key i ∧ leastAt r st cs key i ≤ 9223372036854775807) {Q : Value → Heap → Prop}
    (hQ : ∀ h', Old h h' → Q (.int .i64 (fromN r st cs key n into r.N)) h') : CALL cp 30 [.pointer (some ⟨r.x, 0, none⟩), .string key, .int .i64 n, .int .i64 into] h Q := by
  rw [CALL_enter cp cp30]
  have ox := R.ox
  have hN := R.hN
  simp (disch := omega) only [c30, ↓c30_r0_run, ↓c30_r1_run, ↓c30_r2_run, ↓c30_r3_run, ↓c30_r5_run, ↓c30_r6_run, ↓c30_r7_run, ↓c30_r8_run, ↓c30_r4_run, ↓c30_r9_run, ox, ↓RunC_seq, ↓RunC_skip, ↓RunC_ret, ↓RunC_exit, ↓RunC_region, ↓RunC_condQ, condQ_true, condQ_false, ↓RunC_block, ↓RunR_done, ↓RunR_op, ↓RunR_opg, ↓RunR_snap, ↓RunR_chk, Holds, Option.getD_none, Option.getD_some, guardR_true, guardR_false, wantV_bool, wantV_none, callvQ_eq, afterR_some, ↓seqQ_normal, ↓seqQ_ret, ↓seqQ_exit, ↓blockQ_normal, ↓blockQ_ret, ↓blockQ_exit, ↓retQ_ret, ↓retQ_normal, ↓callQ_eq, ↓loopQ_normal, ↓loopQ_ret, ↓loopQ_exit, ↓upd_same, upd_at, sel_t, sel_f, initE_at, obj_upd_same, obj_upd_ne, obj_new_same, obj_updnew_same, obj_updnew_same2, obj_new2_same, obj_new3_same, obj_newupd_same, obj_new_ne, obj_new_ne2, obj_new_ne3, obj_new_ne4, next_upd, next_new, add_plain, cop, bin, binInt, un, shiftInt, flat, read_cells, src_ro, src_fix, src_grow, get_cells, List.getElem?_cons_zero, List.getElem?_cons_succ, write_fix, write_grow, setAt, bound, eqK, elemOk_ro, elemOk_fix, elemOk_grow, stiff_ro, stiff_fix, goInt, resultsV, resV, resL, finQ_some, Option.map_some, Option.map_none, Option.bind_some, Option.bind_none, List.map_cons, List.map_nil, List.getD_cons_zero, List.getD_cons_succ, List.getD_nil, Nat.reduceEqDiff, Nat.reduceAdd, Nat.reduceMul, Nat.reduceSub, Nat.reduceLT, Nat.reduceLeDiff, Nat.reduceBEq, if_true, if_false, ite_true, ite_false, List.length_cons, List.length_nil, Nat.zero_add, Nat.add_zero, List.drop_zero, List.drop_succ_cons, List.take_succ_cons, List.take_zero, List.set_cons_zero, List.set_cons_succ, Int.reduceLT, Int.reduceLE, Bool.not_true, Bool.not_false, Option.isNone_some, Option.isNone_none, decide_true, decide_false, beq_self_eq_true, Bool.false_eq_true, Bool.true_eq_false, if_pos, if_neg, reduceCtorEq, beq_iff_eq, BEq.rfl, wrap_i64, wrap_i32, wrap_i8, wrap_u8, wrap_u32, wrap_u64, Nat.mul_one, Int.toNat_natCast, ints_len, List.length_map, List.length_set, beq_ft, beq_tf, List.all_cons, List.all_nil, scalar, Bool.and_self, Bool.true_and, Bool.and_true, List.size_toArray, List.getElem?_toArray, binStr, fillIn, true_and, and_true, true_or, or_true, bne_self_eq_false, Int.reduceToNat, Int.reduceAdd, Int.reduceSub, Int.reduceMul]
  refine RunC_loop cp c30_l0 _ (fun d e hh => ∃ k : Nat, k + d = r.N ∧ Old h hh ∧ e 0 = .pointer (some ⟨r.x, 0, none⟩) ∧ e 1 = .string key ∧ e 2 = .int .i64 n ∧ e 3 = .int .i64 into ∧ e 9 = .int .i64 (fromN r st cs key n into k) ∧ e 10 = .int .i64 (n - r.N + 1 + k)) ?_ r.N _ _
    ⟨0, by omega, Old.refl _, rfl, rfl, rfl, rfl, rfl, by show Value.int .i64 _ = _; congr 1; omega⟩
  rintro d e hh ⟨k, hk, o, e0, e1, e2, e3, e9, e10⟩
  have R1 := R.old o
  have ox := R1.ox
  by_cases c : k < r.N
  · have b1 : decide (n - r.N + 1 + k ≤ n) = true := decide_eq_true (by omega)
    have f := fun Q => of_ok R1 (n - r.N + 1 + k) (by omega) Q
    simp (disch := omega) only [c30_l0, c30, ↓c30_r0_run, ↓c30_r1_run, ↓c30_r2_run, ↓c30_r3_run, ↓c30_r5_run, ↓c30_r6_run, ↓c30_r7_run, ↓c30_r8_run, ↓c30_r4_run, ↓c30_r9_run, e0, e1, e2, e3, e9, e10, b1, f, ↓RunC_seq, ↓RunC_skip, ↓RunC_ret, ↓RunC_exit, ↓RunC_region, ↓RunC_condQ, condQ_true, condQ_false, ↓RunC_block, ↓RunR_done, ↓RunR_op, ↓RunR_opg, ↓RunR_snap, ↓RunR_chk, Holds, Option.getD_none, Option.getD_some, guardR_true, guardR_false, wantV_bool, wantV_none, callvQ_eq, afterR_some, ↓seqQ_normal, ↓seqQ_ret, ↓seqQ_exit, ↓blockQ_normal, ↓blockQ_ret, ↓blockQ_exit, ↓retQ_ret, ↓retQ_normal, ↓callQ_eq, ↓loopQ_normal, ↓loopQ_ret, ↓loopQ_exit, ↓upd_same, upd_at, sel_t, sel_f, initE_at, obj_upd_same, obj_upd_ne, obj_new_same, obj_updnew_same, obj_updnew_same2, obj_new2_same, obj_new3_same, obj_newupd_same, obj_new_ne, obj_new_ne2, obj_new_ne3, obj_new_ne4, next_upd, next_new, add_plain, cop, bin, binInt, un, shiftInt, flat, read_cells, src_ro, src_fix, src_grow, get_cells, List.getElem?_cons_zero, List.getElem?_cons_succ, write_fix, write_grow, setAt, bound, eqK, elemOk_ro, elemOk_fix, elemOk_grow, stiff_ro, stiff_fix, goInt, resultsV, resV, resL, finQ_some, Option.map_some, Option.map_none, Option.bind_some, Option.bind_none, List.map_cons, List.map_nil, List.getD_cons_zero, List.getD_cons_succ, List.getD_nil, Nat.reduceEqDiff, Nat.reduceAdd, Nat.reduceMul, Nat.reduceSub, Nat.reduceLT, Nat.reduceLeDiff, Nat.reduceBEq, if_true, if_false, ite_true, ite_false, List.length_cons, List.length_nil, Nat.zero_add, Nat.add_zero, List.drop_zero, List.drop_succ_cons, List.take_succ_cons, List.take_zero, List.set_cons_zero, List.set_cons_succ, Int.reduceLT, Int.reduceLE, Bool.not_true, Bool.not_false, Option.isNone_some, Option.isNone_none, decide_true, decide_false, beq_self_eq_true, Bool.false_eq_true, Bool.true_eq_false, if_pos, if_neg, reduceCtorEq, beq_iff_eq, BEq.rfl, wrap_i64, wrap_i32, wrap_i8, wrap_u8, wrap_u32, wrap_u64, Nat.mul_one, Int.toNat_natCast, ints_len, List.length_map, List.length_set, beq_ft, beq_tf, List.all_cons, List.all_nil, scalar, Bool.and_self, Bool.true_and, Bool.and_true, List.size_toArray, List.getElem?_toArray, binStr, fillIn, true_and, and_true, true_or, or_true, bne_self_eq_false, Int.reduceToNat, Int.reduceAdd, Int.reduceSub, Int.reduceMul]
    refine ofLeast_ok R1 _ key hs fun h2 o2 => ?_
    have R2 := R1.old o2
    have ox := R2.ox
    have p := pos (n - r.N + 1 + k)
    have nx : n - r.N + 1 + k + 1 = n - r.N + 1 + ((k + 1 : Nat) : Int) := by omega
    have fin : I64 (fromN r st cs key n into k) := by cases k with
      | zero => exact (by unfold fromN I64; omega)
      | succ k => exact near_in _
    by_cases c0 : k = 0
    · subst c0
      have b2 : (n - r.N + 1 + ((0 : Nat) : Int) == n - r.N + 1) = true := by rw [beq_iff_eq]; omega
      obtain ⟨M, hM⟩ : ∃ M : Nat, leastAt r st cs key (n - r.N + 1 + ((0 : Nat) : Int)) = M := ⟨(leastAt r st cs key (n - r.N + 1 + ((0 : Nat) : Int))).toNat, by omega⟩
      have fe := fun Q => eldest_ok R2 M into (by omega) hi Q
      have el := eldN_le R M into
      have fs := fun h => sum_ok h (fromN r st cs key n into 0) ((eldN r M into : Nat) : Int) fin (by unfold I64; omega)
      simp (disch := omega) only [c30, ↓c30_r0_run, ↓c30_r1_run, ↓c30_r2_run, ↓c30_r3_run, ↓c30_r5_run, ↓c30_r6_run, ↓c30_r7_run, ↓c30_r8_run, ↓c30_r4_run, ↓c30_r9_run, e0, e1, e2, e3, e9, e10, ox, b2, hM, fe, fs, nx, ↓RunC_seq, ↓RunC_skip, ↓RunC_ret, ↓RunC_exit, ↓RunC_region, ↓RunC_condQ, condQ_true, condQ_false, ↓RunC_block, ↓RunR_done, ↓RunR_op, ↓RunR_opg, ↓RunR_snap, ↓RunR_chk, Holds, Option.getD_none, Option.getD_some, guardR_true, guardR_false, wantV_bool, wantV_none, callvQ_eq, afterR_some, ↓seqQ_normal, ↓seqQ_ret, ↓seqQ_exit, ↓blockQ_normal, ↓blockQ_ret, ↓blockQ_exit, ↓retQ_ret, ↓retQ_normal, ↓callQ_eq, ↓loopQ_normal, ↓loopQ_ret, ↓loopQ_exit, ↓upd_same, upd_at, sel_t, sel_f, initE_at, obj_upd_same, obj_upd_ne, obj_new_same, obj_updnew_same, obj_updnew_same2, obj_new2_same, obj_new3_same, obj_newupd_same, obj_new_ne, obj_new_ne2, obj_new_ne3, obj_new_ne4, next_upd, next_new, add_plain, cop, bin, binInt, un, shiftInt, flat, read_cells, src_ro, src_fix, src_grow, get_cells, List.getElem?_cons_zero, List.getElem?_cons_succ, write_fix, write_grow, setAt, bound, eqK, elemOk_ro, elemOk_fix, elemOk_grow, stiff_ro, stiff_fix, goInt, resultsV, resV, resL, finQ_some, Option.map_some, Option.map_none, Option.bind_some, Option.bind_none, List.map_cons, List.map_nil, List.getD_cons_zero, List.getD_cons_succ, List.getD_nil, Nat.reduceEqDiff, Nat.reduceAdd, Nat.reduceMul, Nat.reduceSub, Nat.reduceLT, Nat.reduceLeDiff, Nat.reduceBEq, if_true, if_false, ite_true, ite_false, List.length_cons, List.length_nil, Nat.zero_add, Nat.add_zero, List.drop_zero, List.drop_succ_cons, List.take_succ_cons, List.take_zero, List.set_cons_zero, List.set_cons_succ, Int.reduceLT, Int.reduceLE, Bool.not_true, Bool.not_false, Option.isNone_some, Option.isNone_none, decide_true, decide_false, beq_self_eq_true, Bool.false_eq_true, Bool.true_eq_false, if_pos, if_neg, reduceCtorEq, beq_iff_eq, BEq.rfl, wrap_i64, wrap_i32, wrap_i8, wrap_u8, wrap_u32, wrap_u64, Nat.mul_one, Int.toNat_natCast, ints_len, List.length_map, List.length_set, beq_ft, beq_tf, List.all_cons, List.all_nil, scalar, Bool.and_self, Bool.true_and, Bool.and_true, List.size_toArray, List.getElem?_toArray, binStr, fillIn, true_and, and_true, true_or, or_true, bne_self_eq_false, Int.reduceToNat, Int.reduceAdd, Int.reduceSub, Int.reduceMul]
      refine ⟨d - 1, by omega, 0 + 1, by omega, o.trans o2, ?_⟩
      have e : fromN r st cs key n into (0 + 1) = near (fromN r st cs key n into 0 + ((eldN r M into : Nat) : Int)) := by simp only [fromN, termN, if_true]; rw [hM, Int.toNat_natCast]
      rw [e]
      repeat' first | assumption | rfl | apply And.intro
    · have b2 : (n - r.N + 1 + (k : Int) == n - r.N + 1) = false := by rw [beq_eq_false_iff_ne]; omega
      have fs := fun h => sum_ok h (fromN r st cs key n into k) (leastAt r st cs key (n - r.N + 1 + k)) fin (by unfold I64; omega)
      simp (disch := omega) only [c30, ↓c30_r0_run, ↓c30_r1_run, ↓c30_r2_run, ↓c30_r3_run, ↓c30_r5_run, ↓c30_r6_run, ↓c30_r7_run, ↓c30_r8_run, ↓c30_r4_run, ↓c30_r9_run, e0, e1, e2, e3, e9, e10, ox, b2, fs, nx, ↓RunC_seq, ↓RunC_skip, ↓RunC_ret, ↓RunC_exit, ↓RunC_region, ↓RunC_condQ, condQ_true, condQ_false, ↓RunC_block, ↓RunR_done, ↓RunR_op, ↓RunR_opg, ↓RunR_snap, ↓RunR_chk, Holds, Option.getD_none, Option.getD_some, guardR_true, guardR_false, wantV_bool, wantV_none, callvQ_eq, afterR_some, ↓seqQ_normal, ↓seqQ_ret, ↓seqQ_exit, ↓blockQ_normal, ↓blockQ_ret, ↓blockQ_exit, ↓retQ_ret, ↓retQ_normal, ↓callQ_eq, ↓loopQ_normal, ↓loopQ_ret, ↓loopQ_exit, ↓upd_same, upd_at, sel_t, sel_f, initE_at, obj_upd_same, obj_upd_ne, obj_new_same, obj_updnew_same, obj_updnew_same2, obj_new2_same, obj_new3_same, obj_newupd_same, obj_new_ne, obj_new_ne2, obj_new_ne3, obj_new_ne4, next_upd, next_new, add_plain, cop, bin, binInt, un, shiftInt, flat, read_cells, src_ro, src_fix, src_grow, get_cells, List.getElem?_cons_zero, List.getElem?_cons_succ, write_fix, write_grow, setAt, bound, eqK, elemOk_ro, elemOk_fix, elemOk_grow, stiff_ro, stiff_fix, goInt, resultsV, resV, resL, finQ_some, Option.map_some, Option.map_none, Option.bind_some, Option.bind_none, List.map_cons, List.map_nil, List.getD_cons_zero, List.getD_cons_succ, List.getD_nil, Nat.reduceEqDiff, Nat.reduceAdd, Nat.reduceMul, Nat.reduceSub, Nat.reduceLT, Nat.reduceLeDiff, Nat.reduceBEq, if_true, if_false, ite_true, ite_false, List.length_cons, List.length_nil, Nat.zero_add, Nat.add_zero, List.drop_zero, List.drop_succ_cons, List.take_succ_cons, List.take_zero, List.set_cons_zero, List.set_cons_succ, Int.reduceLT, Int.reduceLE, Bool.not_true, Bool.not_false, Option.isNone_some, Option.isNone_none, decide_true, decide_false, beq_self_eq_true, Bool.false_eq_true, Bool.true_eq_false, if_pos, if_neg, reduceCtorEq, beq_iff_eq, BEq.rfl, wrap_i64, wrap_i32, wrap_i8, wrap_u8, wrap_u32, wrap_u64, Nat.mul_one, Int.toNat_natCast, ints_len, List.length_map, List.length_set, beq_ft, beq_tf, List.all_cons, List.all_nil, scalar, Bool.and_self, Bool.true_and, Bool.and_true, List.size_toArray, List.getElem?_toArray, binStr, fillIn, true_and, and_true, true_or, or_true, bne_self_eq_false, Int.reduceToNat, Int.reduceAdd, Int.reduceSub, Int.reduceMul]
      refine ⟨d - 1, by omega, k + 1, by omega, o.trans o2, ?_⟩
      have e : fromN r st cs key n into (k + 1) = near (fromN r st cs key n into k + leastAt r st cs key (n - r.N + 1 + k)) := by simp only [fromN, termN]; rw [if_neg c0]
      rw [e]
      repeat' first | assumption | rfl | apply And.intro
  · have b1 : decide (n - r.N + 1 + k ≤ n) = false := decide_eq_false (by omega)
    obtain rfl : k = r.N := by omega
    simp (disch := omega) only [c30_l0, c30, ↓c30_r0_run, ↓c30_r1_run, ↓c30_r2_run, ↓c30_r3_run, ↓c30_r5_run, ↓c30_r6_run, ↓c30_r7_run, ↓c30_r8_run, ↓c30_r4_run, ↓c30_r9_run, e0, e1, e2, e3, e9, e10, b1, ↓RunC_seq, ↓RunC_skip, ↓RunC_ret, ↓RunC_exit, ↓RunC_region, ↓RunC_condQ, condQ_true, condQ_false, ↓RunC_block, ↓RunR_done, ↓RunR_op, ↓RunR_opg, ↓RunR_snap, ↓RunR_chk, Holds, Option.getD_none, Option.getD_some, guardR_true, guardR_false, wantV_bool, wantV_none, callvQ_eq, afterR_some, ↓seqQ_normal, ↓seqQ_ret, ↓seqQ_exit, ↓blockQ_normal, ↓blockQ_ret, ↓blockQ_exit, ↓retQ_ret, ↓retQ_normal, ↓callQ_eq, ↓loopQ_normal, ↓loopQ_ret, ↓loopQ_exit, ↓upd_same, upd_at, sel_t, sel_f, initE_at, obj_upd_same, obj_upd_ne, obj_new_same, obj_updnew_same, obj_updnew_same2, obj_new2_same, obj_new3_same, obj_newupd_same, obj_new_ne, obj_new_ne2, obj_new_ne3, obj_new_ne4, next_upd, next_new, add_plain, cop, bin, binInt, un, shiftInt, flat, read_cells, src_ro, src_fix, src_grow, get_cells, List.getElem?_cons_zero, List.getElem?_cons_succ, write_fix, write_grow, setAt, bound, eqK, elemOk_ro, elemOk_fix, elemOk_grow, stiff_ro, stiff_fix, goInt, resultsV, resV, resL, finQ_some, Option.map_some, Option.map_none, Option.bind_some, Option.bind_none, List.map_cons, List.map_nil, List.getD_cons_zero, List.getD_cons_succ, List.getD_nil, Nat.reduceEqDiff, Nat.reduceAdd, Nat.reduceMul, Nat.reduceSub, Nat.reduceLT, Nat.reduceLeDiff, Nat.reduceBEq, if_true, if_false, ite_true, ite_false, List.length_cons, List.length_nil, Nat.zero_add, Nat.add_zero, List.drop_zero, List.drop_succ_cons, List.take_succ_cons, List.take_zero, List.set_cons_zero, List.set_cons_succ, Int.reduceLT, Int.reduceLE, Bool.not_true, Bool.not_false, Option.isNone_some, Option.isNone_none, decide_true, decide_false, beq_self_eq_true, Bool.false_eq_true, Bool.true_eq_false, if_pos, if_neg, reduceCtorEq, beq_iff_eq, BEq.rfl, wrap_i64, wrap_i32, wrap_i8, wrap_u8, wrap_u32, wrap_u64, Nat.mul_one, Int.toNat_natCast, ints_len, List.length_map, List.length_set, beq_ft, beq_tf, List.all_cons, List.all_nil, scalar, Bool.and_self, Bool.true_and, Bool.and_true, List.size_toArray, List.getElem?_toArray, binStr, fillIn, true_and, and_true, true_or, or_true, bne_self_eq_false, Int.reduceToNat, Int.reduceAdd, Int.reduceSub, Int.reduceMul]
    exact hQ _ o
/-- How much a key had, or more. -/
def estN (r : RP) (now : Int) (st : List Int) (cs : Nat → List Int) (key : ByteArray) : Int := fromN r st cs key (now / r.W) (now % r.W).toNat r.N
theorem estimate_ok (R : RingAt h r now st cs) (hnow : 0 ≤ now ∧ now ≤ 9223372036854770000) (key : ByteArray) (hs : key.size ≤ 140737488355328)
    (pos : ∀ i, 0 ≤ leastAt r st cs key i ∧ leastAt r st cs key i ≤ 9223372036854775807) {Q : Value → Heap → Prop}
    (hQ : ∀ h', Old h h' → Q (.int .i64 (estN r now st cs key)) h') : CALL cp 20 [.pointer (some ⟨r.x, 0, none⟩), .string key] h Q := by
  rw [CALL_enter cp cp20]
  have ox := R.ox
  have hW := R.hW
  have fn := fun Q => number_ok R now (by omega) Q
  have n0 : (r.W = 0) = False := by simp; omega
  have q0 : 0 ≤ now / r.W := Int.ediv_nonneg hnow.1 (by omega)
  have q1 : now / r.W ≤ now := Int.ediv_le_self r.W hnow.1
  have m0 : 0 ≤ now % r.W := Int.emod_nonneg now (by omega)
  have m1 : now % r.W < r.W := Int.emod_lt_of_pos now (by omega)
  obtain ⟨g, hg⟩ : ∃ g : Nat, now % r.W = g := ⟨(now % r.W).toNat, by omega⟩
  have t1 : Int.tmod now r.W = (g : Int) := by rw [tmod_nn _ _ hnow.1]; exact hg
  have e : estN r now st cs key = fromN r st cs key (now / r.W) g r.N := by unfold estN; rw [hg, Int.toNat_natCast]
  rw [e] at hQ
  simp (disch := omega) only [c20, ↓c20_r0_run, ↓c20_r1_run, ↓c20_r2_run, ↓c20_r3_c2_run, ↓c20_r3_c1_run, ↓c20_r3_run, ox, eqS, fn, n0, t1, ↓RunC_seq, ↓RunC_skip, ↓RunC_ret, ↓RunC_exit, ↓RunC_region, ↓RunC_condQ, condQ_true, condQ_false, ↓RunC_block, ↓RunR_done, ↓RunR_op, ↓RunR_opg, ↓RunR_snap, ↓RunR_chk, Holds, Option.getD_none, Option.getD_some, guardR_true, guardR_false, wantV_bool, wantV_none, callvQ_eq, afterR_some, ↓seqQ_normal, ↓seqQ_ret, ↓seqQ_exit, ↓blockQ_normal, ↓blockQ_ret, ↓blockQ_exit, ↓retQ_ret, ↓retQ_normal, ↓callQ_eq, ↓loopQ_normal, ↓loopQ_ret, ↓loopQ_exit, ↓upd_same, upd_at, sel_t, sel_f, initE_at, obj_upd_same, obj_upd_ne, obj_new_same, obj_updnew_same, obj_updnew_same2, obj_new2_same, obj_new3_same, obj_newupd_same, obj_new_ne, obj_new_ne2, obj_new_ne3, obj_new_ne4, next_upd, next_new, add_plain, cop, bin, binInt, un, shiftInt, flat, read_cells, src_ro, src_fix, src_grow, get_cells, List.getElem?_cons_zero, List.getElem?_cons_succ, write_fix, write_grow, setAt, bound, eqK, elemOk_ro, elemOk_fix, elemOk_grow, stiff_ro, stiff_fix, goInt, resultsV, resV, resL, finQ_some, Option.map_some, Option.map_none, Option.bind_some, Option.bind_none, List.map_cons, List.map_nil, List.getD_cons_zero, List.getD_cons_succ, List.getD_nil, Nat.reduceEqDiff, Nat.reduceAdd, Nat.reduceMul, Nat.reduceSub, Nat.reduceLT, Nat.reduceLeDiff, Nat.reduceBEq, if_true, if_false, ite_true, ite_false, List.length_cons, List.length_nil, Nat.zero_add, Nat.add_zero, List.drop_zero, List.drop_succ_cons, List.take_succ_cons, List.take_zero, List.set_cons_zero, List.set_cons_succ, Int.reduceLT, Int.reduceLE, Bool.not_true, Bool.not_false, Option.isNone_some, Option.isNone_none, decide_true, decide_false, beq_self_eq_true, Bool.false_eq_true, Bool.true_eq_false, if_pos, if_neg, reduceCtorEq, beq_iff_eq, BEq.rfl, wrap_i64, wrap_i32, wrap_i8, wrap_u8, wrap_u32, wrap_u64, Nat.mul_one, Int.toNat_natCast, ints_len, List.length_map, List.length_set, beq_ft, beq_tf, List.all_cons, List.all_nil, scalar, Bool.and_self, Bool.true_and, Bool.and_true, List.size_toArray, List.getElem?_toArray, binStr, fillIn, true_and, and_true, true_or, or_true, bne_self_eq_false, Int.reduceToNat, Int.reduceAdd, Int.reduceSub, Int.reduceMul]
  refine from_ok R _ (by omega) g (by omega) key hs pos fun h' o => ?_
  simp (disch := omega) only [c20, ↓c20_r0_run, ↓c20_r1_run, ↓c20_r2_run, ↓c20_r3_c2_run, ↓c20_r3_c1_run, ↓c20_r3_run, ↓RunC_seq, ↓RunC_skip, ↓RunC_ret, ↓RunC_exit, ↓RunC_region, ↓RunC_condQ, condQ_true, condQ_false, ↓RunC_block, ↓RunR_done, ↓RunR_op, ↓RunR_opg, ↓RunR_snap, ↓RunR_chk, Holds, Option.getD_none, Option.getD_some, guardR_true, guardR_false, wantV_bool, wantV_none, callvQ_eq, afterR_some, ↓seqQ_normal, ↓seqQ_ret, ↓seqQ_exit, ↓blockQ_normal, ↓blockQ_ret, ↓blockQ_exit, ↓retQ_ret, ↓retQ_normal, ↓callQ_eq, ↓loopQ_normal, ↓loopQ_ret, ↓loopQ_exit, ↓upd_same, upd_at, sel_t, sel_f, initE_at, obj_upd_same, obj_upd_ne, obj_new_same, obj_updnew_same, obj_updnew_same2, obj_new2_same, obj_new3_same, obj_newupd_same, obj_new_ne, obj_new_ne2, obj_new_ne3, obj_new_ne4, next_upd, next_new, add_plain, cop, bin, binInt, un, shiftInt, flat, read_cells, src_ro, src_fix, src_grow, get_cells, List.getElem?_cons_zero, List.getElem?_cons_succ, write_fix, write_grow, setAt, bound, eqK, elemOk_ro, elemOk_fix, elemOk_grow, stiff_ro, stiff_fix, goInt, resultsV, resV, resL, finQ_some, Option.map_some, Option.map_none, Option.bind_some, Option.bind_none, List.map_cons, List.map_nil, List.getD_cons_zero, List.getD_cons_succ, List.getD_nil, Nat.reduceEqDiff, Nat.reduceAdd, Nat.reduceMul, Nat.reduceSub, Nat.reduceLT, Nat.reduceLeDiff, Nat.reduceBEq, if_true, if_false, ite_true, ite_false, List.length_cons, List.length_nil, Nat.zero_add, Nat.add_zero, List.drop_zero, List.drop_succ_cons, List.take_succ_cons, List.take_zero, List.set_cons_zero, List.set_cons_succ, Int.reduceLT, Int.reduceLE, Bool.not_true, Bool.not_false, Option.isNone_some, Option.isNone_none, decide_true, decide_false, beq_self_eq_true, Bool.false_eq_true, Bool.true_eq_false, if_pos, if_neg, reduceCtorEq, beq_iff_eq, BEq.rfl, wrap_i64, wrap_i32, wrap_i8, wrap_u8, wrap_u32, wrap_u64, Nat.mul_one, Int.toNat_natCast, ints_len, List.length_map, List.length_set, beq_ft, beq_tf, List.all_cons, List.all_nil, scalar, Bool.and_self, Bool.true_and, Bool.and_true, List.size_toArray, List.getElem?_toArray, binStr, fillIn, true_and, and_true, true_or, or_true, bne_self_eq_false, Int.reduceToNat, Int.reduceAdd, Int.reduceSub, Int.reduceMul]
  exact hQ _ o
def countAt (r : RP) (st : List Int) (cs : Nat → List Int) (row : Int) (key : ByteArray) (n : Int) : Int := if alive r st n then (if 0 ≤ row ∧ row < r.rows.length then ctr (cs (pl r n)) (ix r.rows r.w key row.toNat) else 0) else 0
def massN (r : RP) (st : List Int) (cs : Nat → List Int) (row : Int) (key : ByteArray) (n : Int) : Nat → Int
  | 0 => 0
  | k + 1 => near (massN r st cs row key n k + countAt r st cs row key (n - r.N + 1 + k))
theorem ofCount_ok (R : RingAt h r now st cs) (n : Int) (row : Int) (key : ByteArray) (hs : key.size ≤ 140737488355328) {Q : Value → Heap → Prop} (hQ : ∀ h', Old h h' → Q (.int .i64 (countAt r st cs row key n)) h') :
    CALL cp 33 [if alive r st n then .pointer (some ⟨r.ps (pl r n), 0, none⟩) else .pointer none, .int .i64 row, .string key] h Q := by
  unfold countAt at hQ
  by_cases c : alive r st n
  · rw [if_pos c]
    rw [if_pos c] at hQ
    exact count_ok (R.sl _ (pl_lt R n)) key hs row hQ
  · rw [if_neg c]
    rw [if_neg c] at hQ
    exact (count_nil h key row Q).2 (hQ h (Old.refl h))
theorem countAt_in (R : RingAt h r now st cs) (row : Int) (key : ByteArray) (n : Int) : I64 (countAt r st cs row key n) := by
  unfold countAt
  split
  · split
    · rename_i hr
      have S := R.sl _ (pl_lt R n)
      exact (S.get (S.ix_lt key (show row.toNat < r.rows.length by omega))).2
    · unfold I64; omega
  · unfold I64; omega
theorem massN_in (r : RP) (st : List Int) (cs : Nat → List Int) (row : Int) (key : ByteArray) (n : Int) (k : Nat) : I64 (massN r st cs row key n k) := by
  cases k with
  | zero => exact (by unfold massN I64; omega)
  | succ k => exact near_in _
theorem mass_ok (R : RingAt h r now st cs) (hnow : 0 ≤ now ∧ now ≤ 9223372036854770000) (row : Int) (key : ByteArray) (hs : key.size ≤ 140737488355328) {Q : Value → Heap → Prop}
    (hQ : ∀ h', Old h h' → Q (.int .i64 (massN r st cs row key (now / r.W) r.N)) h') : CALL cp 21 [.pointer (some ⟨r.x, 0, none⟩), .int .i64 row, .string key] h Q := by
  rw [CALL_enter cp cp21]
  have ox := R.ox
  have hW := R.hW
  have hN := R.hN
  have fn := fun Q => number_ok R now (by omega) Q
  obtain ⟨n, hn⟩ : ∃ n, n = now / r.W := ⟨_, rfl⟩
  have q0 : 0 ≤ n := by rw [hn]; exact Int.ediv_nonneg hnow.1 (by omega)
  have q1 : n ≤ now := by rw [hn]; exact Int.ediv_le_self r.W hnow.1
  rw [← hn] at fn hQ
  simp (disch := omega) only [c21, ↓c21_r0_run, ↓c21_r1_run, ↓c21_r2_run, ↓c21_r3_run, ↓c21_r4_run, ↓c21_r5_run, ↓c21_r7_run, ↓c21_r6_run, ↓c21_r8_run, ox, eqS, fn, ↓RunC_seq, ↓RunC_skip, ↓RunC_ret, ↓RunC_exit, ↓RunC_region, ↓RunC_condQ, condQ_true, condQ_false, ↓RunC_block, ↓RunR_done, ↓RunR_op, ↓RunR_opg, ↓RunR_snap, ↓RunR_chk, Holds, Option.getD_none, Option.getD_some, guardR_true, guardR_false, wantV_bool, wantV_none, callvQ_eq, afterR_some, ↓seqQ_normal, ↓seqQ_ret, ↓seqQ_exit, ↓blockQ_normal, ↓blockQ_ret, ↓blockQ_exit, ↓retQ_ret, ↓retQ_normal, ↓callQ_eq, ↓loopQ_normal, ↓loopQ_ret, ↓loopQ_exit, ↓upd_same, upd_at, sel_t, sel_f, initE_at, obj_upd_same, obj_upd_ne, obj_new_same, obj_updnew_same, obj_updnew_same2, obj_new2_same, obj_new3_same, obj_newupd_same, obj_new_ne, obj_new_ne2, obj_new_ne3, obj_new_ne4, next_upd, next_new, add_plain, cop, bin, binInt, un, shiftInt, flat, read_cells, src_ro, src_fix, src_grow, get_cells, List.getElem?_cons_zero, List.getElem?_cons_succ, write_fix, write_grow, setAt, bound, eqK, elemOk_ro, elemOk_fix, elemOk_grow, stiff_ro, stiff_fix, goInt, resultsV, resV, resL, finQ_some, Option.map_some, Option.map_none, Option.bind_some, Option.bind_none, List.map_cons, List.map_nil, List.getD_cons_zero, List.getD_cons_succ, List.getD_nil, Nat.reduceEqDiff, Nat.reduceAdd, Nat.reduceMul, Nat.reduceSub, Nat.reduceLT, Nat.reduceLeDiff, Nat.reduceBEq, if_true, if_false, ite_true, ite_false, List.length_cons, List.length_nil, Nat.zero_add, Nat.add_zero, List.drop_zero, List.drop_succ_cons, List.take_succ_cons, List.take_zero, List.set_cons_zero, List.set_cons_succ, Int.reduceLT, Int.reduceLE, Bool.not_true, Bool.not_false, Option.isNone_some, Option.isNone_none, decide_true, decide_false, beq_self_eq_true, Bool.false_eq_true, Bool.true_eq_false, if_pos, if_neg, reduceCtorEq, beq_iff_eq, BEq.rfl, wrap_i64, wrap_i32, wrap_i8, wrap_u8, wrap_u32, wrap_u64, Nat.mul_one, Int.toNat_natCast, ints_len, List.length_map, List.length_set, beq_ft, beq_tf, List.all_cons, List.all_nil, scalar, Bool.and_self, Bool.true_and, Bool.and_true, List.size_toArray, List.getElem?_toArray, binStr, fillIn, true_and, and_true, true_or, or_true, bne_self_eq_false, Int.reduceToNat, Int.reduceAdd, Int.reduceSub, Int.reduceMul]
  refine RunC_loop cp c21_l0 _ (fun d e hh => ∃ k : Nat, k + d = r.N ∧ Old h hh ∧ e 0 = .pointer (some ⟨r.x, 0, none⟩) ∧ e 1 = .int .i64 row ∧ e 2 = .string key ∧ e 7 = .int .i64 n ∧ e 8 = .int .i64 (massN r st cs row key n k) ∧ e 9 = .int .i64 (n - r.N + 1 + k)) ?_ r.N _ _
    ⟨0, by omega, Old.refl _, rfl, rfl, rfl, rfl, rfl, by show Value.int .i64 _ = _; congr 1; omega⟩
  rintro d e hh ⟨k, hk, o, e0, e1, e2, e7, e8, e9⟩
  have R1 := R.old o
  by_cases c : k < r.N
  · have b1 : decide (n - r.N + 1 + k ≤ n) = true := decide_eq_true (by omega)
    have f := fun Q => of_ok R1 (n - r.N + 1 + k) (by omega) Q
    have nx : n - r.N + 1 + k + 1 = n - r.N + 1 + ((k + 1 : Nat) : Int) := by omega
    have fs := fun h => sum_ok h (massN r st cs row key n k) (countAt r st cs row key (n - r.N + 1 + k)) (massN_in r st cs row key n k) (countAt_in R row key _)
    simp (disch := omega) only [c21_l0, c21, ↓c21_r0_run, ↓c21_r1_run, ↓c21_r2_run, ↓c21_r3_run, ↓c21_r4_run, ↓c21_r5_run, ↓c21_r7_run, ↓c21_r6_run, ↓c21_r8_run, e0, e1, e2, e7, e8, e9, b1, f, ↓RunC_seq, ↓RunC_skip, ↓RunC_ret, ↓RunC_exit, ↓RunC_region, ↓RunC_condQ, condQ_true, condQ_false, ↓RunC_block, ↓RunR_done, ↓RunR_op, ↓RunR_opg, ↓RunR_snap, ↓RunR_chk, Holds, Option.getD_none, Option.getD_some, guardR_true, guardR_false, wantV_bool, wantV_none, callvQ_eq, afterR_some, ↓seqQ_normal, ↓seqQ_ret, ↓seqQ_exit, ↓blockQ_normal, ↓blockQ_ret, ↓blockQ_exit, ↓retQ_ret, ↓retQ_normal, ↓callQ_eq, ↓loopQ_normal, ↓loopQ_ret, ↓loopQ_exit, ↓upd_same, upd_at, sel_t, sel_f, initE_at, obj_upd_same, obj_upd_ne, obj_new_same, obj_updnew_same, obj_updnew_same2, obj_new2_same, obj_new3_same, obj_newupd_same, obj_new_ne, obj_new_ne2, obj_new_ne3, obj_new_ne4, next_upd, next_new, add_plain, cop, bin, binInt, un, shiftInt, flat, read_cells, src_ro, src_fix, src_grow, get_cells, List.getElem?_cons_zero, List.getElem?_cons_succ, write_fix, write_grow, setAt, bound, eqK, elemOk_ro, elemOk_fix, elemOk_grow, stiff_ro, stiff_fix, goInt, resultsV, resV, resL, finQ_some, Option.map_some, Option.map_none, Option.bind_some, Option.bind_none, List.map_cons, List.map_nil, List.getD_cons_zero, List.getD_cons_succ, List.getD_nil, Nat.reduceEqDiff, Nat.reduceAdd, Nat.reduceMul, Nat.reduceSub, Nat.reduceLT, Nat.reduceLeDiff, Nat.reduceBEq, if_true, if_false, ite_true, ite_false, List.length_cons, List.length_nil, Nat.zero_add, Nat.add_zero, List.drop_zero, List.drop_succ_cons, List.take_succ_cons, List.take_zero, List.set_cons_zero, List.set_cons_succ, Int.reduceLT, Int.reduceLE, Bool.not_true, Bool.not_false, Option.isNone_some, Option.isNone_none, decide_true, decide_false, beq_self_eq_true, Bool.false_eq_true, Bool.true_eq_false, if_pos, if_neg, reduceCtorEq, beq_iff_eq, BEq.rfl, wrap_i64, wrap_i32, wrap_i8, wrap_u8, wrap_u32, wrap_u64, Nat.mul_one, Int.toNat_natCast, ints_len, List.length_map, List.length_set, beq_ft, beq_tf, List.all_cons, List.all_nil, scalar, Bool.and_self, Bool.true_and, Bool.and_true, List.size_toArray, List.getElem?_toArray, binStr, fillIn, true_and, and_true, true_or, or_true, bne_self_eq_false, Int.reduceToNat, Int.reduceAdd, Int.reduceSub, Int.reduceMul]
    refine ofCount_ok R1 _ row key hs fun h2 o2 => ?_
    simp (disch := omega) only [c21, ↓c21_r0_run, ↓c21_r1_run, ↓c21_r2_run, ↓c21_r3_run, ↓c21_r4_run, ↓c21_r5_run, ↓c21_r7_run, ↓c21_r6_run, ↓c21_r8_run, e0, e1, e2, e7, e8, e9, fs, nx, ↓RunC_seq, ↓RunC_skip, ↓RunC_ret, ↓RunC_exit, ↓RunC_region, ↓RunC_condQ, condQ_true, condQ_false, ↓RunC_block, ↓RunR_done, ↓RunR_op, ↓RunR_opg, ↓RunR_snap, ↓RunR_chk, Holds, Option.getD_none, Option.getD_some, guardR_true, guardR_false, wantV_bool, wantV_none, callvQ_eq, afterR_some, ↓seqQ_normal, ↓seqQ_ret, ↓seqQ_exit, ↓blockQ_normal, ↓blockQ_ret, ↓blockQ_exit, ↓retQ_ret, ↓retQ_normal, ↓callQ_eq, ↓loopQ_normal, ↓loopQ_ret, ↓loopQ_exit, ↓upd_same, upd_at, sel_t, sel_f, initE_at, obj_upd_same, obj_upd_ne, obj_new_same, obj_updnew_same, obj_updnew_same2, obj_new2_same, obj_new3_same, obj_newupd_same, obj_new_ne, obj_new_ne2, obj_new_ne3, obj_new_ne4, next_upd, next_new, add_plain, cop, bin, binInt, un, shiftInt, flat, read_cells, src_ro, src_fix, src_grow, get_cells, List.getElem?_cons_zero, List.getElem?_cons_succ, write_fix, write_grow, setAt, bound, eqK, elemOk_ro, elemOk_fix, elemOk_grow, stiff_ro, stiff_fix, goInt, resultsV, resV, resL, finQ_some, Option.map_some, Option.map_none, Option.bind_some, Option.bind_none, List.map_cons, List.map_nil, List.getD_cons_zero, List.getD_cons_succ, List.getD_nil, Nat.reduceEqDiff, Nat.reduceAdd, Nat.reduceMul, Nat.reduceSub, Nat.reduceLT, Nat.reduceLeDiff, Nat.reduceBEq, if_true, if_false, ite_true, ite_false, List.length_cons, List.length_nil, Nat.zero_add, Nat.add_zero, List.drop_zero, List.drop_succ_cons, List.take_succ_cons, List.take_zero, List.set_cons_zero, List.set_cons_succ, Int.reduceLT, Int.reduceLE, Bool.not_true, Bool.not_false, Option.isNone_some, Option.isNone_none, decide_true, decide_false, beq_self_eq_true, Bool.false_eq_true, Bool.true_eq_false, if_pos, if_neg, reduceCtorEq, beq_iff_eq, BEq.rfl, wrap_i64, wrap_i32, wrap_i8, wrap_u8, wrap_u32, wrap_u64, Nat.mul_one, Int.toNat_natCast, ints_len, List.length_map, List.length_set, beq_ft, beq_tf, List.all_cons, List.all_nil, scalar, Bool.and_self, Bool.true_and, Bool.and_true, List.size_toArray, List.getElem?_toArray, binStr, fillIn, true_and, and_true, true_or, or_true, bne_self_eq_false, Int.reduceToNat, Int.reduceAdd, Int.reduceSub, Int.reduceMul]
    refine ⟨d - 1, by omega, k + 1, by omega, o.trans o2, ?_⟩
    repeat' first | assumption | rfl | apply And.intro
  · have b1 : decide (n - r.N + 1 + k ≤ n) = false := decide_eq_false (by omega)
    obtain rfl : k = r.N := by omega
    simp (disch := omega) only [c21_l0, c21, ↓c21_r0_run, ↓c21_r1_run, ↓c21_r2_run, ↓c21_r3_run, ↓c21_r4_run, ↓c21_r5_run, ↓c21_r7_run, ↓c21_r6_run, ↓c21_r8_run, e0, e1, e2, e7, e8, e9, b1, ↓RunC_seq, ↓RunC_skip, ↓RunC_ret, ↓RunC_exit, ↓RunC_region, ↓RunC_condQ, condQ_true, condQ_false, ↓RunC_block, ↓RunR_done, ↓RunR_op, ↓RunR_opg, ↓RunR_snap, ↓RunR_chk, Holds, Option.getD_none, Option.getD_some, guardR_true, guardR_false, wantV_bool, wantV_none, callvQ_eq, afterR_some, ↓seqQ_normal, ↓seqQ_ret, ↓seqQ_exit, ↓blockQ_normal, ↓blockQ_ret, ↓blockQ_exit, ↓retQ_ret, ↓retQ_normal, ↓callQ_eq, ↓loopQ_normal, ↓loopQ_ret, ↓loopQ_exit, ↓upd_same, upd_at, sel_t, sel_f, initE_at, obj_upd_same, obj_upd_ne, obj_new_same, obj_updnew_same, obj_updnew_same2, obj_new2_same, obj_new3_same, obj_newupd_same, obj_new_ne, obj_new_ne2, obj_new_ne3, obj_new_ne4, next_upd, next_new, add_plain, cop, bin, binInt, un, shiftInt, flat, read_cells, src_ro, src_fix, src_grow, get_cells, List.getElem?_cons_zero, List.getElem?_cons_succ, write_fix, write_grow, setAt, bound, eqK, elemOk_ro, elemOk_fix, elemOk_grow, stiff_ro, stiff_fix, goInt, resultsV, resV, resL, finQ_some, Option.map_some, Option.map_none, Option.bind_some, Option.bind_none, List.map_cons, List.map_nil, List.getD_cons_zero, List.getD_cons_succ, List.getD_nil, Nat.reduceEqDiff, Nat.reduceAdd, Nat.reduceMul, Nat.reduceSub, Nat.reduceLT, Nat.reduceLeDiff, Nat.reduceBEq, if_true, if_false, ite_true, ite_false, List.length_cons, List.length_nil, Nat.zero_add, Nat.add_zero, List.drop_zero, List.drop_succ_cons, List.take_succ_cons, List.take_zero, List.set_cons_zero, List.set_cons_succ, Int.reduceLT, Int.reduceLE, Bool.not_true, Bool.not_false, Option.isNone_some, Option.isNone_none, decide_true, decide_false, beq_self_eq_true, Bool.false_eq_true, Bool.true_eq_false, if_pos, if_neg, reduceCtorEq, beq_iff_eq, BEq.rfl, wrap_i64, wrap_i32, wrap_i8, wrap_u8, wrap_u32, wrap_u64, Nat.mul_one, Int.toNat_natCast, ints_len, List.length_map, List.length_set, beq_ft, beq_tf, List.all_cons, List.all_nil, scalar, Bool.and_self, Bool.true_and, Bool.and_true, List.size_toArray, List.getElem?_toArray, binStr, fillIn, true_and, and_true, true_or, or_true, bne_self_eq_false, Int.reduceToNat, Int.reduceAdd, Int.reduceSub, Int.reduceMul]
    exact hQ _ o
end
end Go.Proofs.Ytcmdehfbidgoeaa.Can
