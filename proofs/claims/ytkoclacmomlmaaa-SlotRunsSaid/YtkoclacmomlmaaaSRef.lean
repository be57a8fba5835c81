/- The document's own reckoning (quotients bit by bit, products bit by bit, its hash functions), in the canonical machine. No condition. -/
import Derived.Test.YtkoclacmomlmaaaSRows
namespace Go.Proofs.Ytkoclacmomlmaaa.Can
open Go
set_option linter.unusedSimpArgs false
set_option linter.unusedVariables false
attribute [local congr] RunR_congr RunC_congr afterR_congr guardR_congr condQ_congr CALL_congr finQ_congr op_congr opg_congr

theorem bit_up (b i : Nat) : b / 2 ^ i = 2 * (b / 2 ^ (i + 1)) + b / 2 ^ i % 2 := by
  rw [Nat.pow_succ, ← Nat.div_div_eq_div_mul]; omega
theorem shr_nat (y k : Nat) (hk : k ≤ 64) : ((y : Nat) : Int).fdiv (2 ^ (min k IntKind.u64.bits)) = ((y / 2 ^ k : Nat) : Int) := by
  rw [shr_k .u64 _ k hk, Int.natCast_ediv, Int.natCast_pow]; rfl
theorem bit_and (y : Nat) : IntKind.u64.wrap ((BitVec.ofInt IntKind.u64.bits ((y : Nat) : Int) &&& BitVec.ofInt IntKind.u64.bits 1).toNat : Int) = ((y % 2 : Nat) : Int) := by
  rw [and_u64 1 (by decide) _ 1 (by decide), show (2 : Int) ^ 1 = 2 from rfl]; rfl
theorem rmul_ok (h : Heap) (a b : Nat) (ha : a < 2305843009213693952) (hb : b < 2305843009213693952) (Q : Value → Heap → Prop) : CALL cp 39 [.int .u64 a, .int .u64 b] h Q ↔ Q (.int .u64 ((a * b % 2305843009213693951 : Nat) : Int)) h := by
  refine CALL_det ?_ Q
  rw [CALL_enter cp cp39]
  simp (disch := omega) only [c39, ↓c39_r0_run, ↓c39_r1_run, ↓c39_r2_run, ↓c39_r3_run, ↓c39_r5_run, ↓c39_r6_run, ↓c39_r7_run, ↓c39_r4_run, ↓c39_r8_run, ↓RunC_seq, ↓RunC_skip, ↓RunC_ret, ↓RunC_exit, ↓RunC_region, ↓RunC_condQ, condQ_true, condQ_false, ↓RunC_block, ↓RunR_done, ↓RunR_op, ↓RunR_opg, ↓RunR_snap, ↓RunR_chk, Holds, Option.getD_none, Option.getD_some, guardR_true, guardR_false, wantV_bool, wantV_none, callvQ_eq, afterR_some, ↓seqQ_normal, ↓seqQ_ret, ↓seqQ_exit, ↓blockQ_normal, ↓blockQ_ret, ↓blockQ_exit, ↓retQ_ret, ↓retQ_normal, ↓callQ_eq, ↓loopQ_normal, ↓loopQ_ret, ↓loopQ_exit, ↓upd_same, upd_at, sel_t, sel_f, initE_at, obj_upd_same, obj_upd_ne, obj_new_same, obj_updnew_same, obj_updnew_same2, obj_new2_same, obj_new3_same, obj_newupd_same, obj_new_ne, obj_new_ne2, obj_new_ne3, obj_new_ne4, next_upd, next_new, add_plain, cop, bin, binInt, un, shiftInt, flat, read_cells, src_ro, src_fix, src_grow, get_cells, List.getElem?_cons_zero, List.getElem?_cons_succ, write_fix, write_grow, setAt, bound, eqK, elemOk_ro, elemOk_fix, elemOk_grow, stiff_ro, stiff_fix, goInt, resultsV, resV, resL, finQ_some, Option.map_some, Option.map_none, Option.bind_some, Option.bind_none, List.map_cons, List.map_nil, List.getD_cons_zero, List.getD_cons_succ, List.getD_nil, Nat.reduceEqDiff, Nat.reduceAdd, Nat.reduceMul, Nat.reduceSub, Nat.reduceLT, Nat.reduceLeDiff, Nat.reduceBEq, if_true, if_false, ite_true, ite_false, List.length_cons, List.length_nil, Nat.zero_add, Nat.add_zero, List.drop_zero, List.drop_succ_cons, List.take_succ_cons, List.take_zero, List.set_cons_zero, List.set_cons_succ, Int.reduceLT, Int.reduceLE, Bool.not_true, Bool.not_false, Option.isNone_some, Option.isNone_none, decide_true, decide_false, beq_self_eq_true, Bool.false_eq_true, Bool.true_eq_false, if_pos, if_neg, reduceCtorEq, beq_iff_eq, BEq.rfl, wrap_i64, wrap_i32, wrap_i8, wrap_u8, wrap_u32, wrap_u64, Nat.mul_one, Int.toNat_natCast, ints_len, List.length_map, List.length_set, beq_ft, beq_tf, List.all_cons, List.all_nil, scalar, Bool.and_self, Bool.true_and, Bool.and_true, List.size_toArray, List.getElem?_toArray, binStr, fillIn, true_and, and_true, true_or, or_true, bne_self_eq_false, Int.reduceToNat, Int.reduceAdd, Int.reduceSub, Int.reduceMul]
  refine RunC_loop cp c39_l0 _ (fun d e hh => hh = h ∧ d ≤ 61 ∧ e 0 = .int .u64 a ∧ e 1 = .int .u64 b ∧ e 5 = .int .u64 ((a * (b / 2 ^ d) % 2305843009213693951 : Nat) : Int) ∧ e 6 = .int .i64 ((d : Int) - 1)) ?_ 61 _ _
    ⟨rfl, Nat.le_refl _, rfl, rfl, by rw [Nat.div_eq_of_lt (show b < 2 ^ 61 by omega)]; rfl, rfl⟩
  rintro d e hh ⟨rfl, hd, e0, e1, e5, e6⟩
  cases d with
  | zero =>
    have b1 : decide (((0 : Nat) : Int) - 1 ≥ 0) = false := rfl
    rw [Nat.pow_zero, Nat.div_one] at e5
    simp (disch := omega) only [c39_l0, c39, ↓c39_r0_run, ↓c39_r1_run, ↓c39_r2_run, ↓c39_r3_run, ↓c39_r5_run, ↓c39_r6_run, ↓c39_r7_run, ↓c39_r4_run, ↓c39_r8_run, e0, e1, e5, e6, b1, ↓RunC_seq, ↓RunC_skip, ↓RunC_ret, ↓RunC_exit, ↓RunC_region, ↓RunC_condQ, condQ_true, condQ_false, ↓RunC_block, ↓RunR_done, ↓RunR_op, ↓RunR_opg, ↓RunR_snap, ↓RunR_chk, Holds, Option.getD_none, Option.getD_some, guardR_true, guardR_false, wantV_bool, wantV_none, callvQ_eq, afterR_some, ↓seqQ_normal, ↓seqQ_ret, ↓seqQ_exit, ↓blockQ_normal, ↓blockQ_ret, ↓blockQ_exit, ↓retQ_ret, ↓retQ_normal, ↓callQ_eq, ↓loopQ_normal, ↓loopQ_ret, ↓loopQ_exit, ↓upd_same, upd_at, sel_t, sel_f, initE_at, obj_upd_same, obj_upd_ne, obj_new_same, obj_updnew_same, obj_updnew_same2, obj_new2_same, obj_new3_same, obj_newupd_same, obj_new_ne, obj_new_ne2, obj_new_ne3, obj_new_ne4, next_upd, next_new, add_plain, cop, bin, binInt, un, shiftInt, flat, read_cells, src_ro, src_fix, src_grow, get_cells, List.getElem?_cons_zero, List.getElem?_cons_succ, write_fix, write_grow, setAt, bound, eqK, elemOk_ro, elemOk_fix, elemOk_grow, stiff_ro, stiff_fix, goInt, resultsV, resV, resL, finQ_some, Option.map_some, Option.map_none, Option.bind_some, Option.bind_none, List.map_cons, List.map_nil, List.getD_cons_zero, List.getD_cons_succ, List.getD_nil, Nat.reduceEqDiff, Nat.reduceAdd, Nat.reduceMul, Nat.reduceSub, Nat.reduceLT, Nat.reduceLeDiff, Nat.reduceBEq, if_true, if_false, ite_true, ite_false, List.length_cons, List.length_nil, Nat.zero_add, Nat.add_zero, List.drop_zero, List.drop_succ_cons, List.take_succ_cons, List.take_zero, List.set_cons_zero, List.set_cons_succ, Int.reduceLT, Int.reduceLE, Bool.not_true, Bool.not_false, Option.isNone_some, Option.isNone_none, decide_true, decide_false, beq_self_eq_true, Bool.false_eq_true, Bool.true_eq_false, if_pos, if_neg, reduceCtorEq, beq_iff_eq, BEq.rfl, wrap_i64, wrap_i32, wrap_i8, wrap_u8, wrap_u32, wrap_u64, Nat.mul_one, Int.toNat_natCast, ints_len, List.length_map, List.length_set, beq_ft, beq_tf, List.all_cons, List.all_nil, scalar, Bool.and_self, Bool.true_and, Bool.and_true, List.size_toArray, List.getElem?_toArray, binStr, fillIn, true_and, and_true, true_or, or_true, bne_self_eq_false, Int.reduceToNat, Int.reduceAdd, Int.reduceSub, Int.reduceMul]
  | succ i =>
    have b1 : decide (((i + 1 : Nat) : Int) - 1 ≥ 0) = true := decide_eq_true (by omega)
    have ki : ((i + 1 : Nat) : Int) - 1 = (i : Int) := by omega
    rw [ki] at e6 b1
    obtain ⟨o, ho⟩ : ∃ o, o = a * (b / 2 ^ (i + 1)) % 2305843009213693951 := ⟨_, rfl⟩
    have hol : o < 2305843009213693951 := by rw [ho]; exact Nat.mod_lt _ (by decide)
    have hub := bit_up b i
    obtain ⟨B, hB⟩ : ∃ B, B = b / 2 ^ (i + 1) := ⟨_, rfl⟩
    rw [← hB] at ho hub e5
    rw [← ho] at e5
    have t1 : Int.tmod ((o : Int) * 2) 2305843009213693951 = ((o * 2 % 2305843009213693951 : Nat) : Int) := by rw [tmod_nn _ _ (by omega)]; omega
    have t2 : Int.tmod (((o * 2 % 2305843009213693951 : Nat) : Int) + (a : Int)) 2305843009213693951 = (((o * 2 % 2305843009213693951 + a) % 2305843009213693951 : Nat) : Int) := by rw [tmod_nn _ _ (by omega)]; omega
    have sh := shr_nat b i (by omega)
    have hol2 : o * 2 % 2305843009213693951 < 2305843009213693951 := Nat.mod_lt _ (by decide)
    have hexp : a * (2 * B) = a * B * 2 := by rw [Nat.mul_left_comm, Nat.mul_comm]
    by_cases cb : b / 2 ^ i % 2 = 1
    · have b2 : (((b / 2 ^ i % 2 : Nat) : Int) == 1) = true := by rw [cb]; rfl
      have fin : (o * 2 % 2305843009213693951 + a) % 2305843009213693951 = a * (b / 2 ^ i) % 2305843009213693951 := by
        rw [hub, cb, Nat.mul_add, Nat.mul_one, hexp]
        generalize a * B = Y at *
        omega
      rw [fin] at t2
      simp (disch := omega) only [c39_l0, c39, ↓c39_r0_run, ↓c39_r1_run, ↓c39_r2_run, ↓c39_r3_run, ↓c39_r5_run, ↓c39_r6_run, ↓c39_r7_run, ↓c39_r4_run, ↓c39_r8_run, e0, e1, e5, e6, b1, t1, t2, sh, bit_and, b2, ↓RunC_seq, ↓RunC_skip, ↓RunC_ret, ↓RunC_exit, ↓RunC_region, ↓RunC_condQ, condQ_true, condQ_false, ↓RunC_block, ↓RunR_done, ↓RunR_op, ↓RunR_opg, ↓RunR_snap, ↓RunR_chk, Holds, Option.getD_none, Option.getD_some, guardR_true, guardR_false, wantV_bool, wantV_none, callvQ_eq, afterR_some, ↓seqQ_normal, ↓seqQ_ret, ↓seqQ_exit, ↓blockQ_normal, ↓blockQ_ret, ↓blockQ_exit, ↓retQ_ret, ↓retQ_normal, ↓callQ_eq, ↓loopQ_normal, ↓loopQ_ret, ↓loopQ_exit, ↓upd_same, upd_at, sel_t, sel_f, initE_at, obj_upd_same, obj_upd_ne, obj_new_same, obj_updnew_same, obj_updnew_same2, obj_new2_same, obj_new3_same, obj_newupd_same, obj_new_ne, obj_new_ne2, obj_new_ne3, obj_new_ne4, next_upd, next_new, add_plain, cop, bin, binInt, un, shiftInt, flat, read_cells, src_ro, src_fix, src_grow, get_cells, List.getElem?_cons_zero, List.getElem?_cons_succ, write_fix, write_grow, setAt, bound, eqK, elemOk_ro, elemOk_fix, elemOk_grow, stiff_ro, stiff_fix, goInt, resultsV, resV, resL, finQ_some, Option.map_some, Option.map_none, Option.bind_some, Option.bind_none, List.map_cons, List.map_nil, List.getD_cons_zero, List.getD_cons_succ, List.getD_nil, Nat.reduceEqDiff, Nat.reduceAdd, Nat.reduceMul, Nat.reduceSub, Nat.reduceLT, Nat.reduceLeDiff, Nat.reduceBEq, if_true, if_false, ite_true, ite_false, List.length_cons, List.length_nil, Nat.zero_add, Nat.add_zero, List.drop_zero, List.drop_succ_cons, List.take_succ_cons, List.take_zero, List.set_cons_zero, List.set_cons_succ, Int.reduceLT, Int.reduceLE, Bool.not_true, Bool.not_false, Option.isNone_some, Option.isNone_none, decide_true, decide_false, beq_self_eq_true, Bool.false_eq_true, Bool.true_eq_false, if_pos, if_neg, reduceCtorEq, beq_iff_eq, BEq.rfl, wrap_i64, wrap_i32, wrap_i8, wrap_u8, wrap_u32, wrap_u64, Nat.mul_one, Int.toNat_natCast, ints_len, List.length_map, List.length_set, beq_ft, beq_tf, List.all_cons, List.all_nil, scalar, Bool.and_self, Bool.true_and, Bool.and_true, List.size_toArray, List.getElem?_toArray, binStr, fillIn, true_and, and_true, true_or, or_true, bne_self_eq_false, Int.reduceToNat, Int.reduceAdd, Int.reduceSub, Int.reduceMul]
      refine ⟨i, by omega, by omega, ?_⟩
      repeat' first | assumption | rfl | apply And.intro
    · have b2 : (((b / 2 ^ i % 2 : Nat) : Int) == 1) = false := beq_eq_false_iff_ne.2 (by omega)
      have fin : o * 2 % 2305843009213693951 = a * (b / 2 ^ i) % 2305843009213693951 := by
        rw [hub, show b / 2 ^ i % 2 = 0 by omega, Nat.add_zero, hexp]
        generalize a * B = Y at *
        omega
      rw [fin] at t1
      simp (disch := omega) only [c39_l0, c39, ↓c39_r0_run, ↓c39_r1_run, ↓c39_r2_run, ↓c39_r3_run, ↓c39_r5_run, ↓c39_r6_run, ↓c39_r7_run, ↓c39_r4_run, ↓c39_r8_run, e0, e1, e5, e6, b1, t1, sh, bit_and, b2, ↓RunC_seq, ↓RunC_skip, ↓RunC_ret, ↓RunC_exit, ↓RunC_region, ↓RunC_condQ, condQ_true, condQ_false, ↓RunC_block, ↓RunR_done, ↓RunR_op, ↓RunR_opg, ↓RunR_snap, ↓RunR_chk, Holds, Option.getD_none, Option.getD_some, guardR_true, guardR_false, wantV_bool, wantV_none, callvQ_eq, afterR_some, ↓seqQ_normal, ↓seqQ_ret, ↓seqQ_exit, ↓blockQ_normal, ↓blockQ_ret, ↓blockQ_exit, ↓retQ_ret, ↓retQ_normal, ↓callQ_eq, ↓loopQ_normal, ↓loopQ_ret, ↓loopQ_exit, ↓upd_same, upd_at, sel_t, sel_f, initE_at, obj_upd_same, obj_upd_ne, obj_new_same, obj_updnew_same, obj_updnew_same2, obj_new2_same, obj_new3_same, obj_newupd_same, obj_new_ne, obj_new_ne2, obj_new_ne3, obj_new_ne4, next_upd, next_new, add_plain, cop, bin, binInt, un, shiftInt, flat, read_cells, src_ro, src_fix, src_grow, get_cells, List.getElem?_cons_zero, List.getElem?_cons_succ, write_fix, write_grow, setAt, bound, eqK, elemOk_ro, elemOk_fix, elemOk_grow, stiff_ro, stiff_fix, goInt, resultsV, resV, resL, finQ_some, Option.map_some, Option.map_none, Option.bind_some, Option.bind_none, List.map_cons, List.map_nil, List.getD_cons_zero, List.getD_cons_succ, List.getD_nil, Nat.reduceEqDiff, Nat.reduceAdd, Nat.reduceMul, Nat.reduceSub, Nat.reduceLT, Nat.reduceLeDiff, Nat.reduceBEq, if_true, if_false, ite_true, ite_false, List.length_cons, List.length_nil, Nat.zero_add, Nat.add_zero, List.drop_zero, List.drop_succ_cons, List.take_succ_cons, List.take_zero, List.set_cons_zero, List.set_cons_succ, Int.reduceLT, Int.reduceLE, Bool.not_true, Bool.not_false, Option.isNone_some, Option.isNone_none, decide_true, decide_false, beq_self_eq_true, Bool.false_eq_true, Bool.true_eq_false, if_pos, if_neg, reduceCtorEq, beq_iff_eq, BEq.rfl, wrap_i64, wrap_i32, wrap_i8, wrap_u8, wrap_u32, wrap_u64, Nat.mul_one, Int.toNat_natCast, ints_len, List.length_map, List.length_set, beq_ft, beq_tf, List.all_cons, List.all_nil, scalar, Bool.and_self, Bool.true_and, Bool.and_true, List.size_toArray, List.getElem?_toArray, binStr, fillIn, true_and, and_true, true_or, or_true, bne_self_eq_false, Int.reduceToNat, Int.reduceAdd, Int.reduceSub, Int.reduceMul]
      refine ⟨i, by omega, by omega, ?_⟩
      repeat' first | assumption | rfl | apply And.intro
theorem wide_ok (h : Heap) (a b : Nat) (ha : a < 18446744073709551616) (hb : b < 18446744073709551616) (Q : Value → Heap → Prop) : CALL cp 42 [.int .u64 a, .int .u64 b] h Q ↔ Q (.tuple #[.int .u64 ((a * b / 18446744073709551616 : Nat) : Int), .int .u64 ((a * b % 18446744073709551616 : Nat) : Int)]) h := by
  refine CALL_det ?_ Q
  rw [CALL_enter cp cp42]
  have m1 := fun x : Int => and_u64 32 (by decide) x 4294967295 (by decide)
  have s1 := fun x : Int => shr_k .u64 x 32 (by decide)
  have l1 := fun x : Int => shl_k .u64 x 32 (by decide)
  have p32 : (2 : Int) ^ 32 = 4294967296 := by decide
  obtain ⟨p00, k00⟩ : ∃ p, ((a : Int) % 4294967296) * ((b : Int) % 4294967296) = p := ⟨_, rfl⟩
  obtain ⟨p01, k01⟩ : ∃ p, ((a : Int) % 4294967296) * ((b : Int) / 4294967296) = p := ⟨_, rfl⟩
  obtain ⟨p10, k10⟩ : ∃ p, ((a : Int) / 4294967296) * ((b : Int) % 4294967296) = p := ⟨_, rfl⟩
  obtain ⟨p11, k11⟩ : ∃ p, ((a : Int) / 4294967296) * ((b : Int) / 4294967296) = p := ⟨_, rfl⟩
  obtain ⟨e, h0, h1, h2, h3⟩ := upper a b p00 p01 p10 p11 (by omega) (by omega) (by omega) (by omega) k00.symm k01.symm k10.symm k11.symm
  have e : ((a * b : Nat) : Int) = p11 * 18446744073709551616 + (p10 + p01) * 4294967296 + p00 := by rw [Int.natCast_mul]; exact e
  obtain ⟨Z, hZ⟩ : ∃ Z, Z = p01 + (p10 + p00 / 4294967296) % 4294967296 := ⟨_, rfl⟩
  have wz : IntKind.u64.wrap (Z * 4294967296) = Z % 4294967296 * 4294967296 := by rw [wu64]; omega
  have eor : IntKind.u64.wrap ((BitVec.ofInt IntKind.u64.bits (Z % 4294967296 * 4294967296) ||| BitVec.ofInt IntKind.u64.bits (p00 % 4294967296)).toNat : Int) = Z % 4294967296 * 4294967296 + p00 % 4294967296 := by
    rw [or_u64 32 _ _ (by omega) (by rw [p32]; omega) (by omega) (by omega) (by rw [p32]; omega) (by omega)]
  simp (disch := omega) only [c42, ↓c42_r0_run, ↓c42_r1_run, ↓c42_r2_run, ↓c42_r3_run, ↓c42_r4_c1_run, ↓c42_r4_run, m1, s1, l1, p32, k00, k01, k10, k11, ← hZ, wz, eor, ↓RunC_seq, ↓RunC_skip, ↓RunC_ret, ↓RunC_exit, ↓RunC_region, ↓RunC_condQ, condQ_true, condQ_false, ↓RunC_block, ↓RunR_done, ↓RunR_op, ↓RunR_opg, ↓RunR_snap, ↓RunR_chk, Holds, Option.getD_none, Option.getD_some, guardR_true, guardR_false, wantV_bool, wantV_none, callvQ_eq, afterR_some, ↓seqQ_normal, ↓seqQ_ret, ↓seqQ_exit, ↓blockQ_normal, ↓blockQ_ret, ↓blockQ_exit, ↓retQ_ret, ↓retQ_normal, ↓callQ_eq, ↓loopQ_normal, ↓loopQ_ret, ↓loopQ_exit, ↓upd_same, upd_at, sel_t, sel_f, initE_at, obj_upd_same, obj_upd_ne, obj_new_same, obj_updnew_same, obj_updnew_same2, obj_new2_same, obj_new3_same, obj_newupd_same, obj_new_ne, obj_new_ne2, obj_new_ne3, obj_new_ne4, next_upd, next_new, add_plain, cop, bin, binInt, un, shiftInt, flat, read_cells, src_ro, src_fix, src_grow, get_cells, List.getElem?_cons_zero, List.getElem?_cons_succ, write_fix, write_grow, setAt, bound, eqK, elemOk_ro, elemOk_fix, elemOk_grow, stiff_ro, stiff_fix, goInt, resultsV, resV, resL, finQ_some, Option.map_some, Option.map_none, Option.bind_some, Option.bind_none, List.map_cons, List.map_nil, List.getD_cons_zero, List.getD_cons_succ, List.getD_nil, Nat.reduceEqDiff, Nat.reduceAdd, Nat.reduceMul, Nat.reduceSub, Nat.reduceLT, Nat.reduceLeDiff, Nat.reduceBEq, if_true, if_false, ite_true, ite_false, List.length_cons, List.length_nil, Nat.zero_add, Nat.add_zero, List.drop_zero, List.drop_succ_cons, List.take_succ_cons, List.take_zero, List.set_cons_zero, List.set_cons_succ, Int.reduceLT, Int.reduceLE, Bool.not_true, Bool.not_false, Option.isNone_some, Option.isNone_none, decide_true, decide_false, beq_self_eq_true, Bool.false_eq_true, Bool.true_eq_false, if_pos, if_neg, reduceCtorEq, beq_iff_eq, BEq.rfl, wrap_i64, wrap_i32, wrap_i8, wrap_u8, wrap_u32, wrap_u64, Nat.mul_one, Int.toNat_natCast, ints_len, List.length_map, List.length_set, beq_ft, beq_tf, List.all_cons, List.all_nil, scalar, Bool.and_self, Bool.true_and, Bool.and_true, List.size_toArray, List.getElem?_toArray, binStr, fillIn, true_and, and_true, true_or, or_true, bne_self_eq_false, Int.reduceToNat, Int.reduceAdd, Int.reduceSub, Int.reduceMul]
  have r1 : p11 + (p10 + p00 / 4294967296) / 4294967296 + Z / 4294967296 = ((a * b / 18446744073709551616 : Nat) : Int) := by
    rw [Int.natCast_ediv, e]; omega
  have r2 : Z % 4294967296 * 4294967296 + p00 % 4294967296 = ((a * b % 18446744073709551616 : Nat) : Int) := by
    rw [Int.natCast_emod, e]; omega
  rw [r1, r2]
theorem low_bit (n i : Nat) (hi : i < 64) : n % 18446744073709551616 / 2 ^ i % 2 = n / 2 ^ i % 2 := by
  rw [← Nat.toNat_testBit, ← Nat.toNat_testBit, show 18446744073709551616 = 2 ^ 64 from rfl, Nat.testBit_mod_two_pow, decide_eq_true hi, Bool.true_and]
theorem step_div (X c b q r : Nat) (hc : 0 < c) (hq : q = X / c) (hr : r = X % c) : (2 * r + b < c → (2 * X + b) / c = 2 * q ∧ (2 * X + b) % c = 2 * r + b) ∧ (c ≤ 2 * r + b → b ≤ 1 → (2 * X + b) / c = 2 * q + 1 ∧ (2 * X + b) % c = 2 * r + b - c) := by
  have h1 := Nat.div_add_mod X c
  have h2 := Nat.mod_lt X hc
  rw [← hq, ← hr] at h1
  rw [← hr] at h2
  have e2 : c * (2 * q) = 2 * (c * q) := by rw [Nat.mul_left_comm]
  constructor
  · intro h
    exact (Nat.div_mod_unique hc).2 ⟨by rw [e2]; omega, h⟩
  · intro h hb
    exact (Nat.div_mod_unique hc).2 ⟨by rw [Nat.mul_add, e2, Nat.mul_one]; omega, by omega⟩
set_option maxHeartbeats 1000000 in
theorem rdivide_ok (h : Heap) (a b c : Nat) (ha : a < 18446744073709551616) (hb : b < 18446744073709551616) (hc : c ≤ 9223372036854775808) (hf : a * b / 18446744073709551616 < c) (Q : Value → Heap → Prop) :
    CALL cp 38 [.int .u64 a, .int .u64 b, .int .u64 c] h Q ↔ Q (.tuple #[.int .u64 ((a * b / c : Nat) : Int), .int .u64 ((a * b % c : Nat) : Int), .bool true]) h := by
  refine CALL_det ?_ Q
  rw [CALL_enter cp cp38]
  have f := fun h => wide_ok h a b ha hb
  have c0 : 0 < c := by omega
  obtain ⟨N, hN⟩ : ∃ N, N = a * b := ⟨_, rfl⟩
  rw [← hN] at hf f ⊢
  have a1 : decide (((N / 18446744073709551616 : Nat) : Int) ≥ (c : Int)) = false := decide_eq_false (by omega)
  have hqN : N / c < 18446744073709551616 := by
    rw [Nat.div_lt_iff_lt_mul c0, Nat.mul_comm]
    rw [Nat.div_lt_iff_lt_mul (by decide)] at hf
    exact hf
  simp (disch := omega) only [c38, ↓c38_r0_run, ↓c38_r1_run, ↓c38_r2_run, ↓c38_r3_run, ↓c38_r4_run, ↓c38_r5_run, ↓c38_r6_run, ↓c38_r8_run, ↓c38_r9_run, ↓c38_r10_run, ↓c38_r11_run, ↓c38_r12_run, ↓c38_r13_run, ↓c38_r7_run, ↓c38_r14_run, f, a1, ↓RunC_seq, ↓RunC_skip, ↓RunC_ret, ↓RunC_exit, ↓RunC_region, ↓RunC_condQ, condQ_true, condQ_false, ↓RunC_block, ↓RunR_done, ↓RunR_op, ↓RunR_opg, ↓RunR_snap, ↓RunR_chk, Holds, Option.getD_none, Option.getD_some, guardR_true, guardR_false, wantV_bool, wantV_none, callvQ_eq, afterR_some, ↓seqQ_normal, ↓seqQ_ret, ↓seqQ_exit, ↓blockQ_normal, ↓blockQ_ret, ↓blockQ_exit, ↓retQ_ret, ↓retQ_normal, ↓callQ_eq, ↓loopQ_normal, ↓loopQ_ret, ↓loopQ_exit, ↓upd_same, upd_at, sel_t, sel_f, initE_at, obj_upd_same, obj_upd_ne, obj_new_same, obj_updnew_same, obj_updnew_same2, obj_new2_same, obj_new3_same, obj_newupd_same, obj_new_ne, obj_new_ne2, obj_new_ne3, obj_new_ne4, next_upd, next_new, add_plain, cop, bin, binInt, un, shiftInt, flat, read_cells, src_ro, src_fix, src_grow, get_cells, List.getElem?_cons_zero, List.getElem?_cons_succ, write_fix, write_grow, setAt, bound, eqK, elemOk_ro, elemOk_fix, elemOk_grow, stiff_ro, stiff_fix, goInt, resultsV, resV, resL, finQ_some, Option.map_some, Option.map_none, Option.bind_some, Option.bind_none, List.map_cons, List.map_nil, List.getD_cons_zero, List.getD_cons_succ, List.getD_nil, Nat.reduceEqDiff, Nat.reduceAdd, Nat.reduceMul, Nat.reduceSub, Nat.reduceLT, Nat.reduceLeDiff, Nat.reduceBEq, if_true, if_false, ite_true, ite_false, List.length_cons, List.length_nil, Nat.zero_add, Nat.add_zero, List.drop_zero, List.drop_succ_cons, List.take_succ_cons, List.take_zero, List.set_cons_zero, List.set_cons_succ, Int.reduceLT, Int.reduceLE, Bool.not_true, Bool.not_false, Option.isNone_some, Option.isNone_none, decide_true, decide_false, beq_self_eq_true, Bool.false_eq_true, Bool.true_eq_false, if_pos, if_neg, reduceCtorEq, beq_iff_eq, BEq.rfl, wrap_i64, wrap_i32, wrap_i8, wrap_u8, wrap_u32, wrap_u64, Nat.mul_one, Int.toNat_natCast, ints_len, List.length_map, List.length_set, beq_ft, beq_tf, List.all_cons, List.all_nil, scalar, Bool.and_self, Bool.true_and, Bool.and_true, List.size_toArray, List.getElem?_toArray, binStr, fillIn, true_and, and_true, true_or, or_true, bne_self_eq_false, Int.reduceToNat, Int.reduceAdd, Int.reduceSub, Int.reduceMul]
  refine RunC_loop cp c38_l0 _ (fun d e hh => hh = h ∧ d ≤ 64 ∧ e 2 = .int .u64 c ∧ e 10 = .int .u64 ((N % 18446744073709551616 : Nat) : Int) ∧ e 11 = .int .u64 ((N / 2 ^ d / c : Nat) : Int) ∧ e 12 = .int .u64 ((N / 2 ^ d % c : Nat) : Int) ∧ e 13 = .int .i64 ((d : Int) - 1)) ?_ 64 _ _
    ⟨rfl, Nat.le_refl _, rfl, rfl, by rw [show (2 : Nat) ^ 64 = 18446744073709551616 from rfl, Nat.div_eq_of_lt hf]; rfl, by rw [show (2 : Nat) ^ 64 = 18446744073709551616 from rfl, Nat.mod_eq_of_lt hf]; rfl, rfl⟩
  rintro d e hh ⟨rfl, hd, e2, e10, e11, e12, e13⟩
  cases d with
  | zero =>
    have b1 : decide (((0 : Nat) : Int) - 1 ≥ 0) = false := rfl
    rw [Nat.pow_zero, Nat.div_one] at e11 e12
    simp (disch := omega) only [c38_l0, c38, ↓c38_r0_run, ↓c38_r1_run, ↓c38_r2_run, ↓c38_r3_run, ↓c38_r4_run, ↓c38_r5_run, ↓c38_r6_run, ↓c38_r8_run, ↓c38_r9_run, ↓c38_r10_run, ↓c38_r11_run, ↓c38_r12_run, ↓c38_r13_run, ↓c38_r7_run, ↓c38_r14_run, e2, e10, e11, e12, e13, b1, ↓RunC_seq, ↓RunC_skip, ↓RunC_ret, ↓RunC_exit, ↓RunC_region, ↓RunC_condQ, condQ_true, condQ_false, ↓RunC_block, ↓RunR_done, ↓RunR_op, ↓RunR_opg, ↓RunR_snap, ↓RunR_chk, Holds, Option.getD_none, Option.getD_some, guardR_true, guardR_false, wantV_bool, wantV_none, callvQ_eq, afterR_some, ↓seqQ_normal, ↓seqQ_ret, ↓seqQ_exit, ↓blockQ_normal, ↓blockQ_ret, ↓blockQ_exit, ↓retQ_ret, ↓retQ_normal, ↓callQ_eq, ↓loopQ_normal, ↓loopQ_ret, ↓loopQ_exit, ↓upd_same, upd_at, sel_t, sel_f, initE_at, obj_upd_same, obj_upd_ne, obj_new_same, obj_updnew_same, obj_updnew_same2, obj_new2_same, obj_new3_same, obj_newupd_same, obj_new_ne, obj_new_ne2, obj_new_ne3, obj_new_ne4, next_upd, next_new, add_plain, cop, bin, binInt, un, shiftInt, flat, read_cells, src_ro, src_fix, src_grow, get_cells, List.getElem?_cons_zero, List.getElem?_cons_succ, write_fix, write_grow, setAt, bound, eqK, elemOk_ro, elemOk_fix, elemOk_grow, stiff_ro, stiff_fix, goInt, resultsV, resV, resL, finQ_some, Option.map_some, Option.map_none, Option.bind_some, Option.bind_none, List.map_cons, List.map_nil, List.getD_cons_zero, List.getD_cons_succ, List.getD_nil, Nat.reduceEqDiff, Nat.reduceAdd, Nat.reduceMul, Nat.reduceSub, Nat.reduceLT, Nat.reduceLeDiff, Nat.reduceBEq, if_true, if_false, ite_true, ite_false, List.length_cons, List.length_nil, Nat.zero_add, Nat.add_zero, List.drop_zero, List.drop_succ_cons, List.take_succ_cons, List.take_zero, List.set_cons_zero, List.set_cons_succ, Int.reduceLT, Int.reduceLE, Bool.not_true, Bool.not_false, Option.isNone_some, Option.isNone_none, decide_true, decide_false, beq_self_eq_true, Bool.false_eq_true, Bool.true_eq_false, if_pos, if_neg, reduceCtorEq, beq_iff_eq, BEq.rfl, wrap_i64, wrap_i32, wrap_i8, wrap_u8, wrap_u32, wrap_u64, Nat.mul_one, Int.toNat_natCast, ints_len, List.length_map, List.length_set, beq_ft, beq_tf, List.all_cons, List.all_nil, scalar, Bool.and_self, Bool.true_and, Bool.and_true, List.size_toArray, List.getElem?_toArray, binStr, fillIn, true_and, and_true, true_or, or_true, bne_self_eq_false, Int.reduceToNat, Int.reduceAdd, Int.reduceSub, Int.reduceMul]
  | succ i =>
    have b1 : decide (((i + 1 : Nat) : Int) - 1 ≥ 0) = true := decide_eq_true (by omega)
    have ki : ((i + 1 : Nat) : Int) - 1 = (i : Int) := by omega
    rw [ki] at e13 b1
    have hup := bit_up N i
    have hlo := low_bit N i (by omega)
    obtain ⟨b, hbit⟩ : ∃ b, b = N / 2 ^ i % 2 := ⟨_, rfl⟩
    have hb1 : b ≤ 1 := by omega
    rw [← hbit] at hup hlo
    have hYN : N / 2 ^ i / c ≤ N / c := Nat.div_le_div_right (Nat.div_le_self _ _)
    rw [hup] at hYN
    obtain ⟨X, hX⟩ : ∃ X, X = N / 2 ^ (i + 1) := ⟨_, rfl⟩
    rw [← hX] at hup hYN e11 e12
    obtain ⟨q, hq⟩ : ∃ q, q = X / c := ⟨_, rfl⟩
    obtain ⟨r, hr⟩ : ∃ r, r = X % c := ⟨_, rfl⟩
    rw [← hq] at e11
    rw [← hr] at e12
    obtain ⟨st1, st2⟩ := step_div X c b q r c0 hq hr
    have hrc : r < c := by rw [hr]; exact Nat.mod_lt _ c0
    have ov := shr_nat r 63 (by decide)
    rw [show r / 2 ^ 63 = 0 from Nat.div_eq_of_lt (by omega)] at ov
    have sl1 := fun x : Int => shl_k .u64 x 1 (by decide)
    have p1 : (2 : Int) ^ 1 = 2 := by decide
    have sh := shr_nat (N % 18446744073709551616) i (by omega)
    have ba := bit_and (N % 18446744073709551616 / 2 ^ i)
    rw [hlo] at ba
    have z01 : (((0 : Nat) : Int) == 1) = false := rfl
    have eor : IntKind.u64.wrap ((BitVec.ofInt IntKind.u64.bits ((r : Int) * 2) ||| BitVec.ofInt IntKind.u64.bits (b : Int)).toNat : Int) = ((2 * r + b : Nat) : Int) := by
      rw [or_u64 1 _ _ (by omega) (by rw [p1]; omega) (by omega) (by omega) (by rw [p1]; omega) (by omega)]; omega
    by_cases cc : c ≤ 2 * r + b
    · obtain ⟨v1, v2⟩ := st2 cc hb1
      rw [v1] at hYN
      have b2 : decide (((2 * r + b : Nat) : Int) ≥ (c : Int)) = true := decide_eq_true (by omega)
      have eo2 : IntKind.u64.wrap ((BitVec.ofInt IntKind.u64.bits ((q : Int) * 2) ||| BitVec.ofInt IntKind.u64.bits 1).toNat : Int) = ((2 * q + 1 : Nat) : Int) := by
        rw [or_u64 1 _ _ (by omega) (by rw [p1]; omega) (by omega) (by omega) (by rw [p1]; omega) (by omega)]; omega
      have sb : ((2 * r + b : Nat) : Int) - (c : Int) = ((2 * r + b - c : Nat) : Int) := by omega
      simp (disch := omega) only [c38_l0, c38, ↓c38_r0_run, ↓c38_r1_run, ↓c38_r2_run, ↓c38_r3_run, ↓c38_r4_run, ↓c38_r5_run, ↓c38_r6_run, ↓c38_r8_run, ↓c38_r9_run, ↓c38_r10_run, ↓c38_r11_run, ↓c38_r12_run, ↓c38_r13_run, ↓c38_r7_run, ↓c38_r14_run, e2, e10, e11, e12, e13, b1, ov, sl1, p1, sh, ba, z01, eor, eo2, b2, sb, ↓RunC_seq, ↓RunC_skip, ↓RunC_ret, ↓RunC_exit, ↓RunC_region, ↓RunC_condQ, condQ_true, condQ_false, ↓RunC_block, ↓RunR_done, ↓RunR_op, ↓RunR_opg, ↓RunR_snap, ↓RunR_chk, Holds, Option.getD_none, Option.getD_some, guardR_true, guardR_false, wantV_bool, wantV_none, callvQ_eq, afterR_some, ↓seqQ_normal, ↓seqQ_ret, ↓seqQ_exit, ↓blockQ_normal, ↓blockQ_ret, ↓blockQ_exit, ↓retQ_ret, ↓retQ_normal, ↓callQ_eq, ↓loopQ_normal, ↓loopQ_ret, ↓loopQ_exit, ↓upd_same, upd_at, sel_t, sel_f, initE_at, obj_upd_same, obj_upd_ne, obj_new_same, obj_updnew_same, obj_updnew_same2, obj_new2_same, obj_new3_same, obj_newupd_same, obj_new_ne, obj_new_ne2, obj_new_ne3, obj_new_ne4, next_upd, next_new, add_plain, cop, bin, binInt, un, shiftInt, flat, read_cells, src_ro, src_fix, src_grow, get_cells, List.getElem?_cons_zero, List.getElem?_cons_succ, write_fix, write_grow, setAt, bound, eqK, elemOk_ro, elemOk_fix, elemOk_grow, stiff_ro, stiff_fix, goInt, resultsV, resV, resL, finQ_some, Option.map_some, Option.map_none, Option.bind_some, Option.bind_none, List.map_cons, List.map_nil, List.getD_cons_zero, List.getD_cons_succ, List.getD_nil, Nat.reduceEqDiff, Nat.reduceAdd, Nat.reduceMul, Nat.reduceSub, Nat.reduceLT, Nat.reduceLeDiff, Nat.reduceBEq, if_true, if_false, ite_true, ite_false, List.length_cons, List.length_nil, Nat.zero_add, Nat.add_zero, List.drop_zero, List.drop_succ_cons, List.take_succ_cons, List.take_zero, List.set_cons_zero, List.set_cons_succ, Int.reduceLT, Int.reduceLE, Bool.not_true, Bool.not_false, Option.isNone_some, Option.isNone_none, decide_true, decide_false, beq_self_eq_true, Bool.false_eq_true, Bool.true_eq_false, if_pos, if_neg, reduceCtorEq, beq_iff_eq, BEq.rfl, wrap_i64, wrap_i32, wrap_i8, wrap_u8, wrap_u32, wrap_u64, Nat.mul_one, Int.toNat_natCast, ints_len, List.length_map, List.length_set, beq_ft, beq_tf, List.all_cons, List.all_nil, scalar, Bool.and_self, Bool.true_and, Bool.and_true, List.size_toArray, List.getElem?_toArray, binStr, fillIn, true_and, and_true, true_or, or_true, bne_self_eq_false, Int.reduceToNat, Int.reduceAdd, Int.reduceSub, Int.reduceMul]
      refine ⟨i, by omega, by omega, ?_⟩
      rw [hup, v1, v2]
      repeat' first | assumption | rfl | apply And.intro
    · obtain ⟨v1, v2⟩ := st1 (by omega)
      rw [v1] at hYN
      have b2 : decide (((2 * r + b : Nat) : Int) ≥ (c : Int)) = false := decide_eq_false (by omega)
      have q2 : (q : Int) * 2 = ((2 * q : Nat) : Int) := by omega
      simp (disch := omega) only [c38_l0, c38, ↓c38_r0_run, ↓c38_r1_run, ↓c38_r2_run, ↓c38_r3_run, ↓c38_r4_run, ↓c38_r5_run, ↓c38_r6_run, ↓c38_r8_run, ↓c38_r9_run, ↓c38_r10_run, ↓c38_r11_run, ↓c38_r12_run, ↓c38_r13_run, ↓c38_r7_run, ↓c38_r14_run, e2, e10, e11, e12, e13, b1, ov, sl1, p1, sh, ba, z01, eor, b2, q2, ↓RunC_seq, ↓RunC_skip, ↓RunC_ret, ↓RunC_exit, ↓RunC_region, ↓RunC_condQ, condQ_true, condQ_false, ↓RunC_block, ↓RunR_done, ↓RunR_op, ↓RunR_opg, ↓RunR_snap, ↓RunR_chk, Holds, Option.getD_none, Option.getD_some, guardR_true, guardR_false, wantV_bool, wantV_none, callvQ_eq, afterR_some, ↓seqQ_normal, ↓seqQ_ret, ↓seqQ_exit, ↓blockQ_normal, ↓blockQ_ret, ↓blockQ_exit, ↓retQ_ret, ↓retQ_normal, ↓callQ_eq, ↓loopQ_normal, ↓loopQ_ret, ↓loopQ_exit, ↓upd_same, upd_at, sel_t, sel_f, initE_at, obj_upd_same, obj_upd_ne, obj_new_same, obj_updnew_same, obj_updnew_same2, obj_new2_same, obj_new3_same, obj_newupd_same, obj_new_ne, obj_new_ne2, obj_new_ne3, obj_new_ne4, next_upd, next_new, add_plain, cop, bin, binInt, un, shiftInt, flat, read_cells, src_ro, src_fix, src_grow, get_cells, List.getElem?_cons_zero, List.getElem?_cons_succ, write_fix, write_grow, setAt, bound, eqK, elemOk_ro, elemOk_fix, elemOk_grow, stiff_ro, stiff_fix, goInt, resultsV, resV, resL, finQ_some, Option.map_some, Option.map_none, Option.bind_some, Option.bind_none, List.map_cons, List.map_nil, List.getD_cons_zero, List.getD_cons_succ, List.getD_nil, Nat.reduceEqDiff, Nat.reduceAdd, Nat.reduceMul, Nat.reduceSub, Nat.reduceLT, Nat.reduceLeDiff, Nat.reduceBEq, if_true, if_false, ite_true, ite_false, List.length_cons, List.length_nil, Nat.zero_add, Nat.add_zero, List.drop_zero, List.drop_succ_cons, List.take_succ_cons, List.take_zero, List.set_cons_zero, List.set_cons_succ, Int.reduceLT, Int.reduceLE, Bool.not_true, Bool.not_false, Option.isNone_some, Option.isNone_none, decide_true, decide_false, beq_self_eq_true, Bool.false_eq_true, Bool.true_eq_false, if_pos, if_neg, reduceCtorEq, beq_iff_eq, BEq.rfl, wrap_i64, wrap_i32, wrap_i8, wrap_u8, wrap_u32, wrap_u64, Nat.mul_one, Int.toNat_natCast, ints_len, List.length_map, List.length_set, beq_ft, beq_tf, List.all_cons, List.all_nil, scalar, Bool.and_self, Bool.true_and, Bool.and_true, List.size_toArray, List.getElem?_toArray, binStr, fillIn, true_and, and_true, true_or, or_true, bne_self_eq_false, Int.reduceToNat, Int.reduceAdd, Int.reduceSub, Int.reduceMul]
      refine ⟨i, by omega, by omega, ?_⟩
      rw [hup, v1, v2]
      repeat' first | assumption | rfl | apply And.intro
theorem rdown_ok (h : Heap) (a b c : Nat) (ha : a < 18446744073709551616) (hb : b < 18446744073709551616) (hc : c ≤ 9223372036854775808) (hf : a * b / 18446744073709551616 < c) (Q : Value → Heap → Prop) :
    CALL cp 30 [.int .u64 a, .int .u64 b, .int .u64 c] h Q ↔ Q (.tuple #[.int .u64 ((a * b / c : Nat) : Int), .bool true]) h := by
  refine CALL_det ?_ Q
  rw [CALL_enter cp cp30]
  have f := fun h => rdivide_ok h a b c ha hb hc hf
  simp (disch := omega) only [c30, ↓c30_r0_run, ↓c30_r1_c1_run, ↓c30_r1_run, ↓c30_r2_run, f, ↓RunC_seq, ↓RunC_skip, ↓RunC_ret, ↓RunC_exit, ↓RunC_region, ↓RunC_condQ, condQ_true, condQ_false, ↓RunC_block, ↓RunR_done, ↓RunR_op, ↓RunR_opg, ↓RunR_snap, ↓RunR_chk, Holds, Option.getD_none, Option.getD_some, guardR_true, guardR_false, wantV_bool, wantV_none, callvQ_eq, afterR_some, ↓seqQ_normal, ↓seqQ_ret, ↓seqQ_exit, ↓blockQ_normal, ↓blockQ_ret, ↓blockQ_exit, ↓retQ_ret, ↓retQ_normal, ↓callQ_eq, ↓loopQ_normal, ↓loopQ_ret, ↓loopQ_exit, ↓upd_same, upd_at, sel_t, sel_f, initE_at, obj_upd_same, obj_upd_ne, obj_new_same, obj_updnew_same, obj_updnew_same2, obj_new2_same, obj_new3_same, obj_newupd_same, obj_new_ne, obj_new_ne2, obj_new_ne3, obj_new_ne4, next_upd, next_new, add_plain, cop, bin, binInt, un, shiftInt, flat, read_cells, src_ro, src_fix, src_grow, get_cells, List.getElem?_cons_zero, List.getElem?_cons_succ, write_fix, write_grow, setAt, bound, eqK, elemOk_ro, elemOk_fix, elemOk_grow, stiff_ro, stiff_fix, goInt, resultsV, resV, resL, finQ_some, Option.map_some, Option.map_none, Option.bind_some, Option.bind_none, List.map_cons, List.map_nil, List.getD_cons_zero, List.getD_cons_succ, List.getD_nil, Nat.reduceEqDiff, Nat.reduceAdd, Nat.reduceMul, Nat.reduceSub, Nat.reduceLT, Nat.reduceLeDiff, Nat.reduceBEq, if_true, if_false, ite_true, ite_false, List.length_cons, List.length_nil, Nat.zero_add, Nat.add_zero, List.drop_zero, List.drop_succ_cons, List.take_succ_cons, List.take_zero, List.set_cons_zero, List.set_cons_succ, Int.reduceLT, Int.reduceLE, Bool.not_true, Bool.not_false, Option.isNone_some, Option.isNone_none, decide_true, decide_false, beq_self_eq_true, Bool.false_eq_true, Bool.true_eq_false, if_pos, if_neg, reduceCtorEq, beq_iff_eq, BEq.rfl, wrap_i64, wrap_i32, wrap_i8, wrap_u8, wrap_u32, wrap_u64, Nat.mul_one, Int.toNat_natCast, ints_len, List.length_map, List.length_set, beq_ft, beq_tf, List.all_cons, List.all_nil, scalar, Bool.and_self, Bool.true_and, Bool.and_true, List.size_toArray, List.getElem?_toArray, binStr, fillIn, true_and, and_true, true_or, or_true, bne_self_eq_false, Int.reduceToNat, Int.reduceAdd, Int.reduceSub, Int.reduceMul]
end Go.Proofs.Ytkoclacmomlmaaa.Can
