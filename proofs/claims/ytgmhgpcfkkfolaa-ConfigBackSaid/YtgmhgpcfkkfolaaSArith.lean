/- Sums, products and quotients of the program's own arithmetic, in the canonical machine. No condition. -/
import Derived.Test.YtgmhgpcfkkfolaaCAll
import Derived.Test.YtgmhgpcfkkfolaaCanNum
namespace Go.Proofs.Ytgmhgpcfkkfolaa.Can
open Go
set_option linter.unusedSimpArgs false
set_option linter.unusedVariables false
attribute [local congr] RunR_congr RunC_congr afterR_congr guardR_congr condQ_congr CALL_congr finQ_congr op_congr opg_congr

theorem mul64_ok (h : Heap) (a b : Int) (ha : U64 a) (hb : U64 b) (Q : Value → Heap → Prop) : CALL cp 32 [.int .u64 a, .int .u64 b] h Q ↔ Q (.tuple #[.int .u64 (a * b / 18446744073709551616), .int .u64 (a * b % 18446744073709551616)]) h := by
  refine CALL_det ?_ Q
  rw [CALL_enter cp cp32]
  have m1 := fun x : Int => and_u64 32 (by decide) x 4294967295 (by decide)
  have s1 := fun x : Int => shr_k .u64 x 32 (by decide)
  have p32 : (2 : Int) ^ 32 = 4294967296 := by decide
  simp (disch := omega) only [c32, ↓c32_r0_run, ↓c32_r1_run, ↓c32_r2_run, ↓c32_r3_run, ↓c32_r4_run, ↓c32_r5_run, ↓c32_r6_run, ↓c32_r7_run, ↓c32_r8_run, ↓c32_r9_run, ↓c32_r10_run, ↓c32_r11_run, m1, s1, wu64, p32, ↓RunC_seq, ↓RunC_skip, ↓RunC_ret, ↓RunC_exit, ↓RunC_region, ↓RunC_condQ, condQ_true, condQ_false, ↓RunC_block, ↓RunR_done, ↓RunR_op, ↓RunR_opg, ↓RunR_snap, ↓RunR_chk, Holds, Option.getD_none, Option.getD_some, guardR_true, guardR_false, wantV_bool, wantV_none, callvQ_eq, afterR_some, ↓seqQ_normal, ↓seqQ_ret, ↓seqQ_exit, ↓blockQ_normal, ↓blockQ_ret, ↓blockQ_exit, ↓retQ_ret, ↓retQ_normal, ↓callQ_eq, ↓loopQ_normal, ↓loopQ_ret, ↓loopQ_exit, ↓upd_same, upd_at, sel_t, sel_f, initE_at, obj_upd_same, obj_upd_ne, obj_new_same, obj_updnew_same, obj_updnew_same2, obj_new2_same, obj_new3_same, obj_newupd_same, obj_new_ne, obj_new_ne2, obj_new_ne3, obj_new_ne4, next_upd, next_new, add_plain, cop, bin, binInt, un, shiftInt, flat, read_cells, src_ro, src_fix, src_grow, get_cells, List.getElem?_cons_zero, List.getElem?_cons_succ, write_fix, write_grow, setAt, bound, eqK, elemOk_ro, elemOk_fix, elemOk_grow, stiff_ro, stiff_fix, goInt, resultsV, resV, resL, finQ_some, Option.map_some, Option.map_none, Option.bind_some, Option.bind_none, List.map_cons, List.map_nil, List.getD_cons_zero, List.getD_cons_succ, List.getD_nil, Nat.reduceEqDiff, Nat.reduceAdd, Nat.reduceMul, Nat.reduceSub, Nat.reduceLT, Nat.reduceLeDiff, Nat.reduceBEq, if_true, if_false, ite_true, ite_false, List.length_cons, List.length_nil, Nat.zero_add, Nat.add_zero, List.drop_zero, List.drop_succ_cons, List.take_succ_cons, List.take_zero, List.set_cons_zero, List.set_cons_succ, Int.reduceLT, Int.reduceLE, Bool.not_true, Bool.not_false, Option.isNone_some, Option.isNone_none, decide_true, decide_false, beq_self_eq_true, Bool.false_eq_true, Bool.true_eq_false, if_pos, if_neg, reduceCtorEq, beq_iff_eq, BEq.rfl, wrap_i64, wrap_i32, wrap_i8, wrap_u8, wrap_u32, wrap_u64, Nat.mul_one, Int.toNat_natCast, ints_len, List.length_map, List.length_set, beq_ft, beq_tf, List.all_cons, List.all_nil, scalar, Bool.and_self, Bool.true_and, Bool.and_true, List.size_toArray, List.getElem?_toArray, binStr, fillIn, true_and, and_true, true_or, or_true, bne_self_eq_false, Int.reduceToNat, Int.reduceAdd, Int.reduceSub, Int.reduceMul]
  have e := mul64_is a b ha hb
  have h2 : 0 ≤ a * b / 18446744073709551616 ∧ a * b / 18446744073709551616 < 18446744073709551616 := by
    unfold U64 at ha hb
    have := mul_range a b 18446744073709551615 ha.1 ha.2 hb.1 hb.2
    omega
  rw [e, Int.emod_eq_of_lt h2.1 h2.2]
/-- A number, put where it fits. -/
theorem i64_conv (n : Int) (h : I64 n) : IntKind.i64.wrap n = n := by unfold I64 at h; exact wrap_i64 h.1 h.2
/-- The nearest number there is. -/
def near (n : Int) : Int := if n < -9223372036854775808 then -9223372036854775808 else if n > 9223372036854775807 then 9223372036854775807 else n
theorem near_in (n : Int) : I64 (near n) := by 
  unfold near I64
  split
  · omega
  · split <;> omega
theorem near_eq {n : Int} (h : I64 n) : near n = n := by unfold I64 at h; unfold near; rw [if_neg (by omega), if_neg (by omega)]
/-- A quotient to the next whole number up. -/
def ceilD (W D : Int) : Int := if W % D = 0 then W / D else W / D + 1
theorem ceil_ok (h : Heap) (a b : Int) (ha : I64 a) (ha0 : 0 ≤ a) (hb : I64 b) (hb1 : 1 ≤ b) (Q : Value → Heap → Prop) : CALL cp 25 [.int .i64 a, .int .i64 b] h Q ↔ Q (.int .i64 (ceilD a b)) h := by
  refine CALL_det ?_ Q
  rw [CALL_enter cp cp25]
  unfold I64 at ha hb
  have a1 : decide (a < 0) = false := decide_eq_false (by omega)
  have a2 : decide (b < 1) = false := decide_eq_false (by omega)
  have n0 : (b = 0) = False := by simp; omega
  have q0 : 0 ≤ a / b := Int.ediv_nonneg ha0 (by omega)
  have q1 : a / b ≤ a := Int.ediv_le_self b ha0
  have r0 : 0 ≤ a % b := Int.emod_nonneg a (by omega)
  have r1 := Int.emod_lt_of_pos a (show 0 < b by omega)
  have t1 : a.tdiv b = a / b := tdiv_nn a b ha0
  have t2 : a.tmod b = a % b := tmod_nn a b ha0
  by_cases hr : a % b = 0
  · have a3 : decide (a % b > 0) = false := decide_eq_false (by omega)
    simp (disch := omega) only [c25, ↓c25_r0_run, ↓c25_r1_run, ↓c25_r2_run, ↓c25_r3_run, ↓c25_r4_run, ↓c25_r5_run, ↓c25_r6_run, a1, a2, a3, n0, t1, t2, ↓RunC_seq, ↓RunC_skip, ↓RunC_ret, ↓RunC_exit, ↓RunC_region, ↓RunC_condQ, condQ_true, condQ_false, ↓RunC_block, ↓RunR_done, ↓RunR_op, ↓RunR_opg, ↓RunR_snap, ↓RunR_chk, Holds, Option.getD_none, Option.getD_some, guardR_true, guardR_false, wantV_bool, wantV_none, callvQ_eq, afterR_some, ↓seqQ_normal, ↓seqQ_ret, ↓seqQ_exit, ↓blockQ_normal, ↓blockQ_ret, ↓blockQ_exit, ↓retQ_ret, ↓retQ_normal, ↓callQ_eq, ↓loopQ_normal, ↓loopQ_ret, ↓loopQ_exit, ↓upd_same, upd_at, sel_t, sel_f, initE_at, obj_upd_same, obj_upd_ne, obj_new_same, obj_updnew_same, obj_updnew_same2, obj_new2_same, obj_new3_same, obj_newupd_same, obj_new_ne, obj_new_ne2, obj_new_ne3, obj_new_ne4, next_upd, next_new, add_plain, cop, bin, binInt, un, shiftInt, flat, read_cells, src_ro, src_fix, src_grow, get_cells, List.getElem?_cons_zero, List.getElem?_cons_succ, write_fix, write_grow, setAt, bound, eqK, elemOk_ro, elemOk_fix, elemOk_grow, stiff_ro, stiff_fix, goInt, resultsV, resV, resL, finQ_some, Option.map_some, Option.map_none, Option.bind_some, Option.bind_none, List.map_cons, List.map_nil, List.getD_cons_zero, List.getD_cons_succ, List.getD_nil, Nat.reduceEqDiff, Nat.reduceAdd, Nat.reduceMul, Nat.reduceSub, Nat.reduceLT, Nat.reduceLeDiff, Nat.reduceBEq, if_true, if_false, ite_true, ite_false, List.length_cons, List.length_nil, Nat.zero_add, Nat.add_zero, List.drop_zero, List.drop_succ_cons, List.take_succ_cons, List.take_zero, List.set_cons_zero, List.set_cons_succ, Int.reduceLT, Int.reduceLE, Bool.not_true, Bool.not_false, Option.isNone_some, Option.isNone_none, decide_true, decide_false, beq_self_eq_true, Bool.false_eq_true, Bool.true_eq_false, if_pos, if_neg, reduceCtorEq, beq_iff_eq, BEq.rfl, wrap_i64, wrap_i32, wrap_i8, wrap_u8, wrap_u32, wrap_u64, Nat.mul_one, Int.toNat_natCast, ints_len, List.length_map, List.length_set, beq_ft, beq_tf, List.all_cons, List.all_nil, scalar, Bool.and_self, Bool.true_and, Bool.and_true, List.size_toArray, List.getElem?_toArray, binStr, fillIn, true_and, and_true, true_or, or_true, bne_self_eq_false, Int.reduceToNat, Int.reduceAdd, Int.reduceSub, Int.reduceMul]
    exact (by unfold ceilD; rw [if_pos hr])
  · have a3 : decide (a % b > 0) = true := decide_eq_true (by omega)
    have q2 : a / b < a ∨ b = 1 := by
      by_cases hb2 : b = 1
      · exact .inr hb2
      · left
        have := Int.ediv_lt_self_of_pos_of_ne_one (x := a) (y := b) (by rcases Int.lt_or_eq_of_le ha0 with h | h; exact h; rw [← h] at hr; simp at hr) hb2
        omega
    have q3 : a / b + 1 ≤ 9223372036854775807 := by
      rcases q2 with h | h
      · omega
      · subst h; simp at hr
    simp (disch := omega) only [c25, ↓c25_r0_run, ↓c25_r1_run, ↓c25_r2_run, ↓c25_r3_run, ↓c25_r4_run, ↓c25_r5_run, ↓c25_r6_run, a1, a2, a3, n0, t1, t2, ↓RunC_seq, ↓RunC_skip, ↓RunC_ret, ↓RunC_exit, ↓RunC_region, ↓RunC_condQ, condQ_true, condQ_false, ↓RunC_block, ↓RunR_done, ↓RunR_op, ↓RunR_opg, ↓RunR_snap, ↓RunR_chk, Holds, Option.getD_none, Option.getD_some, guardR_true, guardR_false, wantV_bool, wantV_none, callvQ_eq, afterR_some, ↓seqQ_normal, ↓seqQ_ret, ↓seqQ_exit, ↓blockQ_normal, ↓blockQ_ret, ↓blockQ_exit, ↓retQ_ret, ↓retQ_normal, ↓callQ_eq, ↓loopQ_normal, ↓loopQ_ret, ↓loopQ_exit, ↓upd_same, upd_at, sel_t, sel_f, initE_at, obj_upd_same, obj_upd_ne, obj_new_same, obj_updnew_same, obj_updnew_same2, obj_new2_same, obj_new3_same, obj_newupd_same, obj_new_ne, obj_new_ne2, obj_new_ne3, obj_new_ne4, next_upd, next_new, add_plain, cop, bin, binInt, un, shiftInt, flat, read_cells, src_ro, src_fix, src_grow, get_cells, List.getElem?_cons_zero, List.getElem?_cons_succ, write_fix, write_grow, setAt, bound, eqK, elemOk_ro, elemOk_fix, elemOk_grow, stiff_ro, stiff_fix, goInt, resultsV, resV, resL, finQ_some, Option.map_some, Option.map_none, Option.bind_some, Option.bind_none, List.map_cons, List.map_nil, List.getD_cons_zero, List.getD_cons_succ, List.getD_nil, Nat.reduceEqDiff, Nat.reduceAdd, Nat.reduceMul, Nat.reduceSub, Nat.reduceLT, Nat.reduceLeDiff, Nat.reduceBEq, if_true, if_false, ite_true, ite_false, List.length_cons, List.length_nil, Nat.zero_add, Nat.add_zero, List.drop_zero, List.drop_succ_cons, List.take_succ_cons, List.take_zero, List.set_cons_zero, List.set_cons_succ, Int.reduceLT, Int.reduceLE, Bool.not_true, Bool.not_false, Option.isNone_some, Option.isNone_none, decide_true, decide_false, beq_self_eq_true, Bool.false_eq_true, Bool.true_eq_false, if_pos, if_neg, reduceCtorEq, beq_iff_eq, BEq.rfl, wrap_i64, wrap_i32, wrap_i8, wrap_u8, wrap_u32, wrap_u64, Nat.mul_one, Int.toNat_natCast, ints_len, List.length_map, List.length_set, beq_ft, beq_tf, List.all_cons, List.all_nil, scalar, Bool.and_self, Bool.true_and, Bool.and_true, List.size_toArray, List.getElem?_toArray, binStr, fillIn, true_and, and_true, true_or, or_true, bne_self_eq_false, Int.reduceToNat, Int.reduceAdd, Int.reduceSub, Int.reduceMul]
    exact (by unfold ceilD; rw [if_neg hr])
theorem mul_fits (a b p : Int) (ha : I64 a) (hb : I64 b) (hp : p = a * b) :
    ∃ hi lo, a % 18446744073709551616 * (b % 18446744073709551616) / 18446744073709551616 = hi ∧ a % 18446744073709551616 * (b % 18446744073709551616) % 18446744073709551616 = lo ∧ U64 hi ∧ U64 lo ∧
      IntKind.i64.wrap lo = IntKind.i64.wrap p ∧
      ((let up := IntKind.i64.wrap hi; let up := if a < 0 then IntKind.i64.wrap (up - b) else up; let up := if b < 0 then IntKind.i64.wrap (up - a) else up; (up == IntKind.i64.wrap lo / 9223372036854775808)) = decide (I64 p)) := by
  have hpb : -85070591730234615865843651857942052864 ≤ p ∧ p ≤ 85070591730234615865843651857942052864 := by
    unfold I64 at ha hb
    rw [hp]
    have h1 : (a.natAbs : Int) ≤ 9223372036854775808 := by omega
    have h2 : (b.natAbs : Int) ≤ 9223372036854775808 := by omega
    have h3 : ((a * b).natAbs : Int) ≤ 9223372036854775808 * 9223372036854775808 := by
      rw [Int.natAbs_mul, Int.natCast_mul]
      exact Int.mul_le_mul h1 h2 (by omega) (by omega)
    omega
  refine ⟨_, _, rfl, rfl, ?_⟩
  unfold I64 at ha hb
  have hx : ∃ m, a % 18446744073709551616 * (b % 18446744073709551616) = p + 18446744073709551616 * m ∧
      m = (if a < 0 then b else 0) + (if b < 0 then a else 0) + (if a < 0 ∧ b < 0 then 18446744073709551616 else 0) := by
    refine ⟨_, ?_, rfl⟩
    by_cases c1 : a < 0
    · have e1 : a % 18446744073709551616 = a + 18446744073709551616 := by omega
      by_cases c2 : b < 0
      · have e2 : b % 18446744073709551616 = b + 18446744073709551616 := by omega
        rw [e1, e2, if_pos c1, if_pos c2, if_pos ⟨c1, c2⟩, Int.add_mul, Int.mul_add, Int.mul_add, ← hp]; omega
      · have e2 : b % 18446744073709551616 = b := by omega
        rw [e1, e2, if_pos c1, if_neg c2, if_neg (by omega), Int.add_mul, ← hp]; omega
    · have e1 : a % 18446744073709551616 = a := by omega
      by_cases c2 : b < 0
      · have e2 : b % 18446744073709551616 = b + 18446744073709551616 := by omega
        rw [e1, e2, if_neg c1, if_pos c2, if_neg (by omega), Int.mul_add, ← hp]; omega
      · have e2 : b % 18446744073709551616 = b := by omega
        rw [e1, e2, if_neg c1, if_neg c2, if_neg (by omega), ← hp]; omega
  obtain ⟨m, hm, hmm⟩ := hx
  have hpos := mul_range (a % 18446744073709551616) (b % 18446744073709551616) 18446744073709551615 (by omega) (by omega) (by omega) (by omega)
  rw [hm] at hpos ⊢
  clear hm hp
  have hq : (p + 18446744073709551616 * m) / 18446744073709551616 = p / 18446744073709551616 + m := by omega
  have hl : (p + 18446744073709551616 * m) % 18446744073709551616 = p % 18446744073709551616 := by omega
  have hqb : -4611686018427387904 ≤ p / 18446744073709551616 ∧ p / 18446744073709551616 ≤ 4611686018427387904 := by omega
  have hlw : IntKind.i64.wrap (p % 18446744073709551616) = IntKind.i64.wrap p := by rw [wi64, wi64]; omega
  rw [hq, hl, hlw]
  have ws : ∀ x y : Int, IntKind.i64.wrap (IntKind.i64.wrap x - y) = IntKind.i64.wrap (x - y) := fun x y => by rw [wi64, wi64, wi64]; omega
  have ws2 : ∀ x y z : Int, IntKind.i64.wrap (IntKind.i64.wrap x - y - z) = IntKind.i64.wrap (x - y - z) := fun x y z => by rw [wi64, wi64, wi64]; omega
  have hw : ∀ x k : Int, x = p / 18446744073709551616 + 18446744073709551616 * k → IntKind.i64.wrap x = p / 18446744073709551616 := fun x k hx => by rw [wi64]; omega
  have hfin : (p / 18446744073709551616 = IntKind.i64.wrap p / 9223372036854775808) ↔ I64 p := by unfold I64; rw [wi64]; omega
  have hhi : U64 (p / 18446744073709551616 + m) := by
    unfold U64
    clear ws hw hfin hlw
    omega
  refine ⟨hhi, by unfold U64; omega, rfl, ?_⟩
  simp only
  rw [Bool.eq_iff_iff, decide_eq_true_eq, beq_iff_eq, ← hfin]
  by_cases c1 : a < 0
  · by_cases c2 : b < 0
    · rw [if_pos c1, if_pos c2, if_pos ⟨c1, c2⟩] at hmm
      rw [if_pos c1, if_pos c2, ws, ws2, hw _ 1 (by omega)]
    · rw [if_pos c1, if_neg c2, if_neg (by omega)] at hmm
      rw [if_pos c1, if_neg c2, ws, hw _ 0 (by omega)]
  · by_cases c2 : b < 0
    · rw [if_neg c1, if_pos c2, if_neg (by omega)] at hmm
      rw [if_neg c1, if_pos c2, ws, hw _ 0 (by omega)]
    · rw [if_neg c1, if_neg c2, if_neg (by omega)] at hmm
      rw [if_neg c1, if_neg c2, hw _ 0 (by omega)]
theorem mul_ok (h : Heap) (a b : Int) (ha : I64 a) (hb : I64 b) (Q : Value → Heap → Prop) : CALL cp 24 [.int .i64 a, .int .i64 b] h Q ↔ Q (.tuple #[.int .i64 (IntKind.i64.wrap (a * b)), .bool (decide (I64 (a * b)))]) h := by
  refine CALL_det ?_ Q
  rw [CALL_enter cp cp24]
  have f1 := fun h => mul64_ok h (a % 18446744073709551616) (b % 18446744073709551616) (by unfold U64; omega) (by unfold U64; omega)
  obtain ⟨hi, lo, e1, e2, u1, u2, e3, e4⟩ := mul_fits a b (a * b) ha hb rfl
  have c64 : ∀ x : Int, (2 : Int) ^ 63 = 9223372036854775808 := fun _ => by decide
  have s1 := fun x : Int => shr_k .i64 x 63 (by decide)
  rw [← e4, ← e3]
  by_cases c1 : a < 0
  · have a1 := decide_eq_true c1
    by_cases c2 : b < 0
    · have a2 := decide_eq_true c2
      simp (disch := omega) only [c24, ↓c24_r0_run, ↓c24_r1_run, ↓c24_r2_run, ↓c24_r3_run, ↓c24_r4_run, ↓c24_r5_run, ↓c24_r6_run, ↓c24_r7_run, wu64, f1, e1, e2, a1, a2, s1, c64 0, c1, c2, ↓RunC_seq, ↓RunC_skip, ↓RunC_ret, ↓RunC_exit, ↓RunC_region, ↓RunC_condQ, condQ_true, condQ_false, ↓RunC_block, ↓RunR_done, ↓RunR_op, ↓RunR_opg, ↓RunR_snap, ↓RunR_chk, Holds, Option.getD_none, Option.getD_some, guardR_true, guardR_false, wantV_bool, wantV_none, callvQ_eq, afterR_some, ↓seqQ_normal, ↓seqQ_ret, ↓seqQ_exit, ↓blockQ_normal, ↓blockQ_ret, ↓blockQ_exit, ↓retQ_ret, ↓retQ_normal, ↓callQ_eq, ↓loopQ_normal, ↓loopQ_ret, ↓loopQ_exit, ↓upd_same, upd_at, sel_t, sel_f, initE_at, obj_upd_same, obj_upd_ne, obj_new_same, obj_updnew_same, obj_updnew_same2, obj_new2_same, obj_new3_same, obj_newupd_same, obj_new_ne, obj_new_ne2, obj_new_ne3, obj_new_ne4, next_upd, next_new, add_plain, cop, bin, binInt, un, shiftInt, flat, read_cells, src_ro, src_fix, src_grow, get_cells, List.getElem?_cons_zero, List.getElem?_cons_succ, write_fix, write_grow, setAt, bound, eqK, elemOk_ro, elemOk_fix, elemOk_grow, stiff_ro, stiff_fix, goInt, resultsV, resV, resL, finQ_some, Option.map_some, Option.map_none, Option.bind_some, Option.bind_none, List.map_cons, List.map_nil, List.getD_cons_zero, List.getD_cons_succ, List.getD_nil, Nat.reduceEqDiff, Nat.reduceAdd, Nat.reduceMul, Nat.reduceSub, Nat.reduceLT, Nat.reduceLeDiff, Nat.reduceBEq, if_true, if_false, ite_true, ite_false, List.length_cons, List.length_nil, Nat.zero_add, Nat.add_zero, List.drop_zero, List.drop_succ_cons, List.take_succ_cons, List.take_zero, List.set_cons_zero, List.set_cons_succ, Int.reduceLT, Int.reduceLE, Bool.not_true, Bool.not_false, Option.isNone_some, Option.isNone_none, decide_true, decide_false, beq_self_eq_true, Bool.false_eq_true, Bool.true_eq_false, if_pos, if_neg, reduceCtorEq, beq_iff_eq, BEq.rfl, wrap_i64, wrap_i32, wrap_i8, wrap_u8, wrap_u32, wrap_u64, Nat.mul_one, Int.toNat_natCast, ints_len, List.length_map, List.length_set, beq_ft, beq_tf, List.all_cons, List.all_nil, scalar, Bool.and_self, Bool.true_and, Bool.and_true, List.size_toArray, List.getElem?_toArray, binStr, fillIn, true_and, and_true, true_or, or_true, bne_self_eq_false, Int.reduceToNat, Int.reduceAdd, Int.reduceSub, Int.reduceMul]
      first | done | trivial
    · have a2 := decide_eq_false c2
      simp (disch := omega) only [c24, ↓c24_r0_run, ↓c24_r1_run, ↓c24_r2_run, ↓c24_r3_run, ↓c24_r4_run, ↓c24_r5_run, ↓c24_r6_run, ↓c24_r7_run, wu64, f1, e1, e2, a1, a2, s1, c64 0, c1, c2, ↓RunC_seq, ↓RunC_skip, ↓RunC_ret, ↓RunC_exit, ↓RunC_region, ↓RunC_condQ, condQ_true, condQ_false, ↓RunC_block, ↓RunR_done, ↓RunR_op, ↓RunR_opg, ↓RunR_snap, ↓RunR_chk, Holds, Option.getD_none, Option.getD_some, guardR_true, guardR_false, wantV_bool, wantV_none, callvQ_eq, afterR_some, ↓seqQ_normal, ↓seqQ_ret, ↓seqQ_exit, ↓blockQ_normal, ↓blockQ_ret, ↓blockQ_exit, ↓retQ_ret, ↓retQ_normal, ↓callQ_eq, ↓loopQ_normal, ↓loopQ_ret, ↓loopQ_exit, ↓upd_same, upd_at, sel_t, sel_f, initE_at, obj_upd_same, obj_upd_ne, obj_new_same, obj_updnew_same, obj_updnew_same2, obj_new2_same, obj_new3_same, obj_newupd_same, obj_new_ne, obj_new_ne2, obj_new_ne3, obj_new_ne4, next_upd, next_new, add_plain, cop, bin, binInt, un, shiftInt, flat, read_cells, src_ro, src_fix, src_grow, get_cells, List.getElem?_cons_zero, List.getElem?_cons_succ, write_fix, write_grow, setAt, bound, eqK, elemOk_ro, elemOk_fix, elemOk_grow, stiff_ro, stiff_fix, goInt, resultsV, resV, resL, finQ_some, Option.map_some, Option.map_none, Option.bind_some, Option.bind_none, List.map_cons, List.map_nil, List.getD_cons_zero, List.getD_cons_succ, List.getD_nil, Nat.reduceEqDiff, Nat.reduceAdd, Nat.reduceMul, Nat.reduceSub, Nat.reduceLT, Nat.reduceLeDiff, Nat.reduceBEq, if_true, if_false, ite_true, ite_false, List.length_cons, List.length_nil, Nat.zero_add, Nat.add_zero, List.drop_zero, List.drop_succ_cons, List.take_succ_cons, List.take_zero, List.set_cons_zero, List.set_cons_succ, Int.reduceLT, Int.reduceLE, Bool.not_true, Bool.not_false, Option.isNone_some, Option.isNone_none, decide_true, decide_false, beq_self_eq_true, Bool.false_eq_true, Bool.true_eq_false, if_pos, if_neg, reduceCtorEq, beq_iff_eq, BEq.rfl, wrap_i64, wrap_i32, wrap_i8, wrap_u8, wrap_u32, wrap_u64, Nat.mul_one, Int.toNat_natCast, ints_len, List.length_map, List.length_set, beq_ft, beq_tf, List.all_cons, List.all_nil, scalar, Bool.and_self, Bool.true_and, Bool.and_true, List.size_toArray, List.getElem?_toArray, binStr, fillIn, true_and, and_true, true_or, or_true, bne_self_eq_false, Int.reduceToNat, Int.reduceAdd, Int.reduceSub, Int.reduceMul]
      first | done | trivial
  · have a1 := decide_eq_false c1
    by_cases c2 : b < 0
    · have a2 := decide_eq_true c2
      simp (disch := omega) only [c24, ↓c24_r0_run, ↓c24_r1_run, ↓c24_r2_run, ↓c24_r3_run, ↓c24_r4_run, ↓c24_r5_run, ↓c24_r6_run, ↓c24_r7_run, wu64, f1, e1, e2, a1, a2, s1, c64 0, c1, c2, ↓RunC_seq, ↓RunC_skip, ↓RunC_ret, ↓RunC_exit, ↓RunC_region, ↓RunC_condQ, condQ_true, condQ_false, ↓RunC_block, ↓RunR_done, ↓RunR_op, ↓RunR_opg, ↓RunR_snap, ↓RunR_chk, Holds, Option.getD_none, Option.getD_some, guardR_true, guardR_false, wantV_bool, wantV_none, callvQ_eq, afterR_some, ↓seqQ_normal, ↓seqQ_ret, ↓seqQ_exit, ↓blockQ_normal, ↓blockQ_ret, ↓blockQ_exit, ↓retQ_ret, ↓retQ_normal, ↓callQ_eq, ↓loopQ_normal, ↓loopQ_ret, ↓loopQ_exit, ↓upd_same, upd_at, sel_t, sel_f, initE_at, obj_upd_same, obj_upd_ne, obj_new_same, obj_updnew_same, obj_updnew_same2, obj_new2_same, obj_new3_same, obj_newupd_same, obj_new_ne, obj_new_ne2, obj_new_ne3, obj_new_ne4, next_upd, next_new, add_plain, cop, bin, binInt, un, shiftInt, flat, read_cells, src_ro, src_fix, src_grow, get_cells, List.getElem?_cons_zero, List.getElem?_cons_succ, write_fix, write_grow, setAt, bound, eqK, elemOk_ro, elemOk_fix, elemOk_grow, stiff_ro, stiff_fix, goInt, resultsV, resV, resL, finQ_some, Option.map_some, Option.map_none, Option.bind_some, Option.bind_none, List.map_cons, List.map_nil, List.getD_cons_zero, List.getD_cons_succ, List.getD_nil, Nat.reduceEqDiff, Nat.reduceAdd, Nat.reduceMul, Nat.reduceSub, Nat.reduceLT, Nat.reduceLeDiff, Nat.reduceBEq, if_true, if_false, ite_true, ite_false, List.length_cons, List.length_nil, Nat.zero_add, Nat.add_zero, List.drop_zero, List.drop_succ_cons, List.take_succ_cons, List.take_zero, List.set_cons_zero, List.set_cons_succ, Int.reduceLT, Int.reduceLE, Bool.not_true, Bool.not_false, Option.isNone_some, Option.isNone_none, decide_true, decide_false, beq_self_eq_true, Bool.false_eq_true, Bool.true_eq_false, if_pos, if_neg, reduceCtorEq, beq_iff_eq, BEq.rfl, wrap_i64, wrap_i32, wrap_i8, wrap_u8, wrap_u32, wrap_u64, Nat.mul_one, Int.toNat_natCast, ints_len, List.length_map, List.length_set, beq_ft, beq_tf, List.all_cons, List.all_nil, scalar, Bool.and_self, Bool.true_and, Bool.and_true, List.size_toArray, List.getElem?_toArray, binStr, fillIn, true_and, and_true, true_or, or_true, bne_self_eq_false, Int.reduceToNat, Int.reduceAdd, Int.reduceSub, Int.reduceMul]
      first | done | trivial
    · have a2 := decide_eq_false c2
      simp (disch := omega) only [c24, ↓c24_r0_run, ↓c24_r1_run, ↓c24_r2_run, ↓c24_r3_run, ↓c24_r4_run, ↓c24_r5_run, ↓c24_r6_run, ↓c24_r7_run, wu64, f1, e1, e2, a1, a2, s1, c64 0, c1, c2, ↓RunC_seq, ↓RunC_skip, ↓RunC_ret, ↓RunC_exit, ↓RunC_region, ↓RunC_condQ, condQ_true, condQ_false, ↓RunC_block, ↓RunR_done, ↓RunR_op, ↓RunR_opg, ↓RunR_snap, ↓RunR_chk, Holds, Option.getD_none, Option.getD_some, guardR_true, guardR_false, wantV_bool, wantV_none, callvQ_eq, afterR_some, ↓seqQ_normal, ↓seqQ_ret, ↓seqQ_exit, ↓blockQ_normal, ↓blockQ_ret, ↓blockQ_exit, ↓retQ_ret, ↓retQ_normal, ↓callQ_eq, ↓loopQ_normal, ↓loopQ_ret, ↓loopQ_exit, ↓upd_same, upd_at, sel_t, sel_f, initE_at, obj_upd_same, obj_upd_ne, obj_new_same, obj_updnew_same, obj_updnew_same2, obj_new2_same, obj_new3_same, obj_newupd_same, obj_new_ne, obj_new_ne2, obj_new_ne3, obj_new_ne4, next_upd, next_new, add_plain, cop, bin, binInt, un, shiftInt, flat, read_cells, src_ro, src_fix, src_grow, get_cells, List.getElem?_cons_zero, List.getElem?_cons_succ, write_fix, write_grow, setAt, bound, eqK, elemOk_ro, elemOk_fix, elemOk_grow, stiff_ro, stiff_fix, goInt, resultsV, resV, resL, finQ_some, Option.map_some, Option.map_none, Option.bind_some, Option.bind_none, List.map_cons, List.map_nil, List.getD_cons_zero, List.getD_cons_succ, List.getD_nil, Nat.reduceEqDiff, Nat.reduceAdd, Nat.reduceMul, Nat.reduceSub, Nat.reduceLT, Nat.reduceLeDiff, Nat.reduceBEq, if_true, if_false, ite_true, ite_false, List.length_cons, List.length_nil, Nat.zero_add, Nat.add_zero, List.drop_zero, List.drop_succ_cons, List.take_succ_cons, List.take_zero, List.set_cons_zero, List.set_cons_succ, Int.reduceLT, Int.reduceLE, Bool.not_true, Bool.not_false, Option.isNone_some, Option.isNone_none, decide_true, decide_false, beq_self_eq_true, Bool.false_eq_true, Bool.true_eq_false, if_pos, if_neg, reduceCtorEq, beq_iff_eq, BEq.rfl, wrap_i64, wrap_i32, wrap_i8, wrap_u8, wrap_u32, wrap_u64, Nat.mul_one, Int.toNat_natCast, ints_len, List.length_map, List.length_set, beq_ft, beq_tf, List.all_cons, List.all_nil, scalar, Bool.and_self, Bool.true_and, Bool.and_true, List.size_toArray, List.getElem?_toArray, binStr, fillIn, true_and, and_true, true_or, or_true, bne_self_eq_false, Int.reduceToNat, Int.reduceAdd, Int.reduceSub, Int.reduceMul]
      first | done | trivial
end Go.Proofs.Ytgmhgpcfkkfolaa.Can
