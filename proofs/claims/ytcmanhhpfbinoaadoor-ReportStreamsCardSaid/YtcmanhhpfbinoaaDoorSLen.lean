/- The length of a number, in the canonical machine. No condition. -/
import Derived.Test.YtcmanhhpfbinoaaDoorCanNum
import Derived.Test.YtcmanhhpfbinoaaDoorCanVec
import Derived.Test.YtcmanhhpfbinoaaDoorTAll
import Derived.Laws.BitsLemmas
namespace Go.Proofs.YtcmanhhpfbinoaaDoor.Can
open Go
set_option linter.unusedSimpArgs false
set_option linter.unusedVariables false
attribute [local congr] RunR_congr RunC_congr afterR_congr guardR_congr condQ_congr CALL_congr finQ_congr op_congr opg_congr

def len8 (x : Nat) : Nat := if x = 0 then 0 else Nat.log2 x + 1
theorem len8_tab : ∀ x : Nat, x < 256 → big1.data[x]? = some (UInt8.ofNat (len8 x)) ∧ len8 x ≤ 8 ∧ x < 2 ^ len8 x ∧ (x ≠ 0 → 2 ^ len8 x ≤ 2 * x) := by decide +kernel
theorem len64_ok (x : Nat) (hx : x < 18446744073709551616) : ∃ n : Nat, n ≤ 64 ∧ x < 2 ^ n ∧ (x ≠ 0 → 2 ^ n ≤ 2 * x) ∧ ∀ (h : Heap) (Q : Value → Heap → Prop), CALL cp 35 [.int .u64 x] h Q ↔ Q (.int .i64 n) h := by
  have step : ∀ (y k n : Nat), y < 2 ^ n → (y ≠ 0 → 2 ^ n ≤ 2 * y) → ∀ z, y = z / 2 ^ k → y ≠ 0 → z < 2 ^ (k + n) ∧ 2 ^ (k + n) ≤ 2 * z := fun y k n h1 h2 z hz hy => by
    have h3 := h2 hy
    subst hz
    have hp := Nat.two_pow_pos k
    rw [Nat.pow_add]
    constructor
    · have := (Nat.div_lt_iff_lt_mul hp).1 h1
      rw [Nat.mul_comm]; exact this
    · have h4 := Nat.mul_le_mul_left (2 ^ k) h3
      have h5 : 2 ^ k * (z / 2 ^ k) ≤ z := Nat.mul_div_le _ _
      rw [Nat.mul_left_comm] at h4
      omega
  -- the last digit
  have last : ∀ (y : Nat), y < 256 → ∃ t, t ≤ 8 ∧ y < 2 ^ t ∧ (y ≠ 0 → 2 ^ t ≤ 2 * y) ∧ ∀ h, cop (.indexStr (.string big1) (.int .u8 y)) h = some (.int .u8 (t : Nat), h) := fun y hy => by
    obtain ⟨h1, h2, h3, h4⟩ := len8_tab y hy
    refine ⟨len8 y, h2, h3, h4, fun h => ?_⟩
    show (if (0 : Int) ≤ (y : Int) then (big1.data[((y : Nat) : Int).toNat]?).map (fun b => (Value.int .u8 b.toNat, h)) else none) = _
    generalize big1.data = d at h1
    rw [if_pos (by omega), Int.toNat_natCast, h1]
    have h5 : (UInt8.ofNat (len8 y)).toNat = len8 y := by simp; omega
    rw [Option.map_some, h5]
  have sh : ∀ (y k : Nat), k ≤ 64 → ((y : Nat) : Int).fdiv (2 ^ (min k IntKind.u64.bits)) = ((y / 2 ^ k : Nat) : Int) := fun y k hk => by
    rw [shr_k .u64 _ k hk, Int.natCast_ediv, Int.natCast_pow]; rfl
  have c8 : ∀ y : Nat, y < 256 → IntKind.u8.wrap (y : Int) = y := fun y hy => by rw [wu8]; omega
  by_cases c0 : 4294967296 ≤ x
  · have a0 : decide (((x : Nat) : Int) ≥ 4294967296) = true := decide_eq_true (by omega)
    have e0 := sh x 32 (by decide)
    obtain ⟨y0, hy0⟩ : ∃ y, y = x / 2 ^ 32 := ⟨_, rfl⟩
    rw [← hy0] at e0
    by_cases c1 : 65536 ≤ y0
    · have a1 : decide (((y0 : Nat) : Int) ≥ 65536) = true := decide_eq_true (by omega)
      have e1 := sh y0 16 (by decide)
      obtain ⟨y1, hy1⟩ : ∃ y, y = y0 / 2 ^ 16 := ⟨_, rfl⟩
      rw [← hy1] at e1
      by_cases c2 : 256 ≤ y1
      · have a2 : decide (((y1 : Nat) : Int) ≥ 256) = true := decide_eq_true (by omega)
        have e2 := sh y1 8 (by decide)
        obtain ⟨y2, hy2⟩ : ∃ y, y = y1 / 2 ^ 8 := ⟨_, rfl⟩
        rw [← hy2] at e2
        obtain ⟨t, t8, u1, u2, f⟩ := last y2 (by omega)
        have k8 := c8 y2 (by omega)
        have b1 := u1
        have b2 := u2
        obtain ⟨b1, b2'⟩ := step y2 8 _ b1 b2 y1 hy2 (by omega)
        have b2 : y1 ≠ 0 → _ := fun _ => b2'
        obtain ⟨b1, b2'⟩ := step y1 16 _ b1 b2 y0 hy1 (by omega)
        have b2 : y0 ≠ 0 → _ := fun _ => b2'
        obtain ⟨b1, b2'⟩ := step y0 32 _ b1 b2 x hy0 (by omega)
        have b2 : x ≠ 0 → _ := fun _ => b2'
        refine ⟨32 + (16 + (8 + t)), by omega, b1, b2, fun h Q => CALL_det ?_ Q⟩
        rw [CALL_enter cp cp35]
        simp (disch := omega) only [c35, ↓c35_r0_run, ↓c35_r1_run, ↓c35_r2_run, ↓c35_r3_run, ↓c35_r4_run, ↓c35_r5_run, ↓c35_r6_run, ↓c35_r7_run, ↓c35_r8_run, ↓c35_r9_run, ↓c35_r10_run, ↓f, a0, e0, a1, e1, a2, e2, k8, ↓RunC_seq, ↓RunC_skip, ↓RunC_ret, ↓RunC_exit, ↓RunC_region, ↓RunC_condQ, condQ_true, condQ_false, ↓RunC_block, ↓RunR_done, ↓RunR_op, ↓RunR_opg, ↓RunR_snap, ↓RunR_chk, Holds, Option.getD_none, Option.getD_some, guardR_true, guardR_false, wantV_bool, wantV_none, callvQ_eq, afterR_some, ↓seqQ_normal, ↓seqQ_ret, ↓seqQ_exit, ↓blockQ_normal, ↓blockQ_ret, ↓blockQ_exit, ↓retQ_ret, ↓retQ_normal, ↓callQ_eq, ↓loopQ_normal, ↓loopQ_ret, ↓loopQ_exit, ↓upd_same, upd_at, sel_t, sel_f, initE_at, obj_upd_same, obj_upd_ne, obj_new_same, obj_updnew_same, obj_updnew_same2, obj_new2_same, obj_new3_same, obj_newupd_same, obj_new_ne, obj_new_ne2, obj_new_ne3, obj_new_ne4, next_upd, next_new, add_plain, cop, bin, binInt, un, shiftInt, flat, read_cells, src_ro, src_fix, src_grow, get_cells, List.getElem?_cons_zero, List.getElem?_cons_succ, write_fix, write_grow, setAt, bound, eqK, elemOk_ro, elemOk_fix, elemOk_grow, stiff_ro, stiff_fix, goInt, resultsV, resV, resL, finQ_some, Option.map_some, Option.map_none, Option.bind_some, Option.bind_none, List.map_cons, List.map_nil, List.getD_cons_zero, List.getD_cons_succ, List.getD_nil, Nat.reduceEqDiff, Nat.reduceAdd, Nat.reduceMul, Nat.reduceSub, Nat.reduceLT, Nat.reduceLeDiff, Nat.reduceBEq, if_true, if_false, ite_true, ite_false, List.length_cons, List.length_nil, Nat.zero_add, Nat.add_zero, List.drop_zero, List.drop_succ_cons, List.take_succ_cons, List.take_zero, List.set_cons_zero, List.set_cons_succ, Int.reduceLT, Int.reduceLE, Bool.not_true, Bool.not_false, Option.isNone_some, Option.isNone_none, decide_true, decide_false, beq_self_eq_true, Bool.false_eq_true, Bool.true_eq_false, if_pos, if_neg, reduceCtorEq, beq_iff_eq, BEq.rfl, wrap_i64, wrap_i32, wrap_i8, wrap_u8, wrap_u32, wrap_u64, Nat.mul_one, Int.toNat_natCast, ints_len, List.length_map, List.length_set, beq_ft, beq_tf, List.all_cons, List.all_nil, scalar, Bool.and_self, Bool.true_and, Bool.and_true, List.size_toArray, List.getElem?_toArray, binStr, fillIn, true_and, and_true, true_or, or_true, bne_self_eq_false, Int.reduceToNat, Int.reduceAdd, Int.reduceSub, Int.reduceMul]
        all_goals first | (congr 1; done) | (congr 1; omega)
      · have a2 : decide (((y1 : Nat) : Int) ≥ 256) = false := decide_eq_false (by omega)
        obtain ⟨t, t8, u1, u2, f⟩ := last y1 (by omega)
        have k8 := c8 y1 (by omega)
        have b1 := u1
        have b2 := u2
        obtain ⟨b1, b2'⟩ := step y1 16 _ b1 b2 y0 hy1 (by omega)
        have b2 : y0 ≠ 0 → _ := fun _ => b2'
        obtain ⟨b1, b2'⟩ := step y0 32 _ b1 b2 x hy0 (by omega)
        have b2 : x ≠ 0 → _ := fun _ => b2'
        refine ⟨32 + (16 + t), by omega, b1, b2, fun h Q => CALL_det ?_ Q⟩
        rw [CALL_enter cp cp35]
        simp (disch := omega) only [c35, ↓c35_r0_run, ↓c35_r1_run, ↓c35_r2_run, ↓c35_r3_run, ↓c35_r4_run, ↓c35_r5_run, ↓c35_r6_run, ↓c35_r7_run, ↓c35_r8_run, ↓c35_r9_run, ↓c35_r10_run, ↓f, a0, e0, a1, e1, a2, k8, ↓RunC_seq, ↓RunC_skip, ↓RunC_ret, ↓RunC_exit, ↓RunC_region, ↓RunC_condQ, condQ_true, condQ_false, ↓RunC_block, ↓RunR_done, ↓RunR_op, ↓RunR_opg, ↓RunR_snap, ↓RunR_chk, Holds, Option.getD_none, Option.getD_some, guardR_true, guardR_false, wantV_bool, wantV_none, callvQ_eq, afterR_some, ↓seqQ_normal, ↓seqQ_ret, ↓seqQ_exit, ↓blockQ_normal, ↓blockQ_ret, ↓blockQ_exit, ↓retQ_ret, ↓retQ_normal, ↓callQ_eq, ↓loopQ_normal, ↓loopQ_ret, ↓loopQ_exit, ↓upd_same, upd_at, sel_t, sel_f, initE_at, obj_upd_same, obj_upd_ne, obj_new_same, obj_updnew_same, obj_updnew_same2, obj_new2_same, obj_new3_same, obj_newupd_same, obj_new_ne, obj_new_ne2, obj_new_ne3, obj_new_ne4, next_upd, next_new, add_plain, cop, bin, binInt, un, shiftInt, flat, read_cells, src_ro, src_fix, src_grow, get_cells, List.getElem?_cons_zero, List.getElem?_cons_succ, write_fix, write_grow, setAt, bound, eqK, elemOk_ro, elemOk_fix, elemOk_grow, stiff_ro, stiff_fix, goInt, resultsV, resV, resL, finQ_some, Option.map_some, Option.map_none, Option.bind_some, Option.bind_none, List.map_cons, List.map_nil, List.getD_cons_zero, List.getD_cons_succ, List.getD_nil, Nat.reduceEqDiff, Nat.reduceAdd, Nat.reduceMul, Nat.reduceSub, Nat.reduceLT, Nat.reduceLeDiff, Nat.reduceBEq, if_true, if_false, ite_true, ite_false, List.length_cons, List.length_nil, Nat.zero_add, Nat.add_zero, List.drop_zero, List.drop_succ_cons, List.take_succ_cons, List.take_zero, List.set_cons_zero, List.set_cons_succ, Int.reduceLT, Int.reduceLE, Bool.not_true, Bool.not_false, Option.isNone_some, Option.isNone_none, decide_true, decide_false, beq_self_eq_true, Bool.false_eq_true, Bool.true_eq_false, if_pos, if_neg, reduceCtorEq, beq_iff_eq, BEq.rfl, wrap_i64, wrap_i32, wrap_i8, wrap_u8, wrap_u32, wrap_u64, Nat.mul_one, Int.toNat_natCast, ints_len, List.length_map, List.length_set, beq_ft, beq_tf, List.all_cons, List.all_nil, scalar, Bool.and_self, Bool.true_and, Bool.and_true, List.size_toArray, List.getElem?_toArray, binStr, fillIn, true_and, and_true, true_or, or_true, bne_self_eq_false, Int.reduceToNat, Int.reduceAdd, Int.reduceSub, Int.reduceMul]
        all_goals first | (congr 1; done) | (congr 1; omega)
    · have a1 : decide (((y0 : Nat) : Int) ≥ 65536) = false := decide_eq_false (by omega)
      by_cases c2 : 256 ≤ y0
      · have a2 : decide (((y0 : Nat) : Int) ≥ 256) = true := decide_eq_true (by omega)
        have e2 := sh y0 8 (by decide)
        obtain ⟨y2, hy2⟩ : ∃ y, y = y0 / 2 ^ 8 := ⟨_, rfl⟩
        rw [← hy2] at e2
        obtain ⟨t, t8, u1, u2, f⟩ := last y2 (by omega)
        have k8 := c8 y2 (by omega)
        have b1 := u1
        have b2 := u2
        obtain ⟨b1, b2'⟩ := step y2 8 _ b1 b2 y0 hy2 (by omega)
        have b2 : y0 ≠ 0 → _ := fun _ => b2'
        obtain ⟨b1, b2'⟩ := step y0 32 _ b1 b2 x hy0 (by omega)
        have b2 : x ≠ 0 → _ := fun _ => b2'
        refine ⟨32 + (8 + t), by omega, b1, b2, fun h Q => CALL_det ?_ Q⟩
        rw [CALL_enter cp cp35]
        simp (disch := omega) only [c35, ↓c35_r0_run, ↓c35_r1_run, ↓c35_r2_run, ↓c35_r3_run, ↓c35_r4_run, ↓c35_r5_run, ↓c35_r6_run, ↓c35_r7_run, ↓c35_r8_run, ↓c35_r9_run, ↓c35_r10_run, ↓f, a0, e0, a1, a2, e2, k8, ↓RunC_seq, ↓RunC_skip, ↓RunC_ret, ↓RunC_exit, ↓RunC_region, ↓RunC_condQ, condQ_true, condQ_false, ↓RunC_block, ↓RunR_done, ↓RunR_op, ↓RunR_opg, ↓RunR_snap, ↓RunR_chk, Holds, Option.getD_none, Option.getD_some, guardR_true, guardR_false, wantV_bool, wantV_none, callvQ_eq, afterR_some, ↓seqQ_normal, ↓seqQ_ret, ↓seqQ_exit, ↓blockQ_normal, ↓blockQ_ret, ↓blockQ_exit, ↓retQ_ret, ↓retQ_normal, ↓callQ_eq, ↓loopQ_normal, ↓loopQ_ret, ↓loopQ_exit, ↓upd_same, upd_at, sel_t, sel_f, initE_at, obj_upd_same, obj_upd_ne, obj_new_same, obj_updnew_same, obj_updnew_same2, obj_new2_same, obj_new3_same, obj_newupd_same, obj_new_ne, obj_new_ne2, obj_new_ne3, obj_new_ne4, next_upd, next_new, add_plain, cop, bin, binInt, un, shiftInt, flat, read_cells, src_ro, src_fix, src_grow, get_cells, List.getElem?_cons_zero, List.getElem?_cons_succ, write_fix, write_grow, setAt, bound, eqK, elemOk_ro, elemOk_fix, elemOk_grow, stiff_ro, stiff_fix, goInt, resultsV, resV, resL, finQ_some, Option.map_some, Option.map_none, Option.bind_some, Option.bind_none, List.map_cons, List.map_nil, List.getD_cons_zero, List.getD_cons_succ, List.getD_nil, Nat.reduceEqDiff, Nat.reduceAdd, Nat.reduceMul, Nat.reduceSub, Nat.reduceLT, Nat.reduceLeDiff, Nat.reduceBEq, if_true, if_false, ite_true, ite_false, List.length_cons, List.length_nil, Nat.zero_add, Nat.add_zero, List.drop_zero, List.drop_succ_cons, List.take_succ_cons, List.take_zero, List.set_cons_zero, List.set_cons_succ, Int.reduceLT, Int.reduceLE, Bool.not_true, Bool.not_false, Option.isNone_some, Option.isNone_none, decide_true, decide_false, beq_self_eq_true, Bool.false_eq_true, Bool.true_eq_false, if_pos, if_neg, reduceCtorEq, beq_iff_eq, BEq.rfl, wrap_i64, wrap_i32, wrap_i8, wrap_u8, wrap_u32, wrap_u64, Nat.mul_one, Int.toNat_natCast, ints_len, List.length_map, List.length_set, beq_ft, beq_tf, List.all_cons, List.all_nil, scalar, Bool.and_self, Bool.true_and, Bool.and_true, List.size_toArray, List.getElem?_toArray, binStr, fillIn, true_and, and_true, true_or, or_true, bne_self_eq_false, Int.reduceToNat, Int.reduceAdd, Int.reduceSub, Int.reduceMul]
        all_goals first | (congr 1; done) | (congr 1; omega)
      · have a2 : decide (((y0 : Nat) : Int) ≥ 256) = false := decide_eq_false (by omega)
        obtain ⟨t, t8, u1, u2, f⟩ := last y0 (by omega)
        have k8 := c8 y0 (by omega)
        have b1 := u1
        have b2 := u2
        obtain ⟨b1, b2'⟩ := step y0 32 _ b1 b2 x hy0 (by omega)
        have b2 : x ≠ 0 → _ := fun _ => b2'
        refine ⟨32 + t, by omega, b1, b2, fun h Q => CALL_det ?_ Q⟩
        rw [CALL_enter cp cp35]
        simp (disch := omega) only [c35, ↓c35_r0_run, ↓c35_r1_run, ↓c35_r2_run, ↓c35_r3_run, ↓c35_r4_run, ↓c35_r5_run, ↓c35_r6_run, ↓c35_r7_run, ↓c35_r8_run, ↓c35_r9_run, ↓c35_r10_run, ↓f, a0, e0, a1, a2, k8, ↓RunC_seq, ↓RunC_skip, ↓RunC_ret, ↓RunC_exit, ↓RunC_region, ↓RunC_condQ, condQ_true, condQ_false, ↓RunC_block, ↓RunR_done, ↓RunR_op, ↓RunR_opg, ↓RunR_snap, ↓RunR_chk, Holds, Option.getD_none, Option.getD_some, guardR_true, guardR_false, wantV_bool, wantV_none, callvQ_eq, afterR_some, ↓seqQ_normal, ↓seqQ_ret, ↓seqQ_exit, ↓blockQ_normal, ↓blockQ_ret, ↓blockQ_exit, ↓retQ_ret, ↓retQ_normal, ↓callQ_eq, ↓loopQ_normal, ↓loopQ_ret, ↓loopQ_exit, ↓upd_same, upd_at, sel_t, sel_f, initE_at, obj_upd_same, obj_upd_ne, obj_new_same, obj_updnew_same, obj_updnew_same2, obj_new2_same, obj_new3_same, obj_newupd_same, obj_new_ne, obj_new_ne2, obj_new_ne3, obj_new_ne4, next_upd, next_new, add_plain, cop, bin, binInt, un, shiftInt, flat, read_cells, src_ro, src_fix, src_grow, get_cells, List.getElem?_cons_zero, List.getElem?_cons_succ, write_fix, write_grow, setAt, bound, eqK, elemOk_ro, elemOk_fix, elemOk_grow, stiff_ro, stiff_fix, goInt, resultsV, resV, resL, finQ_some, Option.map_some, Option.map_none, Option.bind_some, Option.bind_none, List.map_cons, List.map_nil, List.getD_cons_zero, List.getD_cons_succ, List.getD_nil, Nat.reduceEqDiff, Nat.reduceAdd, Nat.reduceMul, Nat.reduceSub, Nat.reduceLT, Nat.reduceLeDiff, Nat.reduceBEq, if_true, if_false, ite_true, ite_false, List.length_cons, List.length_nil, Nat.zero_add, Nat.add_zero, List.drop_zero, List.drop_succ_cons, List.take_succ_cons, List.take_zero, List.set_cons_zero, List.set_cons_succ, Int.reduceLT, Int.reduceLE, Bool.not_true, Bool.not_false, Option.isNone_some, Option.isNone_none, decide_true, decide_false, beq_self_eq_true, Bool.false_eq_true, Bool.true_eq_false, if_pos, if_neg, reduceCtorEq, beq_iff_eq, BEq.rfl, wrap_i64, wrap_i32, wrap_i8, wrap_u8, wrap_u32, wrap_u64, Nat.mul_one, Int.toNat_natCast, ints_len, List.length_map, List.length_set, beq_ft, beq_tf, List.all_cons, List.all_nil, scalar, Bool.and_self, Bool.true_and, Bool.and_true, List.size_toArray, List.getElem?_toArray, binStr, fillIn, true_and, and_true, true_or, or_true, bne_self_eq_false, Int.reduceToNat, Int.reduceAdd, Int.reduceSub, Int.reduceMul]
        all_goals first | (congr 1; done) | (congr 1; omega)
  · have a0 : decide (((x : Nat) : Int) ≥ 4294967296) = false := decide_eq_false (by omega)
    by_cases c1 : 65536 ≤ x
    · have a1 : decide (((x : Nat) : Int) ≥ 65536) = true := decide_eq_true (by omega)
      have e1 := sh x 16 (by decide)
      obtain ⟨y1, hy1⟩ : ∃ y, y = x / 2 ^ 16 := ⟨_, rfl⟩
      rw [← hy1] at e1
      by_cases c2 : 256 ≤ y1
      · have a2 : decide (((y1 : Nat) : Int) ≥ 256) = true := decide_eq_true (by omega)
        have e2 := sh y1 8 (by decide)
        obtain ⟨y2, hy2⟩ : ∃ y, y = y1 / 2 ^ 8 := ⟨_, rfl⟩
        rw [← hy2] at e2
        obtain ⟨t, t8, u1, u2, f⟩ := last y2 (by omega)
        have k8 := c8 y2 (by omega)
        have b1 := u1
        have b2 := u2
        obtain ⟨b1, b2'⟩ := step y2 8 _ b1 b2 y1 hy2 (by omega)
        have b2 : y1 ≠ 0 → _ := fun _ => b2'
        obtain ⟨b1, b2'⟩ := step y1 16 _ b1 b2 x hy1 (by omega)
        have b2 : x ≠ 0 → _ := fun _ => b2'
        refine ⟨16 + (8 + t), by omega, b1, b2, fun h Q => CALL_det ?_ Q⟩
        rw [CALL_enter cp cp35]
        simp (disch := omega) only [c35, ↓c35_r0_run, ↓c35_r1_run, ↓c35_r2_run, ↓c35_r3_run, ↓c35_r4_run, ↓c35_r5_run, ↓c35_r6_run, ↓c35_r7_run, ↓c35_r8_run, ↓c35_r9_run, ↓c35_r10_run, ↓f, a0, a1, e1, a2, e2, k8, ↓RunC_seq, ↓RunC_skip, ↓RunC_ret, ↓RunC_exit, ↓RunC_region, ↓RunC_condQ, condQ_true, condQ_false, ↓RunC_block, ↓RunR_done, ↓RunR_op, ↓RunR_opg, ↓RunR_snap, ↓RunR_chk, Holds, Option.getD_none, Option.getD_some, guardR_true, guardR_false, wantV_bool, wantV_none, callvQ_eq, afterR_some, ↓seqQ_normal, ↓seqQ_ret, ↓seqQ_exit, ↓blockQ_normal, ↓blockQ_ret, ↓blockQ_exit, ↓retQ_ret, ↓retQ_normal, ↓callQ_eq, ↓loopQ_normal, ↓loopQ_ret, ↓loopQ_exit, ↓upd_same, upd_at, sel_t, sel_f, initE_at, obj_upd_same, obj_upd_ne, obj_new_same, obj_updnew_same, obj_updnew_same2, obj_new2_same, obj_new3_same, obj_newupd_same, obj_new_ne, obj_new_ne2, obj_new_ne3, obj_new_ne4, next_upd, next_new, add_plain, cop, bin, binInt, un, shiftInt, flat, read_cells, src_ro, src_fix, src_grow, get_cells, List.getElem?_cons_zero, List.getElem?_cons_succ, write_fix, write_grow, setAt, bound, eqK, elemOk_ro, elemOk_fix, elemOk_grow, stiff_ro, stiff_fix, goInt, resultsV, resV, resL, finQ_some, Option.map_some, Option.map_none, Option.bind_some, Option.bind_none, List.map_cons, List.map_nil, List.getD_cons_zero, List.getD_cons_succ, List.getD_nil, Nat.reduceEqDiff, Nat.reduceAdd, Nat.reduceMul, Nat.reduceSub, Nat.reduceLT, Nat.reduceLeDiff, Nat.reduceBEq, if_true, if_false, ite_true, ite_false, List.length_cons, List.length_nil, Nat.zero_add, Nat.add_zero, List.drop_zero, List.drop_succ_cons, List.take_succ_cons, List.take_zero, List.set_cons_zero, List.set_cons_succ, Int.reduceLT, Int.reduceLE, Bool.not_true, Bool.not_false, Option.isNone_some, Option.isNone_none, decide_true, decide_false, beq_self_eq_true, Bool.false_eq_true, Bool.true_eq_false, if_pos, if_neg, reduceCtorEq, beq_iff_eq, BEq.rfl, wrap_i64, wrap_i32, wrap_i8, wrap_u8, wrap_u32, wrap_u64, Nat.mul_one, Int.toNat_natCast, ints_len, List.length_map, List.length_set, beq_ft, beq_tf, List.all_cons, List.all_nil, scalar, Bool.and_self, Bool.true_and, Bool.and_true, List.size_toArray, List.getElem?_toArray, binStr, fillIn, true_and, and_true, true_or, or_true, bne_self_eq_false, Int.reduceToNat, Int.reduceAdd, Int.reduceSub, Int.reduceMul]
        all_goals first | (congr 1; done) | (congr 1; omega)
      · have a2 : decide (((y1 : Nat) : Int) ≥ 256) = false := decide_eq_false (by omega)
        obtain ⟨t, t8, u1, u2, f⟩ := last y1 (by omega)
        have k8 := c8 y1 (by omega)
        have b1 := u1
        have b2 := u2
        obtain ⟨b1, b2'⟩ := step y1 16 _ b1 b2 x hy1 (by omega)
        have b2 : x ≠ 0 → _ := fun _ => b2'
        refine ⟨16 + t, by omega, b1, b2, fun h Q => CALL_det ?_ Q⟩
        rw [CALL_enter cp cp35]
        simp (disch := omega) only [c35, ↓c35_r0_run, ↓c35_r1_run, ↓c35_r2_run, ↓c35_r3_run, ↓c35_r4_run, ↓c35_r5_run, ↓c35_r6_run, ↓c35_r7_run, ↓c35_r8_run, ↓c35_r9_run, ↓c35_r10_run, ↓f, a0, a1, e1, a2, k8, ↓RunC_seq, ↓RunC_skip, ↓RunC_ret, ↓RunC_exit, ↓RunC_region, ↓RunC_condQ, condQ_true, condQ_false, ↓RunC_block, ↓RunR_done, ↓RunR_op, ↓RunR_opg, ↓RunR_snap, ↓RunR_chk, Holds, Option.getD_none, Option.getD_some, guardR_true, guardR_false, wantV_bool, wantV_none, callvQ_eq, afterR_some, ↓seqQ_normal, ↓seqQ_ret, ↓seqQ_exit, ↓blockQ_normal, ↓blockQ_ret, ↓blockQ_exit, ↓retQ_ret, ↓retQ_normal, ↓callQ_eq, ↓loopQ_normal, ↓loopQ_ret, ↓loopQ_exit, ↓upd_same, upd_at, sel_t, sel_f, initE_at, obj_upd_same, obj_upd_ne, obj_new_same, obj_updnew_same, obj_updnew_same2, obj_new2_same, obj_new3_same, obj_newupd_same, obj_new_ne, obj_new_ne2, obj_new_ne3, obj_new_ne4, next_upd, next_new, add_plain, cop, bin, binInt, un, shiftInt, flat, read_cells, src_ro, src_fix, src_grow, get_cells, List.getElem?_cons_zero, List.getElem?_cons_succ, write_fix, write_grow, setAt, bound, eqK, elemOk_ro, elemOk_fix, elemOk_grow, stiff_ro, stiff_fix, goInt, resultsV, resV, resL, finQ_some, Option.map_some, Option.map_none, Option.bind_some, Option.bind_none, List.map_cons, List.map_nil, List.getD_cons_zero, List.getD_cons_succ, List.getD_nil, Nat.reduceEqDiff, Nat.reduceAdd, Nat.reduceMul, Nat.reduceSub, Nat.reduceLT, Nat.reduceLeDiff, Nat.reduceBEq, if_true, if_false, ite_true, ite_false, List.length_cons, List.length_nil, Nat.zero_add, Nat.add_zero, List.drop_zero, List.drop_succ_cons, List.take_succ_cons, List.take_zero, List.set_cons_zero, List.set_cons_succ, Int.reduceLT, Int.reduceLE, Bool.not_true, Bool.not_false, Option.isNone_some, Option.isNone_none, decide_true, decide_false, beq_self_eq_true, Bool.false_eq_true, Bool.true_eq_false, if_pos, if_neg, reduceCtorEq, beq_iff_eq, BEq.rfl, wrap_i64, wrap_i32, wrap_i8, wrap_u8, wrap_u32, wrap_u64, Nat.mul_one, Int.toNat_natCast, ints_len, List.length_map, List.length_set, beq_ft, beq_tf, List.all_cons, List.all_nil, scalar, Bool.and_self, Bool.true_and, Bool.and_true, List.size_toArray, List.getElem?_toArray, binStr, fillIn, true_and, and_true, true_or, or_true, bne_self_eq_false, Int.reduceToNat, Int.reduceAdd, Int.reduceSub, Int.reduceMul]
        all_goals first | (congr 1; done) | (congr 1; omega)
    · have a1 : decide (((x : Nat) : Int) ≥ 65536) = false := decide_eq_false (by omega)
      by_cases c2 : 256 ≤ x
      · have a2 : decide (((x : Nat) : Int) ≥ 256) = true := decide_eq_true (by omega)
        have e2 := sh x 8 (by decide)
        obtain ⟨y2, hy2⟩ : ∃ y, y = x / 2 ^ 8 := ⟨_, rfl⟩
        rw [← hy2] at e2
        obtain ⟨t, t8, u1, u2, f⟩ := last y2 (by omega)
        have k8 := c8 y2 (by omega)
        have b1 := u1
        have b2 := u2
        obtain ⟨b1, b2'⟩ := step y2 8 _ b1 b2 x hy2 (by omega)
        have b2 : x ≠ 0 → _ := fun _ => b2'
        refine ⟨8 + t, by omega, b1, b2, fun h Q => CALL_det ?_ Q⟩
        rw [CALL_enter cp cp35]
        simp (disch := omega) only [c35, ↓c35_r0_run, ↓c35_r1_run, ↓c35_r2_run, ↓c35_r3_run, ↓c35_r4_run, ↓c35_r5_run, ↓c35_r6_run, ↓c35_r7_run, ↓c35_r8_run, ↓c35_r9_run, ↓c35_r10_run, ↓f, a0, a1, a2, e2, k8, ↓RunC_seq, ↓RunC_skip, ↓RunC_ret, ↓RunC_exit, ↓RunC_region, ↓RunC_condQ, condQ_true, condQ_false, ↓RunC_block, ↓RunR_done, ↓RunR_op, ↓RunR_opg, ↓RunR_snap, ↓RunR_chk, Holds, Option.getD_none, Option.getD_some, guardR_true, guardR_false, wantV_bool, wantV_none, callvQ_eq, afterR_some, ↓seqQ_normal, ↓seqQ_ret, ↓seqQ_exit, ↓blockQ_normal, ↓blockQ_ret, ↓blockQ_exit, ↓retQ_ret, ↓retQ_normal, ↓callQ_eq, ↓loopQ_normal, ↓loopQ_ret, ↓loopQ_exit, ↓upd_same, upd_at, sel_t, sel_f, initE_at, obj_upd_same, obj_upd_ne, obj_new_same, obj_updnew_same, obj_updnew_same2, obj_new2_same, obj_new3_same, obj_newupd_same, obj_new_ne, obj_new_ne2, obj_new_ne3, obj_new_ne4, next_upd, next_new, add_plain, cop, bin, binInt, un, shiftInt, flat, read_cells, src_ro, src_fix, src_grow, get_cells, List.getElem?_cons_zero, List.getElem?_cons_succ, write_fix, write_grow, setAt, bound, eqK, elemOk_ro, elemOk_fix, elemOk_grow, stiff_ro, stiff_fix, goInt, resultsV, resV, resL, finQ_some, Option.map_some, Option.map_none, Option.bind_some, Option.bind_none, List.map_cons, List.map_nil, List.getD_cons_zero, List.getD_cons_succ, List.getD_nil, Nat.reduceEqDiff, Nat.reduceAdd, Nat.reduceMul, Nat.reduceSub, Nat.reduceLT, Nat.reduceLeDiff, Nat.reduceBEq, if_true, if_false, ite_true, ite_false, List.length_cons, List.length_nil, Nat.zero_add, Nat.add_zero, List.drop_zero, List.drop_succ_cons, List.take_succ_cons, List.take_zero, List.set_cons_zero, List.set_cons_succ, Int.reduceLT, Int.reduceLE, Bool.not_true, Bool.not_false, Option.isNone_some, Option.isNone_none, decide_true, decide_false, beq_self_eq_true, Bool.false_eq_true, Bool.true_eq_false, if_pos, if_neg, reduceCtorEq, beq_iff_eq, BEq.rfl, wrap_i64, wrap_i32, wrap_i8, wrap_u8, wrap_u32, wrap_u64, Nat.mul_one, Int.toNat_natCast, ints_len, List.length_map, List.length_set, beq_ft, beq_tf, List.all_cons, List.all_nil, scalar, Bool.and_self, Bool.true_and, Bool.and_true, List.size_toArray, List.getElem?_toArray, binStr, fillIn, true_and, and_true, true_or, or_true, bne_self_eq_false, Int.reduceToNat, Int.reduceAdd, Int.reduceSub, Int.reduceMul]
        all_goals first | (congr 1; done) | (congr 1; omega)
      · have a2 : decide (((x : Nat) : Int) ≥ 256) = false := decide_eq_false (by omega)
        obtain ⟨t, t8, u1, u2, f⟩ := last x (by omega)
        have k8 := c8 x (by omega)
        have b1 := u1
        have b2 := u2
        refine ⟨t, by omega, b1, b2, fun h Q => CALL_det ?_ Q⟩
        rw [CALL_enter cp cp35]
        simp (disch := omega) only [c35, ↓c35_r0_run, ↓c35_r1_run, ↓c35_r2_run, ↓c35_r3_run, ↓c35_r4_run, ↓c35_r5_run, ↓c35_r6_run, ↓c35_r7_run, ↓c35_r8_run, ↓c35_r9_run, ↓c35_r10_run, ↓f, a0, a1, a2, k8, ↓RunC_seq, ↓RunC_skip, ↓RunC_ret, ↓RunC_exit, ↓RunC_region, ↓RunC_condQ, condQ_true, condQ_false, ↓RunC_block, ↓RunR_done, ↓RunR_op, ↓RunR_opg, ↓RunR_snap, ↓RunR_chk, Holds, Option.getD_none, Option.getD_some, guardR_true, guardR_false, wantV_bool, wantV_none, callvQ_eq, afterR_some, ↓seqQ_normal, ↓seqQ_ret, ↓seqQ_exit, ↓blockQ_normal, ↓blockQ_ret, ↓blockQ_exit, ↓retQ_ret, ↓retQ_normal, ↓callQ_eq, ↓loopQ_normal, ↓loopQ_ret, ↓loopQ_exit, ↓upd_same, upd_at, sel_t, sel_f, initE_at, obj_upd_same, obj_upd_ne, obj_new_same, obj_updnew_same, obj_updnew_same2, obj_new2_same, obj_new3_same, obj_newupd_same, obj_new_ne, obj_new_ne2, obj_new_ne3, obj_new_ne4, next_upd, next_new, add_plain, cop, bin, binInt, un, shiftInt, flat, read_cells, src_ro, src_fix, src_grow, get_cells, List.getElem?_cons_zero, List.getElem?_cons_succ, write_fix, write_grow, setAt, bound, eqK, elemOk_ro, elemOk_fix, elemOk_grow, stiff_ro, stiff_fix, goInt, resultsV, resV, resL, finQ_some, Option.map_some, Option.map_none, Option.bind_some, Option.bind_none, List.map_cons, List.map_nil, List.getD_cons_zero, List.getD_cons_succ, List.getD_nil, Nat.reduceEqDiff, Nat.reduceAdd, Nat.reduceMul, Nat.reduceSub, Nat.reduceLT, Nat.reduceLeDiff, Nat.reduceBEq, if_true, if_false, ite_true, ite_false, List.length_cons, List.length_nil, Nat.zero_add, Nat.add_zero, List.drop_zero, List.drop_succ_cons, List.take_succ_cons, List.take_zero, List.set_cons_zero, List.set_cons_succ, Int.reduceLT, Int.reduceLE, Bool.not_true, Bool.not_false, Option.isNone_some, Option.isNone_none, decide_true, decide_false, beq_self_eq_true, Bool.false_eq_true, Bool.true_eq_false, if_pos, if_neg, reduceCtorEq, beq_iff_eq, BEq.rfl, wrap_i64, wrap_i32, wrap_i8, wrap_u8, wrap_u32, wrap_u64, Nat.mul_one, Int.toNat_natCast, ints_len, List.length_map, List.length_set, beq_ft, beq_tf, List.all_cons, List.all_nil, scalar, Bool.and_self, Bool.true_and, Bool.and_true, List.size_toArray, List.getElem?_toArray, binStr, fillIn, true_and, and_true, true_or, or_true, bne_self_eq_false, Int.reduceToNat, Int.reduceAdd, Int.reduceSub, Int.reduceMul]
        all_goals first | (congr 1; done) | (congr 1; omega)
end Go.Proofs.YtcmanhhpfbinoaaDoor.Can
