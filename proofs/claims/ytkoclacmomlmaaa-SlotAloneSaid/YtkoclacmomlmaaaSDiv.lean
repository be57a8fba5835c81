/- The length of a number, and division of 128 by 64 bits, in the canonical machine. No condition. -/
import Derived.Test.YtkoclacmomlmaaaSArith
import Derived.Test.YtkoclacmomlmaaaDigit
import Derived.Test.YtkoclacmomlmaaaCanVec
import Derived.Laws.BitsLemmas
namespace Go.Proofs.Ytkoclacmomlmaaa.Can
open Go
set_option linter.unusedSimpArgs false
set_option linter.unusedVariables false
attribute [local congr] RunR_congr RunC_congr afterR_congr guardR_congr condQ_congr CALL_congr finQ_congr op_congr opg_congr

def len8 (x : Nat) : Nat := if x = 0 then 0 else Nat.log2 x + 1
theorem len8_tab : ∀ x : Nat, x < 256 → big0.data[x]? = some (UInt8.ofNat (len8 x)) ∧ len8 x ≤ 8 ∧ x < 2 ^ len8 x ∧ (x ≠ 0 → 2 ^ len8 x ≤ 2 * x) := by decide +kernel
theorem len64_ok (x : Nat) (hx : x < 18446744073709551616) : ∃ n : Nat, n ≤ 64 ∧ x < 2 ^ n ∧ (x ≠ 0 → 2 ^ n ≤ 2 * x) ∧ ∀ (h : Heap) (Q : Value → Heap → Prop), CALL cp 45 [.int .u64 x] h Q ↔ Q (.int .i64 n) h := by
  have step : ∀ (y k n : Nat), y < 2 ^ n → (y ≠ 0 → 2 ^ n ≤ 2 * y) → ∀ z, y = z / 2 ^ k → y ≠ 0 → z < 2 ^ (k + n) ∧ 2 ^ (k + n) ≤ 2 * z := fun y k n h1 h2 z hz hy => by
    have h3 := h2 hy
    subst hz
    have hp := Nat.two_pow_pos k
    rw [Nat.pow_add]
    constructor
    · have := (Nat.div_lt_iff_lt_mul hp).1 h1
      rw [Nat.mul_comm]; exact this
    · have h4 := Nat.mul_le_mul_left (2 ^ k) h3
      have h5 : 2 ^ k * (z / 2 ^ k) ≤ z := Nat.mul_div_le _ _
      rw [Nat.mul_left_comm] at h4
      omega
  -- the last digit
  have last : ∀ (y : Nat), y < 256 → ∃ t, t ≤ 8 ∧ y < 2 ^ t ∧ (y ≠ 0 → 2 ^ t ≤ 2 * y) ∧ ∀ h, cop (.indexStr (.string big0) (.int .u8 y)) h = some (.int .u8 (t : Nat), h) := fun y hy => by
    obtain ⟨h1, h2, h3, h4⟩ := len8_tab y hy
    refine ⟨len8 y, h2, h3, h4, fun h => ?_⟩
    show (if (0 : Int) ≤ (y : Int) then (big0.data[((y : Nat) : Int).toNat]?).map (fun b => (Value.int .u8 b.toNat, h)) else none) = _
    generalize big0.data = d at h1
    rw [if_pos (by omega), Int.toNat_natCast, h1]
    have h5 : (UInt8.ofNat (len8 y)).toNat = len8 y := by simp; omega
    rw [Option.map_some, h5]
  have sh : ∀ (y k : Nat), k ≤ 64 → ((y : Nat) : Int).fdiv (2 ^ (min k IntKind.u64.bits)) = ((y / 2 ^ k : Nat) : Int) := fun y k hk => by
    rw [shr_k .u64 _ k hk, Int.natCast_ediv, Int.natCast_pow]; rfl
  have c8 : ∀ y : Nat, y < 256 → IntKind.u8.wrap (y : Int) = y := fun y hy => by rw [wu8]; omega
  by_cases c0 : 4294967296 ≤ x
  · have a0 : decide (((x : Nat) : Int) ≥ 4294967296) = true := decide_eq_true (by omega)
    have e0 := sh x 32 (by decide)
    obtain ⟨y0, hy0⟩ : ∃ y, y = x / 2 ^ 32 := ⟨_, rfl⟩
    rw [← hy0] at e0
    by_cases c1 : 65536 ≤ y0
    · have a1 : decide (((y0 : Nat) : Int) ≥ 65536) = true := decide_eq_true (by omega)
      have e1 := sh y0 16 (by decide)
      obtain ⟨y1, hy1⟩ : ∃ y, y = y0 / 2 ^ 16 := ⟨_, rfl⟩
      rw [← hy1] at e1
      by_cases c2 : 256 ≤ y1
      · have a2 : decide (((y1 : Nat) : Int) ≥ 256) = true := decide_eq_true (by omega)
        have e2 := sh y1 8 (by decide)
        obtain ⟨y2, hy2⟩ : ∃ y, y = y1 / 2 ^ 8 := ⟨_, rfl⟩
        rw [← hy2] at e2
        obtain ⟨t, t8, u1, u2, f⟩ := last y2 (by omega)
        have k8 := c8 y2 (by omega)
        have b1 := u1
        have b2 := u2
        obtain ⟨b1, b2'⟩ := step y2 8 _ b1 b2 y1 hy2 (by omega)
        have b2 : y1 ≠ 0 → _ := fun _ => b2'
        obtain ⟨b1, b2'⟩ := step y1 16 _ b1 b2 y0 hy1 (by omega)
        have b2 : y0 ≠ 0 → _ := fun _ => b2'
        obtain ⟨b1, b2'⟩ := step y0 32 _ b1 b2 x hy0 (by omega)
        have b2 : x ≠ 0 → _ := fun _ => b2'
        refine ⟨32 + (16 + (8 + t)), by omega, b1, b2, fun h Q => CALL_det ?_ Q⟩
        rw [CALL_enter cp cp45]
        simp (disch := omega) only [c45, ↓c45_r0_run, ↓c45_r1_run, ↓c45_r2_run, ↓c45_r3_run, ↓c45_r4_run, ↓c45_r5_run, ↓c45_r6_run, ↓c45_r7_run, ↓c45_r8_run, ↓c45_r9_run, ↓c45_r10_run, ↓f, a0, e0, a1, e1, a2, e2, k8, ↓RunC_seq, ↓RunC_skip, ↓RunC_ret, ↓RunC_exit, ↓RunC_region, ↓RunC_condQ, condQ_true, condQ_false, ↓RunC_block, ↓RunR_done, ↓RunR_op, ↓RunR_opg, ↓RunR_snap, ↓RunR_chk, Holds, Option.getD_none, Option.getD_some, guardR_true, guardR_false, wantV_bool, wantV_none, callvQ_eq, afterR_some, ↓seqQ_normal, ↓seqQ_ret, ↓seqQ_exit, ↓blockQ_normal, ↓blockQ_ret, ↓blockQ_exit, ↓retQ_ret, ↓retQ_normal, ↓callQ_eq, ↓loopQ_normal, ↓loopQ_ret, ↓loopQ_exit, ↓upd_same, upd_at, sel_t, sel_f, initE_at, obj_upd_same, obj_upd_ne, obj_new_same, obj_updnew_same, obj_updnew_same2, obj_new2_same, obj_new3_same, obj_newupd_same, obj_new_ne, obj_new_ne2, obj_new_ne3, obj_new_ne4, next_upd, next_new, add_plain, cop, bin, binInt, un, shiftInt, flat, read_cells, src_ro, src_fix, src_grow, get_cells, List.getElem?_cons_zero, List.getElem?_cons_succ, write_fix, write_grow, setAt, bound, eqK, elemOk_ro, elemOk_fix, elemOk_grow, stiff_ro, stiff_fix, goInt, resultsV, resV, resL, finQ_some, Option.map_some, Option.map_none, Option.bind_some, Option.bind_none, List.map_cons, List.map_nil, List.getD_cons_zero, List.getD_cons_succ, List.getD_nil, Nat.reduceEqDiff, Nat.reduceAdd, Nat.reduceMul, Nat.reduceSub, Nat.reduceLT, Nat.reduceLeDiff, Nat.reduceBEq, if_true, if_false, ite_true, ite_false, List.length_cons, List.length_nil, Nat.zero_add, Nat.add_zero, List.drop_zero, List.drop_succ_cons, List.take_succ_cons, List.take_zero, List.set_cons_zero, List.set_cons_succ, Int.reduceLT, Int.reduceLE, Bool.not_true, Bool.not_false, Option.isNone_some, Option.isNone_none, decide_true, decide_false, beq_self_eq_true, Bool.false_eq_true, Bool.true_eq_false, if_pos, if_neg, reduceCtorEq, beq_iff_eq, BEq.rfl, wrap_i64, wrap_i32, wrap_i8, wrap_u8, wrap_u32, wrap_u64, Nat.mul_one, Int.toNat_natCast, ints_len, List.length_map, List.length_set, beq_ft, beq_tf, List.all_cons, List.all_nil, scalar, Bool.and_self, Bool.true_and, Bool.and_true, List.size_toArray, List.getElem?_toArray, binStr, fillIn, true_and, and_true, true_or, or_true, bne_self_eq_false, Int.reduceToNat, Int.reduceAdd, Int.reduceSub, Int.reduceMul]
        all_goals first | (congr 1; done) | (congr 1; omega)
      · have a2 : decide (((y1 : Nat) : Int) ≥ 256) = false := decide_eq_false (by omega)
        obtain ⟨t, t8, u1, u2, f⟩ := last y1 (by omega)
        have k8 := c8 y1 (by omega)
        have b1 := u1
        have b2 := u2
        obtain ⟨b1, b2'⟩ := step y1 16 _ b1 b2 y0 hy1 (by omega)
        have b2 : y0 ≠ 0 → _ := fun _ => b2'
        obtain ⟨b1, b2'⟩ := step y0 32 _ b1 b2 x hy0 (by omega)
        have b2 : x ≠ 0 → _ := fun _ => b2'
        refine ⟨32 + (16 + t), by omega, b1, b2, fun h Q => CALL_det ?_ Q⟩
        rw [CALL_enter cp cp45]
        simp (disch := omega) only [c45, ↓c45_r0_run, ↓c45_r1_run, ↓c45_r2_run, ↓c45_r3_run, ↓c45_r4_run, ↓c45_r5_run, ↓c45_r6_run, ↓c45_r7_run, ↓c45_r8_run, ↓c45_r9_run, ↓c45_r10_run, ↓f, a0, e0, a1, e1, a2, k8, ↓RunC_seq, ↓RunC_skip, ↓RunC_ret, ↓RunC_exit, ↓RunC_region, ↓RunC_condQ, condQ_true, condQ_false, ↓RunC_block, ↓RunR_done, ↓RunR_op, ↓RunR_opg, ↓RunR_snap, ↓RunR_chk, Holds, Option.getD_none, Option.getD_some, guardR_true, guardR_false, wantV_bool, wantV_none, callvQ_eq, afterR_some, ↓seqQ_normal, ↓seqQ_ret, ↓seqQ_exit, ↓blockQ_normal, ↓blockQ_ret, ↓blockQ_exit, ↓retQ_ret, ↓retQ_normal, ↓callQ_eq, ↓loopQ_normal, ↓loopQ_ret, ↓loopQ_exit, ↓upd_same, upd_at, sel_t, sel_f, initE_at, obj_upd_same, obj_upd_ne, obj_new_same, obj_updnew_same, obj_updnew_same2, obj_new2_same, obj_new3_same, obj_newupd_same, obj_new_ne, obj_new_ne2, obj_new_ne3, obj_new_ne4, next_upd, next_new, add_plain, cop, bin, binInt, un, shiftInt, flat, read_cells, src_ro, src_fix, src_grow, get_cells, List.getElem?_cons_zero, List.getElem?_cons_succ, write_fix, write_grow, setAt, bound, eqK, elemOk_ro, elemOk_fix, elemOk_grow, stiff_ro, stiff_fix, goInt, resultsV, resV, resL, finQ_some, Option.map_some, Option.map_none, Option.bind_some, Option.bind_none, List.map_cons, List.map_nil, List.getD_cons_zero, List.getD_cons_succ, List.getD_nil, Nat.reduceEqDiff, Nat.reduceAdd, Nat.reduceMul, Nat.reduceSub, Nat.reduceLT, Nat.reduceLeDiff, Nat.reduceBEq, if_true, if_false, ite_true, ite_false, List.length_cons, List.length_nil, Nat.zero_add, Nat.add_zero, List.drop_zero, List.drop_succ_cons, List.take_succ_cons, List.take_zero, List.set_cons_zero, List.set_cons_succ, Int.reduceLT, Int.reduceLE, Bool.not_true, Bool.not_false, Option.isNone_some, Option.isNone_none, decide_true, decide_false, beq_self_eq_true, Bool.false_eq_true, Bool.true_eq_false, if_pos, if_neg, reduceCtorEq, beq_iff_eq, BEq.rfl, wrap_i64, wrap_i32, wrap_i8, wrap_u8, wrap_u32, wrap_u64, Nat.mul_one, Int.toNat_natCast, ints_len, List.length_map, List.length_set, beq_ft, beq_tf, List.all_cons, List.all_nil, scalar, Bool.and_self, Bool.true_and, Bool.and_true, List.size_toArray, List.getElem?_toArray, binStr, fillIn, true_and, and_true, true_or, or_true, bne_self_eq_false, Int.reduceToNat, Int.reduceAdd, Int.reduceSub, Int.reduceMul]
        all_goals first | (congr 1; done) | (congr 1; omega)
    · have a1 : decide (((y0 : Nat) : Int) ≥ 65536) = false := decide_eq_false (by omega)
      by_cases c2 : 256 ≤ y0
      · have a2 : decide (((y0 : Nat) : Int) ≥ 256) = true := decide_eq_true (by omega)
        have e2 := sh y0 8 (by decide)
        obtain ⟨y2, hy2⟩ : ∃ y, y = y0 / 2 ^ 8 := ⟨_, rfl⟩
        rw [← hy2] at e2
        obtain ⟨t, t8, u1, u2, f⟩ := last y2 (by omega)
        have k8 := c8 y2 (by omega)
        have b1 := u1
        have b2 := u2
        obtain ⟨b1, b2'⟩ := step y2 8 _ b1 b2 y0 hy2 (by omega)
        have b2 : y0 ≠ 0 → _ := fun _ => b2'
        obtain ⟨b1, b2'⟩ := step y0 32 _ b1 b2 x hy0 (by omega)
        have b2 : x ≠ 0 → _ := fun _ => b2'
        refine ⟨32 + (8 + t), by omega, b1, b2, fun h Q => CALL_det ?_ Q⟩
        rw [CALL_enter cp cp45]
        simp (disch := omega) only [c45, ↓c45_r0_run, ↓c45_r1_run, ↓c45_r2_run, ↓c45_r3_run, ↓c45_r4_run, ↓c45_r5_run, ↓c45_r6_run, ↓c45_r7_run, ↓c45_r8_run, ↓c45_r9_run, ↓c45_r10_run, ↓f, a0, e0, a1, a2, e2, k8, ↓RunC_seq, ↓RunC_skip, ↓RunC_ret, ↓RunC_exit, ↓RunC_region, ↓RunC_condQ, condQ_true, condQ_false, ↓RunC_block, ↓RunR_done, ↓RunR_op, ↓RunR_opg, ↓RunR_snap, ↓RunR_chk, Holds, Option.getD_none, Option.getD_some, guardR_true, guardR_false, wantV_bool, wantV_none, callvQ_eq, afterR_some, ↓seqQ_normal, ↓seqQ_ret, ↓seqQ_exit, ↓blockQ_normal, ↓blockQ_ret, ↓blockQ_exit, ↓retQ_ret, ↓retQ_normal, ↓callQ_eq, ↓loopQ_normal, ↓loopQ_ret, ↓loopQ_exit, ↓upd_same, upd_at, sel_t, sel_f, initE_at, obj_upd_same, obj_upd_ne, obj_new_same, obj_updnew_same, obj_updnew_same2, obj_new2_same, obj_new3_same, obj_newupd_same, obj_new_ne, obj_new_ne2, obj_new_ne3, obj_new_ne4, next_upd, next_new, add_plain, cop, bin, binInt, un, shiftInt, flat, read_cells, src_ro, src_fix, src_grow, get_cells, List.getElem?_cons_zero, List.getElem?_cons_succ, write_fix, write_grow, setAt, bound, eqK, elemOk_ro, elemOk_fix, elemOk_grow, stiff_ro, stiff_fix, goInt, resultsV, resV, resL, finQ_some, Option.map_some, Option.map_none, Option.bind_some, Option.bind_none, List.map_cons, List.map_nil, List.getD_cons_zero, List.getD_cons_succ, List.getD_nil, Nat.reduceEqDiff, Nat.reduceAdd, Nat.reduceMul, Nat.reduceSub, Nat.reduceLT, Nat.reduceLeDiff, Nat.reduceBEq, if_true, if_false, ite_true, ite_false, List.length_cons, List.length_nil, Nat.zero_add, Nat.add_zero, List.drop_zero, List.drop_succ_cons, List.take_succ_cons, List.take_zero, List.set_cons_zero, List.set_cons_succ, Int.reduceLT, Int.reduceLE, Bool.not_true, Bool.not_false, Option.isNone_some, Option.isNone_none, decide_true, decide_false, beq_self_eq_true, Bool.false_eq_true, Bool.true_eq_false, if_pos, if_neg, reduceCtorEq, beq_iff_eq, BEq.rfl, wrap_i64, wrap_i32, wrap_i8, wrap_u8, wrap_u32, wrap_u64, Nat.mul_one, Int.toNat_natCast, ints_len, List.length_map, List.length_set, beq_ft, beq_tf, List.all_cons, List.all_nil, scalar, Bool.and_self, Bool.true_and, Bool.and_true, List.size_toArray, List.getElem?_toArray, binStr, fillIn, true_and, and_true, true_or, or_true, bne_self_eq_false, Int.reduceToNat, Int.reduceAdd, Int.reduceSub, Int.reduceMul]
        all_goals first | (congr 1; done) | (congr 1; omega)
      · have a2 : decide (((y0 : Nat) : Int) ≥ 256) = false := decide_eq_false (by omega)
        obtain ⟨t, t8, u1, u2, f⟩ := last y0 (by omega)
        have k8 := c8 y0 (by omega)
        have b1 := u1
        have b2 := u2
        obtain ⟨b1, b2'⟩ := step y0 32 _ b1 b2 x hy0 (by omega)
        have b2 : x ≠ 0 → _ := fun _ => b2'
        refine ⟨32 + t, by omega, b1, b2, fun h Q => CALL_det ?_ Q⟩
        rw [CALL_enter cp cp45]
        simp (disch := omega) only [c45, ↓c45_r0_run, ↓c45_r1_run, ↓c45_r2_run, ↓c45_r3_run, ↓c45_r4_run, ↓c45_r5_run, ↓c45_r6_run, ↓c45_r7_run, ↓c45_r8_run, ↓c45_r9_run, ↓c45_r10_run, ↓f, a0, e0, a1, a2, k8, ↓RunC_seq, ↓RunC_skip, ↓RunC_ret, ↓RunC_exit, ↓RunC_region, ↓RunC_condQ, condQ_true, condQ_false, ↓RunC_block, ↓RunR_done, ↓RunR_op, ↓RunR_opg, ↓RunR_snap, ↓RunR_chk, Holds, Option.getD_none, Option.getD_some, guardR_true, guardR_false, wantV_bool, wantV_none, callvQ_eq, afterR_some, ↓seqQ_normal, ↓seqQ_ret, ↓seqQ_exit, ↓blockQ_normal, ↓blockQ_ret, ↓blockQ_exit, ↓retQ_ret, ↓retQ_normal, ↓callQ_eq, ↓loopQ_normal, ↓loopQ_ret, ↓loopQ_exit, ↓upd_same, upd_at, sel_t, sel_f, initE_at, obj_upd_same, obj_upd_ne, obj_new_same, obj_updnew_same, obj_updnew_same2, obj_new2_same, obj_new3_same, obj_newupd_same, obj_new_ne, obj_new_ne2, obj_new_ne3, obj_new_ne4, next_upd, next_new, add_plain, cop, bin, binInt, un, shiftInt, flat, read_cells, src_ro, src_fix, src_grow, get_cells, List.getElem?_cons_zero, List.getElem?_cons_succ, write_fix, write_grow, setAt, bound, eqK, elemOk_ro, elemOk_fix, elemOk_grow, stiff_ro, stiff_fix, goInt, resultsV, resV, resL, finQ_some, Option.map_some, Option.map_none, Option.bind_some, Option.bind_none, List.map_cons, List.map_nil, List.getD_cons_zero, List.getD_cons_succ, List.getD_nil, Nat.reduceEqDiff, Nat.reduceAdd, Nat.reduceMul, Nat.reduceSub, Nat.reduceLT, Nat.reduceLeDiff, Nat.reduceBEq, if_true, if_false, ite_true, ite_false, List.length_cons, List.length_nil, Nat.zero_add, Nat.add_zero, List.drop_zero, List.drop_succ_cons, List.take_succ_cons, List.take_zero, List.set_cons_zero, List.set_cons_succ, Int.reduceLT, Int.reduceLE, Bool.not_true, Bool.not_false, Option.isNone_some, Option.isNone_none, decide_true, decide_false, beq_self_eq_true, Bool.false_eq_true, Bool.true_eq_false, if_pos, if_neg, reduceCtorEq, beq_iff_eq, BEq.rfl, wrap_i64, wrap_i32, wrap_i8, wrap_u8, wrap_u32, wrap_u64, Nat.mul_one, Int.toNat_natCast, ints_len, List.length_map, List.length_set, beq_ft, beq_tf, List.all_cons, List.all_nil, scalar, Bool.and_self, Bool.true_and, Bool.and_true, List.size_toArray, List.getElem?_toArray, binStr, fillIn, true_and, and_true, true_or, or_true, bne_self_eq_false, Int.reduceToNat, Int.reduceAdd, Int.reduceSub, Int.reduceMul]
        all_goals first | (congr 1; done) | (congr 1; omega)
  · have a0 : decide (((x : Nat) : Int) ≥ 4294967296) = false := decide_eq_false (by omega)
    by_cases c1 : 65536 ≤ x
    · have a1 : decide (((x : Nat) : Int) ≥ 65536) = true := decide_eq_true (by omega)
      have e1 := sh x 16 (by decide)
      obtain ⟨y1, hy1⟩ : ∃ y, y = x / 2 ^ 16 := ⟨_, rfl⟩
      rw [← hy1] at e1
      by_cases c2 : 256 ≤ y1
      · have a2 : decide (((y1 : Nat) : Int) ≥ 256) = true := decide_eq_true (by omega)
        have e2 := sh y1 8 (by decide)
        obtain ⟨y2, hy2⟩ : ∃ y, y = y1 / 2 ^ 8 := ⟨_, rfl⟩
        rw [← hy2] at e2
        obtain ⟨t, t8, u1, u2, f⟩ := last y2 (by omega)
        have k8 := c8 y2 (by omega)
        have b1 := u1
        have b2 := u2
        obtain ⟨b1, b2'⟩ := step y2 8 _ b1 b2 y1 hy2 (by omega)
        have b2 : y1 ≠ 0 → _ := fun _ => b2'
        obtain ⟨b1, b2'⟩ := step y1 16 _ b1 b2 x hy1 (by omega)
        have b2 : x ≠ 0 → _ := fun _ => b2'
        refine ⟨16 + (8 + t), by omega, b1, b2, fun h Q => CALL_det ?_ Q⟩
        rw [CALL_enter cp cp45]
        simp (disch := omega) only [c45, ↓c45_r0_run, ↓c45_r1_run, ↓c45_r2_run, ↓c45_r3_run, ↓c45_r4_run, ↓c45_r5_run, ↓c45_r6_run, ↓c45_r7_run, ↓c45_r8_run, ↓c45_r9_run, ↓c45_r10_run, ↓f, a0, a1, e1, a2, e2, k8, ↓RunC_seq, ↓RunC_skip, ↓RunC_ret, ↓RunC_exit, ↓RunC_region, ↓RunC_condQ, condQ_true, condQ_false, ↓RunC_block, ↓RunR_done, ↓RunR_op, ↓RunR_opg, ↓RunR_snap, ↓RunR_chk, Holds, Option.getD_none, Option.getD_some, guardR_true, guardR_false, wantV_bool, wantV_none, callvQ_eq, afterR_some, ↓seqQ_normal, ↓seqQ_ret, ↓seqQ_exit, ↓blockQ_normal, ↓blockQ_ret, ↓blockQ_exit, ↓retQ_ret, ↓retQ_normal, ↓callQ_eq, ↓loopQ_normal, ↓loopQ_ret, ↓loopQ_exit, ↓upd_same, upd_at, sel_t, sel_f, initE_at, obj_upd_same, obj_upd_ne, obj_new_same, obj_updnew_same, obj_updnew_same2, obj_new2_same, obj_new3_same, obj_newupd_same, obj_new_ne, obj_new_ne2, obj_new_ne3, obj_new_ne4, next_upd, next_new, add_plain, cop, bin, binInt, un, shiftInt, flat, read_cells, src_ro, src_fix, src_grow, get_cells, List.getElem?_cons_zero, List.getElem?_cons_succ, write_fix, write_grow, setAt, bound, eqK, elemOk_ro, elemOk_fix, elemOk_grow, stiff_ro, stiff_fix, goInt, resultsV, resV, resL, finQ_some, Option.map_some, Option.map_none, Option.bind_some, Option.bind_none, List.map_cons, List.map_nil, List.getD_cons_zero, List.getD_cons_succ, List.getD_nil, Nat.reduceEqDiff, Nat.reduceAdd, Nat.reduceMul, Nat.reduceSub, Nat.reduceLT, Nat.reduceLeDiff, Nat.reduceBEq, if_true, if_false, ite_true, ite_false, List.length_cons, List.length_nil, Nat.zero_add, Nat.add_zero, List.drop_zero, List.drop_succ_cons, List.take_succ_cons, List.take_zero, List.set_cons_zero, List.set_cons_succ, Int.reduceLT, Int.reduceLE, Bool.not_true, Bool.not_false, Option.isNone_some, Option.isNone_none, decide_true, decide_false, beq_self_eq_true, Bool.false_eq_true, Bool.true_eq_false, if_pos, if_neg, reduceCtorEq, beq_iff_eq, BEq.rfl, wrap_i64, wrap_i32, wrap_i8, wrap_u8, wrap_u32, wrap_u64, Nat.mul_one, Int.toNat_natCast, ints_len, List.length_map, List.length_set, beq_ft, beq_tf, List.all_cons, List.all_nil, scalar, Bool.and_self, Bool.true_and, Bool.and_true, List.size_toArray, List.getElem?_toArray, binStr, fillIn, true_and, and_true, true_or, or_true, bne_self_eq_false, Int.reduceToNat, Int.reduceAdd, Int.reduceSub, Int.reduceMul]
        all_goals first | (congr 1; done) | (congr 1; omega)
      · have a2 : decide (((y1 : Nat) : Int) ≥ 256) = false := decide_eq_false (by omega)
        obtain ⟨t, t8, u1, u2, f⟩ := last y1 (by omega)
        have k8 := c8 y1 (by omega)
        have b1 := u1
        have b2 := u2
        obtain ⟨b1, b2'⟩ := step y1 16 _ b1 b2 x hy1 (by omega)
        have b2 : x ≠ 0 → _ := fun _ => b2'
        refine ⟨16 + t, by omega, b1, b2, fun h Q => CALL_det ?_ Q⟩
        rw [CALL_enter cp cp45]
        simp (disch := omega) only [c45, ↓c45_r0_run, ↓c45_r1_run, ↓c45_r2_run, ↓c45_r3_run, ↓c45_r4_run, ↓c45_r5_run, ↓c45_r6_run, ↓c45_r7_run, ↓c45_r8_run, ↓c45_r9_run, ↓c45_r10_run, ↓f, a0, a1, e1, a2, k8, ↓RunC_seq, ↓RunC_skip, ↓RunC_ret, ↓RunC_exit, ↓RunC_region, ↓RunC_condQ, condQ_true, condQ_false, ↓RunC_block, ↓RunR_done, ↓RunR_op, ↓RunR_opg, ↓RunR_snap, ↓RunR_chk, Holds, Option.getD_none, Option.getD_some, guardR_true, guardR_false, wantV_bool, wantV_none, callvQ_eq, afterR_some, ↓seqQ_normal, ↓seqQ_ret, ↓seqQ_exit, ↓blockQ_normal, ↓blockQ_ret, ↓blockQ_exit, ↓retQ_ret, ↓retQ_normal, ↓callQ_eq, ↓loopQ_normal, ↓loopQ_ret, ↓loopQ_exit, ↓upd_same, upd_at, sel_t, sel_f, initE_at, obj_upd_same, obj_upd_ne, obj_new_same, obj_updnew_same, obj_updnew_same2, obj_new2_same, obj_new3_same, obj_newupd_same, obj_new_ne, obj_new_ne2, obj_new_ne3, obj_new_ne4, next_upd, next_new, add_plain, cop, bin, binInt, un, shiftInt, flat, read_cells, src_ro, src_fix, src_grow, get_cells, List.getElem?_cons_zero, List.getElem?_cons_succ, write_fix, write_grow, setAt, bound, eqK, elemOk_ro, elemOk_fix, elemOk_grow, stiff_ro, stiff_fix, goInt, resultsV, resV, resL, finQ_some, Option.map_some, Option.map_none, Option.bind_some, Option.bind_none, List.map_cons, List.map_nil, List.getD_cons_zero, List.getD_cons_succ, List.getD_nil, Nat.reduceEqDiff, Nat.reduceAdd, Nat.reduceMul, Nat.reduceSub, Nat.reduceLT, Nat.reduceLeDiff, Nat.reduceBEq, if_true, if_false, ite_true, ite_false, List.length_cons, List.length_nil, Nat.zero_add, Nat.add_zero, List.drop_zero, List.drop_succ_cons, List.take_succ_cons, List.take_zero, List.set_cons_zero, List.set_cons_succ, Int.reduceLT, Int.reduceLE, Bool.not_true, Bool.not_false, Option.isNone_some, Option.isNone_none, decide_true, decide_false, beq_self_eq_true, Bool.false_eq_true, Bool.true_eq_false, if_pos, if_neg, reduceCtorEq, beq_iff_eq, BEq.rfl, wrap_i64, wrap_i32, wrap_i8, wrap_u8, wrap_u32, wrap_u64, Nat.mul_one, Int.toNat_natCast, ints_len, List.length_map, List.length_set, beq_ft, beq_tf, List.all_cons, List.all_nil, scalar, Bool.and_self, Bool.true_and, Bool.and_true, List.size_toArray, List.getElem?_toArray, binStr, fillIn, true_and, and_true, true_or, or_true, bne_self_eq_false, Int.reduceToNat, Int.reduceAdd, Int.reduceSub, Int.reduceMul]
        all_goals first | (congr 1; done) | (congr 1; omega)
    · have a1 : decide (((x : Nat) : Int) ≥ 65536) = false := decide_eq_false (by omega)
      by_cases c2 : 256 ≤ x
      · have a2 : decide (((x : Nat) : Int) ≥ 256) = true := decide_eq_true (by omega)
        have e2 := sh x 8 (by decide)
        obtain ⟨y2, hy2⟩ : ∃ y, y = x / 2 ^ 8 := ⟨_, rfl⟩
        rw [← hy2] at e2
        obtain ⟨t, t8, u1, u2, f⟩ := last y2 (by omega)
        have k8 := c8 y2 (by omega)
        have b1 := u1
        have b2 := u2
        obtain ⟨b1, b2'⟩ := step y2 8 _ b1 b2 x hy2 (by omega)
        have b2 : x ≠ 0 → _ := fun _ => b2'
        refine ⟨8 + t, by omega, b1, b2, fun h Q => CALL_det ?_ Q⟩
        rw [CALL_enter cp cp45]
        simp (disch := omega) only [c45, ↓c45_r0_run, ↓c45_r1_run, ↓c45_r2_run, ↓c45_r3_run, ↓c45_r4_run, ↓c45_r5_run, ↓c45_r6_run, ↓c45_r7_run, ↓c45_r8_run, ↓c45_r9_run, ↓c45_r10_run, ↓f, a0, a1, a2, e2, k8, ↓RunC_seq, ↓RunC_skip, ↓RunC_ret, ↓RunC_exit, ↓RunC_region, ↓RunC_condQ, condQ_true, condQ_false, ↓RunC_block, ↓RunR_done, ↓RunR_op, ↓RunR_opg, ↓RunR_snap, ↓RunR_chk, Holds, Option.getD_none, Option.getD_some, guardR_true, guardR_false, wantV_bool, wantV_none, callvQ_eq, afterR_some, ↓seqQ_normal, ↓seqQ_ret, ↓seqQ_exit, ↓blockQ_normal, ↓blockQ_ret, ↓blockQ_exit, ↓retQ_ret, ↓retQ_normal, ↓callQ_eq, ↓loopQ_normal, ↓loopQ_ret, ↓loopQ_exit, ↓upd_same, upd_at, sel_t, sel_f, initE_at, obj_upd_same, obj_upd_ne, obj_new_same, obj_updnew_same, obj_updnew_same2, obj_new2_same, obj_new3_same, obj_newupd_same, obj_new_ne, obj_new_ne2, obj_new_ne3, obj_new_ne4, next_upd, next_new, add_plain, cop, bin, binInt, un, shiftInt, flat, read_cells, src_ro, src_fix, src_grow, get_cells, List.getElem?_cons_zero, List.getElem?_cons_succ, write_fix, write_grow, setAt, bound, eqK, elemOk_ro, elemOk_fix, elemOk_grow, stiff_ro, stiff_fix, goInt, resultsV, resV, resL, finQ_some, Option.map_some, Option.map_none, Option.bind_some, Option.bind_none, List.map_cons, List.map_nil, List.getD_cons_zero, List.getD_cons_succ, List.getD_nil, Nat.reduceEqDiff, Nat.reduceAdd, Nat.reduceMul, Nat.reduceSub, Nat.reduceLT, Nat.reduceLeDiff, Nat.reduceBEq, if_true, if_false, ite_true, ite_false, List.length_cons, List.length_nil, Nat.zero_add, Nat.add_zero, List.drop_zero, List.drop_succ_cons, List.take_succ_cons, List.take_zero, List.set_cons_zero, List.set_cons_succ, Int.reduceLT, Int.reduceLE, Bool.not_true, Bool.not_false, Option.isNone_some, Option.isNone_none, decide_true, decide_false, beq_self_eq_true, Bool.false_eq_true, Bool.true_eq_false, if_pos, if_neg, reduceCtorEq, beq_iff_eq, BEq.rfl, wrap_i64, wrap_i32, wrap_i8, wrap_u8, wrap_u32, wrap_u64, Nat.mul_one, Int.toNat_natCast, ints_len, List.length_map, List.length_set, beq_ft, beq_tf, List.all_cons, List.all_nil, scalar, Bool.and_self, Bool.true_and, Bool.and_true, List.size_toArray, List.getElem?_toArray, binStr, fillIn, true_and, and_true, true_or, or_true, bne_self_eq_false, Int.reduceToNat, Int.reduceAdd, Int.reduceSub, Int.reduceMul]
        all_goals first | (congr 1; done) | (congr 1; omega)
      · have a2 : decide (((x : Nat) : Int) ≥ 256) = false := decide_eq_false (by omega)
        obtain ⟨t, t8, u1, u2, f⟩ := last x (by omega)
        have k8 := c8 x (by omega)
        have b1 := u1
        have b2 := u2
        refine ⟨t, by omega, b1, b2, fun h Q => CALL_det ?_ Q⟩
        rw [CALL_enter cp cp45]
        simp (disch := omega) only [c45, ↓c45_r0_run, ↓c45_r1_run, ↓c45_r2_run, ↓c45_r3_run, ↓c45_r4_run, ↓c45_r5_run, ↓c45_r6_run, ↓c45_r7_run, ↓c45_r8_run, ↓c45_r9_run, ↓c45_r10_run, ↓f, a0, a1, a2, k8, ↓RunC_seq, ↓RunC_skip, ↓RunC_ret, ↓RunC_exit, ↓RunC_region, ↓RunC_condQ, condQ_true, condQ_false, ↓RunC_block, ↓RunR_done, ↓RunR_op, ↓RunR_opg, ↓RunR_snap, ↓RunR_chk, Holds, Option.getD_none, Option.getD_some, guardR_true, guardR_false, wantV_bool, wantV_none, callvQ_eq, afterR_some, ↓seqQ_normal, ↓seqQ_ret, ↓seqQ_exit, ↓blockQ_normal, ↓blockQ_ret, ↓blockQ_exit, ↓retQ_ret, ↓retQ_normal, ↓callQ_eq, ↓loopQ_normal, ↓loopQ_ret, ↓loopQ_exit, ↓upd_same, upd_at, sel_t, sel_f, initE_at, obj_upd_same, obj_upd_ne, obj_new_same, obj_updnew_same, obj_updnew_same2, obj_new2_same, obj_new3_same, obj_newupd_same, obj_new_ne, obj_new_ne2, obj_new_ne3, obj_new_ne4, next_upd, next_new, add_plain, cop, bin, binInt, un, shiftInt, flat, read_cells, src_ro, src_fix, src_grow, get_cells, List.getElem?_cons_zero, List.getElem?_cons_succ, write_fix, write_grow, setAt, bound, eqK, elemOk_ro, elemOk_fix, elemOk_grow, stiff_ro, stiff_fix, goInt, resultsV, resV, resL, finQ_some, Option.map_some, Option.map_none, Option.bind_some, Option.bind_none, List.map_cons, List.map_nil, List.getD_cons_zero, List.getD_cons_succ, List.getD_nil, Nat.reduceEqDiff, Nat.reduceAdd, Nat.reduceMul, Nat.reduceSub, Nat.reduceLT, Nat.reduceLeDiff, Nat.reduceBEq, if_true, if_false, ite_true, ite_false, List.length_cons, List.length_nil, Nat.zero_add, Nat.add_zero, List.drop_zero, List.drop_succ_cons, List.take_succ_cons, List.take_zero, List.set_cons_zero, List.set_cons_succ, Int.reduceLT, Int.reduceLE, Bool.not_true, Bool.not_false, Option.isNone_some, Option.isNone_none, decide_true, decide_false, beq_self_eq_true, Bool.false_eq_true, Bool.true_eq_false, if_pos, if_neg, reduceCtorEq, beq_iff_eq, BEq.rfl, wrap_i64, wrap_i32, wrap_i8, wrap_u8, wrap_u32, wrap_u64, Nat.mul_one, Int.toNat_natCast, ints_len, List.length_map, List.length_set, beq_ft, beq_tf, List.all_cons, List.all_nil, scalar, Bool.and_self, Bool.true_and, Bool.and_true, List.size_toArray, List.getElem?_toArray, binStr, fillIn, true_and, and_true, true_or, or_true, bne_self_eq_false, Int.reduceToNat, Int.reduceAdd, Int.reduceSub, Int.reduceMul]
        all_goals first | (congr 1; done) | (congr 1; omega)
theorem lz_ok (x : Nat) (hx : x < 18446744073709551616) (h0 : x ≠ 0) : ∃ s : Nat, s ≤ 63 ∧ 9223372036854775808 ≤ x * 2 ^ s ∧ x * 2 ^ s < 18446744073709551616 ∧ ∀ (h : Heap) (Q : Value → Heap → Prop), CALL cp 44 [.int .u64 x] h Q ↔ Q (.int .i64 s) h := by
  obtain ⟨n, hn, b, a, f⟩ := len64_ok x hx
  have a := a h0
  have hl : 1 ≤ n := by
    rcases Nat.eq_zero_or_pos n with e | e
    · rw [e] at b; omega
    · exact e
  have e : 2 ^ n * 2 ^ (64 - n) = 2 ^ 64 := by rw [← Nat.pow_add]; congr 1; omega
  refine ⟨64 - n, by omega, ?_, ?_, fun h Q => CALL_det ?_ Q⟩
  · have := Nat.mul_le_mul_right (2 ^ (64 - n)) a
    rw [e, Nat.mul_assoc] at this
    omega
  · have := Nat.mul_lt_mul_of_pos_right b (Nat.two_pow_pos (64 - n))
    rw [e] at this
    omega
  · rw [CALL_enter cp cp44]
    simp (disch := omega) only [c44, ↓c44_r0_run, ↓c44_r1_run, f, ↓RunC_seq, ↓RunC_skip, ↓RunC_ret, ↓RunC_exit, ↓RunC_region, ↓RunC_condQ, condQ_true, condQ_false, ↓RunC_block, ↓RunR_done, ↓RunR_op, ↓RunR_opg, ↓RunR_snap, ↓RunR_chk, Holds, Option.getD_none, Option.getD_some, guardR_true, guardR_false, wantV_bool, wantV_none, callvQ_eq, afterR_some, ↓seqQ_normal, ↓seqQ_ret, ↓seqQ_exit, ↓blockQ_normal, ↓blockQ_ret, ↓blockQ_exit, ↓retQ_ret, ↓retQ_normal, ↓callQ_eq, ↓loopQ_normal, ↓loopQ_ret, ↓loopQ_exit, ↓upd_same, upd_at, sel_t, sel_f, initE_at, obj_upd_same, obj_upd_ne, obj_new_same, obj_updnew_same, obj_updnew_same2, obj_new2_same, obj_new3_same, obj_newupd_same, obj_new_ne, obj_new_ne2, obj_new_ne3, obj_new_ne4, next_upd, next_new, add_plain, cop, bin, binInt, un, shiftInt, flat, read_cells, src_ro, src_fix, src_grow, get_cells, List.getElem?_cons_zero, List.getElem?_cons_succ, write_fix, write_grow, setAt, bound, eqK, elemOk_ro, elemOk_fix, elemOk_grow, stiff_ro, stiff_fix, goInt, resultsV, resV, resL, finQ_some, Option.map_some, Option.map_none, Option.bind_some, Option.bind_none, List.map_cons, List.map_nil, List.getD_cons_zero, List.getD_cons_succ, List.getD_nil, Nat.reduceEqDiff, Nat.reduceAdd, Nat.reduceMul, Nat.reduceSub, Nat.reduceLT, Nat.reduceLeDiff, Nat.reduceBEq, if_true, if_false, ite_true, ite_false, List.length_cons, List.length_nil, Nat.zero_add, Nat.add_zero, List.drop_zero, List.drop_succ_cons, List.take_succ_cons, List.take_zero, List.set_cons_zero, List.set_cons_succ, Int.reduceLT, Int.reduceLE, Bool.not_true, Bool.not_false, Option.isNone_some, Option.isNone_none, decide_true, decide_false, beq_self_eq_true, Bool.false_eq_true, Bool.true_eq_false, if_pos, if_neg, reduceCtorEq, beq_iff_eq, BEq.rfl, wrap_i64, wrap_i32, wrap_i8, wrap_u8, wrap_u32, wrap_u64, Nat.mul_one, Int.toNat_natCast, ints_len, List.length_map, List.length_set, beq_ft, beq_tf, List.all_cons, List.all_nil, scalar, Bool.and_self, Bool.true_and, Bool.and_true, List.size_toArray, List.getElem?_toArray, binStr, fillIn, true_and, and_true, true_or, or_true, bne_self_eq_false, Int.reduceToNat, Int.reduceAdd, Int.reduceSub, Int.reduceMul]
    congr 1; omega
theorem digit_lt {u d y : Nat} (hu : u < y) (hd : d < 4294967296) : (u * 4294967296 + d) / y < 4294967296 := by
  rw [Nat.div_lt_iff_lt_mul (by omega)]
  have := Nat.mul_le_mul_left 4294967296 (show u + 1 ≤ y from hu)
  omega
/-- What is left behind a digit, as the machine reckons it. -/
theorem left_of (u d y q : Nat) (hy0 : 0 < y) (hy : y < 18446744073709551616) (hq : q = (u * 4294967296 + d) / y) :
    IntKind.u64.wrap (IntKind.u64.wrap (IntKind.u64.wrap ((u : Int) * 4294967296) + (d : Int)) - IntKind.u64.wrap ((q : Int) * (y : Int))) = (((u * 4294967296 + d) % y : Nat) : Int) := by
  have h1 := Nat.div_add_mod (u * 4294967296 + d) y
  have h2 := Nat.mod_lt (u * 4294967296 + d) hy0
  rw [← hq] at h1
  rw [← Int.natCast_mul, Nat.mul_comm q y]
  obtain ⟨B, hB⟩ : ∃ B, B = y * q := ⟨_, rfl⟩
  obtain ⟨r, hr⟩ : ∃ r, r = (u * 4294967296 + d) % y := ⟨_, rfl⟩
  rw [← hB] at h1 ⊢
  rw [← hr] at h1 h2 ⊢
  simp only [wu64]
  omega
theorem div_l0 (h : Heap) (y v1 v0 u d : Nat) (hy : y = v1 * 4294967296 + v0) (hv1 : 2147483648 ≤ v1) (hv1' : v1 < 4294967296) (hv0 : v0 < 4294967296) (hd : d < 4294967296) (hu : u < y) {Q : Post} (keep : List Nat) (hk1 : keep.elem 15 = false) (hk2 : keep.elem 16 = false) (hk3 : keep.all (fun t => t < 19) = true)
    (n q rhat : Nat) (h1 : 4294967296 ≤ rhat + n * v1) (h2 : q * v1 + rhat = u) (h3 : (u * 4294967296 + d) / y ≤ q) (h4 : q ≤ 4294967297) (h5 : rhat < 4294967296) (e : Env)
    (e9 : e 9 = .int .u64 v1) (e10 : e 10 = .int .u64 v0) (ed : e 13 = .int .u64 d) (eq : e 15 = .int .u64 q) (er : e 16 = .int .u64 rhat)
    (hQ : ∀ e', Agree keep e e' → e' 15 = .int .u64 (((u * 4294967296 + d) / y : Nat) : Int) → Q (.exit 0) e' h) : RunC cp (.loop c43_l0) e h Q := by
  have hy0 : 0 < y := by omega
  obtain ⟨Q0, hQ0⟩ : ∃ Q0, Q0 = (u * 4294967296 + d) / y := ⟨_, rfl⟩
  rw [← hQ0] at h3 hQ
  have kp : ∀ t, 19 ≤ t → keep.elem t = false := fun t ht => by
    cases hh : keep.elem t with
    | false => rfl
    | true =>
      have hm : t ∈ keep := List.elem_iff.1 hh
      have := List.all_eq_true.1 hk3 t hm
      simp at this; omega
  refine RunC_loop cp _ Q (fun n e' h' => h' = h ∧ Agree keep e e' ∧ e' 9 = .int .u64 v1 ∧ e' 10 = .int .u64 v0 ∧ e' 13 = .int .u64 d ∧ ∃ q rhat : Nat, e' 15 = .int .u64 q ∧ e' 16 = .int .u64 rhat ∧ 4294967296 ≤ rhat + n * v1 ∧ q * v1 + rhat = u ∧ Q0 ≤ q ∧ q ≤ 4294967297 ∧ rhat < 4294967296) ?_ n e h
    ⟨rfl, Agree.refl _ _, e9, e10, ed, q, rhat, eq, er, h1, h2, h3, h4, h5⟩
  clear h1 h2 h3 h4 h5 eq er e9 e10 ed
  rintro n e' h' ⟨rfl, ag, e9, e10, ed, q, rhat, eq, er, h1, h2, h3, h4, h5⟩
  have hti := @Digit.test_iff v1 v0 u d q rhat y hy h2
  by_cases c : 4294967296 ≤ q ∨ u * 4294967296 + d < q * y
  · -- one less
    obtain ⟨n, rfl⟩ : ∃ m, n = m + 1 := ⟨n - 1, by
      rcases Nat.eq_zero_or_pos n with h0 | h0
      · subst h0; omega
      · omega⟩
    have hle : Q0 ≤ q - 1 := by
      rcases c with c | c
      · have : Q0 < 4294967296 := by rw [hQ0]; exact digit_lt hu hd
        omega
      · rw [hQ0]; exact Digit.less c
    have hq0 : 1 ≤ q := by
      rcases c with c | c
      · omega
      · rcases Nat.eq_zero_or_pos q with e | e
        · subst e; omega
        · exact e
    have h2' : (q - 1) * v1 + (rhat + v1) = u := by
      obtain ⟨p, rfl⟩ : ∃ p, q = p + 1 := ⟨q - 1, by omega⟩
      rw [Nat.add_mul] at h2; rw [Nat.add_sub_cancel]; omega
    have k1 : (q : Int) - 1 = ((q - 1 : Nat) : Int) := by omega
    have k2 : (rhat : Int) + (v1 : Int) = ((rhat + v1 : Nat) : Int) := by omega
    have h1' : 4294967296 ≤ (rhat + v1) + n * v1 := by rw [Nat.add_mul] at h1; omega
    have last : 4294967296 ≤ rhat + v1 → q - 1 = Q0 := fun c2 => by
      have hti2 := @Digit.test_iff v1 v0 u d (q - 1) (rhat + v1) y hy h2'
      have hp : (q - 1) * v0 ≤ 4294967296 * 4294967295 := Nat.mul_le_mul (by omega) (by omega)
      rw [hQ0]; refine Digit.same hy0 (by rw [← hQ0]; exact hle) (Nat.le_of_not_lt fun h => ?_)
      have := hti2.mp h
      omega
    by_cases cq : 4294967296 ≤ q
    · have b1 : decide ((q : Int) ≥ 4294967296) = true := decide_eq_true (by omega)
      by_cases c2 : 4294967296 ≤ rhat + v1
      · have b2 : decide (((rhat + v1 : Nat) : Int) ≥ 4294967296) = true := decide_eq_true (by omega)
        simp (disch := omega) only [c43_l0, c43, ↓c43_r0_run, ↓c43_r1_run, ↓c43_r2_run, ↓c43_r3_run, ↓c43_r4_run, ↓c43_r5_run, ↓c43_r6_run, ↓c43_r7_run, ↓c43_r8_run, ↓c43_r9_run, ↓c43_r10_run, ↓c43_r11_run, ↓c43_r12_run, ↓c43_r13_run, ↓c43_r14_run, ↓c43_r15_run, ↓c43_r16_run, ↓c43_r17_c1_run, ↓c43_r17_run, ↓c43_r18_run, ↓c43_r19_run, ↓c43_r20_run, ↓c43_r21_run, ↓c43_r22_run, ↓c43_r23_run, ↓c43_r24_c1_run, ↓c43_r24_run, ↓c43_r25_run, ↓c43_r26_run, ↓c43_r27_run, ↓c43_r28_c1_run, ↓c43_r28_run, e9, e10, ed, eq, er, b1, b2, k1, k2, ↓RunC_seq, ↓RunC_skip, ↓RunC_ret, ↓RunC_exit, ↓RunC_region, ↓RunC_condQ, condQ_true, condQ_false, ↓RunC_block, ↓RunR_done, ↓RunR_op, ↓RunR_opg, ↓RunR_snap, ↓RunR_chk, Holds, Option.getD_none, Option.getD_some, guardR_true, guardR_false, wantV_bool, wantV_none, callvQ_eq, afterR_some, ↓seqQ_normal, ↓seqQ_ret, ↓seqQ_exit, ↓blockQ_normal, ↓blockQ_ret, ↓blockQ_exit, ↓retQ_ret, ↓retQ_normal, ↓callQ_eq, ↓loopQ_normal, ↓loopQ_ret, ↓loopQ_exit, ↓upd_same, upd_at, sel_t, sel_f, initE_at, obj_upd_same, obj_upd_ne, obj_new_same, obj_updnew_same, obj_updnew_same2, obj_new2_same, obj_new3_same, obj_newupd_same, obj_new_ne, obj_new_ne2, obj_new_ne3, obj_new_ne4, next_upd, next_new, add_plain, cop, bin, binInt, un, shiftInt, flat, read_cells, src_ro, src_fix, src_grow, get_cells, List.getElem?_cons_zero, List.getElem?_cons_succ, write_fix, write_grow, setAt, bound, eqK, elemOk_ro, elemOk_fix, elemOk_grow, stiff_ro, stiff_fix, goInt, resultsV, resV, resL, finQ_some, Option.map_some, Option.map_none, Option.bind_some, Option.bind_none, List.map_cons, List.map_nil, List.getD_cons_zero, List.getD_cons_succ, List.getD_nil, Nat.reduceEqDiff, Nat.reduceAdd, Nat.reduceMul, Nat.reduceSub, Nat.reduceLT, Nat.reduceLeDiff, Nat.reduceBEq, if_true, if_false, ite_true, ite_false, List.length_cons, List.length_nil, Nat.zero_add, Nat.add_zero, List.drop_zero, List.drop_succ_cons, List.take_succ_cons, List.take_zero, List.set_cons_zero, List.set_cons_succ, Int.reduceLT, Int.reduceLE, Bool.not_true, Bool.not_false, Option.isNone_some, Option.isNone_none, decide_true, decide_false, beq_self_eq_true, Bool.false_eq_true, Bool.true_eq_false, if_pos, if_neg, reduceCtorEq, beq_iff_eq, BEq.rfl, wrap_i64, wrap_i32, wrap_i8, wrap_u8, wrap_u32, wrap_u64, Nat.mul_one, Int.toNat_natCast, ints_len, List.length_map, List.length_set, beq_ft, beq_tf, List.all_cons, List.all_nil, scalar, Bool.and_self, Bool.true_and, Bool.and_true, List.size_toArray, List.getElem?_toArray, binStr, fillIn, true_and, and_true, true_or, or_true, bne_self_eq_false, Int.reduceToNat, Int.reduceAdd, Int.reduceSub, Int.reduceMul]
        refine hQ _ ?_ (by rw [← last c2]; rfl)
        repeat' (first | exact ag | (refine Agree.upd ?_ (by first | exact hk1 | exact hk2 | exact kp _ (by decide)) _))
      · have b2 : decide (((rhat + v1 : Nat) : Int) ≥ 4294967296) = false := decide_eq_false (by omega)
        simp (disch := omega) only [c43_l0, c43, ↓c43_r0_run, ↓c43_r1_run, ↓c43_r2_run, ↓c43_r3_run, ↓c43_r4_run, ↓c43_r5_run, ↓c43_r6_run, ↓c43_r7_run, ↓c43_r8_run, ↓c43_r9_run, ↓c43_r10_run, ↓c43_r11_run, ↓c43_r12_run, ↓c43_r13_run, ↓c43_r14_run, ↓c43_r15_run, ↓c43_r16_run, ↓c43_r17_c1_run, ↓c43_r17_run, ↓c43_r18_run, ↓c43_r19_run, ↓c43_r20_run, ↓c43_r21_run, ↓c43_r22_run, ↓c43_r23_run, ↓c43_r24_c1_run, ↓c43_r24_run, ↓c43_r25_run, ↓c43_r26_run, ↓c43_r27_run, ↓c43_r28_c1_run, ↓c43_r28_run, e9, e10, ed, eq, er, b1, b2, k1, k2, ↓RunC_seq, ↓RunC_skip, ↓RunC_ret, ↓RunC_exit, ↓RunC_region, ↓RunC_condQ, condQ_true, condQ_false, ↓RunC_block, ↓RunR_done, ↓RunR_op, ↓RunR_opg, ↓RunR_snap, ↓RunR_chk, Holds, Option.getD_none, Option.getD_some, guardR_true, guardR_false, wantV_bool, wantV_none, callvQ_eq, afterR_some, ↓seqQ_normal, ↓seqQ_ret, ↓seqQ_exit, ↓blockQ_normal, ↓blockQ_ret, ↓blockQ_exit, ↓retQ_ret, ↓retQ_normal, ↓callQ_eq, ↓loopQ_normal, ↓loopQ_ret, ↓loopQ_exit, ↓upd_same, upd_at, sel_t, sel_f, initE_at, obj_upd_same, obj_upd_ne, obj_new_same, obj_updnew_same, obj_updnew_same2, obj_new2_same, obj_new3_same, obj_newupd_same, obj_new_ne, obj_new_ne2, obj_new_ne3, obj_new_ne4, next_upd, next_new, add_plain, cop, bin, binInt, un, shiftInt, flat, read_cells, src_ro, src_fix, src_grow, get_cells, List.getElem?_cons_zero, List.getElem?_cons_succ, write_fix, write_grow, setAt, bound, eqK, elemOk_ro, elemOk_fix, elemOk_grow, stiff_ro, stiff_fix, goInt, resultsV, resV, resL, finQ_some, Option.map_some, Option.map_none, Option.bind_some, Option.bind_none, List.map_cons, List.map_nil, List.getD_cons_zero, List.getD_cons_succ, List.getD_nil, Nat.reduceEqDiff, Nat.reduceAdd, Nat.reduceMul, Nat.reduceSub, Nat.reduceLT, Nat.reduceLeDiff, Nat.reduceBEq, if_true, if_false, ite_true, ite_false, List.length_cons, List.length_nil, Nat.zero_add, Nat.add_zero, List.drop_zero, List.drop_succ_cons, List.take_succ_cons, List.take_zero, List.set_cons_zero, List.set_cons_succ, Int.reduceLT, Int.reduceLE, Bool.not_true, Bool.not_false, Option.isNone_some, Option.isNone_none, decide_true, decide_false, beq_self_eq_true, Bool.false_eq_true, Bool.true_eq_false, if_pos, if_neg, reduceCtorEq, beq_iff_eq, BEq.rfl, wrap_i64, wrap_i32, wrap_i8, wrap_u8, wrap_u32, wrap_u64, Nat.mul_one, Int.toNat_natCast, ints_len, List.length_map, List.length_set, beq_ft, beq_tf, List.all_cons, List.all_nil, scalar, Bool.and_self, Bool.true_and, Bool.and_true, List.size_toArray, List.getElem?_toArray, binStr, fillIn, true_and, and_true, true_or, or_true, bne_self_eq_false, Int.reduceToNat, Int.reduceAdd, Int.reduceSub, Int.reduceMul]
        refine ⟨n, by omega, ?_, q - 1, rhat + v1, rfl, rfl, h1', h2', hle, by omega, by omega⟩
        repeat' (first | exact ag | (refine Agree.upd ?_ (by first | exact hk1 | exact hk2 | exact kp _ (by decide)) _))
    · have hp : q * v0 ≤ 4294967295 * 4294967295 := Nat.mul_le_mul (by omega) (by omega)
      have b1 : decide ((q : Int) ≥ 4294967296) = false := decide_eq_false (by omega)
      have w1 : IntKind.u64.wrap ((q : Int) * (v0 : Int)) = ((q * v0 : Nat) : Int) := by rw [← Int.natCast_mul, wrap_u64] <;> omega
      have b3 : decide (((q * v0 : Nat) : Int) > 4294967296 * (rhat : Int) + (d : Int)) = true := decide_eq_true (by have := hti.1 (c.resolve_left cq); omega)
      by_cases c2 : 4294967296 ≤ rhat + v1
      · have b2 : decide (((rhat + v1 : Nat) : Int) ≥ 4294967296) = true := decide_eq_true (by omega)
        simp (disch := omega) only [c43_l0, c43, ↓c43_r0_run, ↓c43_r1_run, ↓c43_r2_run, ↓c43_r3_run, ↓c43_r4_run, ↓c43_r5_run, ↓c43_r6_run, ↓c43_r7_run, ↓c43_r8_run, ↓c43_r9_run, ↓c43_r10_run, ↓c43_r11_run, ↓c43_r12_run, ↓c43_r13_run, ↓c43_r14_run, ↓c43_r15_run, ↓c43_r16_run, ↓c43_r17_c1_run, ↓c43_r17_run, ↓c43_r18_run, ↓c43_r19_run, ↓c43_r20_run, ↓c43_r21_run, ↓c43_r22_run, ↓c43_r23_run, ↓c43_r24_c1_run, ↓c43_r24_run, ↓c43_r25_run, ↓c43_r26_run, ↓c43_r27_run, ↓c43_r28_c1_run, ↓c43_r28_run, e9, e10, ed, eq, er, b1, b2, b3, w1, k1, k2, ↓RunC_seq, ↓RunC_skip, ↓RunC_ret, ↓RunC_exit, ↓RunC_region, ↓RunC_condQ, condQ_true, condQ_false, ↓RunC_block, ↓RunR_done, ↓RunR_op, ↓RunR_opg, ↓RunR_snap, ↓RunR_chk, Holds, Option.getD_none, Option.getD_some, guardR_true, guardR_false, wantV_bool, wantV_none, callvQ_eq, afterR_some, ↓seqQ_normal, ↓seqQ_ret, ↓seqQ_exit, ↓blockQ_normal, ↓blockQ_ret, ↓blockQ_exit, ↓retQ_ret, ↓retQ_normal, ↓callQ_eq, ↓loopQ_normal, ↓loopQ_ret, ↓loopQ_exit, ↓upd_same, upd_at, sel_t, sel_f, initE_at, obj_upd_same, obj_upd_ne, obj_new_same, obj_updnew_same, obj_updnew_same2, obj_new2_same, obj_new3_same, obj_newupd_same, obj_new_ne, obj_new_ne2, obj_new_ne3, obj_new_ne4, next_upd, next_new, add_plain, cop, bin, binInt, un, shiftInt, flat, read_cells, src_ro, src_fix, src_grow, get_cells, List.getElem?_cons_zero, List.getElem?_cons_succ, write_fix, write_grow, setAt, bound, eqK, elemOk_ro, elemOk_fix, elemOk_grow, stiff_ro, stiff_fix, goInt, resultsV, resV, resL, finQ_some, Option.map_some, Option.map_none, Option.bind_some, Option.bind_none, List.map_cons, List.map_nil, List.getD_cons_zero, List.getD_cons_succ, List.getD_nil, Nat.reduceEqDiff, Nat.reduceAdd, Nat.reduceMul, Nat.reduceSub, Nat.reduceLT, Nat.reduceLeDiff, Nat.reduceBEq, if_true, if_false, ite_true, ite_false, List.length_cons, List.length_nil, Nat.zero_add, Nat.add_zero, List.drop_zero, List.drop_succ_cons, List.take_succ_cons, List.take_zero, List.set_cons_zero, List.set_cons_succ, Int.reduceLT, Int.reduceLE, Bool.not_true, Bool.not_false, Option.isNone_some, Option.isNone_none, decide_true, decide_false, beq_self_eq_true, Bool.false_eq_true, Bool.true_eq_false, if_pos, if_neg, reduceCtorEq, beq_iff_eq, BEq.rfl, wrap_i64, wrap_i32, wrap_i8, wrap_u8, wrap_u32, wrap_u64, Nat.mul_one, Int.toNat_natCast, ints_len, List.length_map, List.length_set, beq_ft, beq_tf, List.all_cons, List.all_nil, scalar, Bool.and_self, Bool.true_and, Bool.and_true, List.size_toArray, List.getElem?_toArray, binStr, fillIn, true_and, and_true, true_or, or_true, bne_self_eq_false, Int.reduceToNat, Int.reduceAdd, Int.reduceSub, Int.reduceMul]
        refine hQ _ ?_ (by rw [← last c2]; rfl)
        repeat' (first | exact ag | (refine Agree.upd ?_ (by first | exact hk1 | exact hk2 | exact kp _ (by decide)) _))
      · have b2 : decide (((rhat + v1 : Nat) : Int) ≥ 4294967296) = false := decide_eq_false (by omega)
        simp (disch := omega) only [c43_l0, c43, ↓c43_r0_run, ↓c43_r1_run, ↓c43_r2_run, ↓c43_r3_run, ↓c43_r4_run, ↓c43_r5_run, ↓c43_r6_run, ↓c43_r7_run, ↓c43_r8_run, ↓c43_r9_run, ↓c43_r10_run, ↓c43_r11_run, ↓c43_r12_run, ↓c43_r13_run, ↓c43_r14_run, ↓c43_r15_run, ↓c43_r16_run, ↓c43_r17_c1_run, ↓c43_r17_run, ↓c43_r18_run, ↓c43_r19_run, ↓c43_r20_run, ↓c43_r21_run, ↓c43_r22_run, ↓c43_r23_run, ↓c43_r24_c1_run, ↓c43_r24_run, ↓c43_r25_run, ↓c43_r26_run, ↓c43_r27_run, ↓c43_r28_c1_run, ↓c43_r28_run, e9, e10, ed, eq, er, b1, b2, b3, w1, k1, k2, ↓RunC_seq, ↓RunC_skip, ↓RunC_ret, ↓RunC_exit, ↓RunC_region, ↓RunC_condQ, condQ_true, condQ_false, ↓RunC_block, ↓RunR_done, ↓RunR_op, ↓RunR_opg, ↓RunR_snap, ↓RunR_chk, Holds, Option.getD_none, Option.getD_some, guardR_true, guardR_false, wantV_bool, wantV_none, callvQ_eq, afterR_some, ↓seqQ_normal, ↓seqQ_ret, ↓seqQ_exit, ↓blockQ_normal, ↓blockQ_ret, ↓blockQ_exit, ↓retQ_ret, ↓retQ_normal, ↓callQ_eq, ↓loopQ_normal, ↓loopQ_ret, ↓loopQ_exit, ↓upd_same, upd_at, sel_t, sel_f, initE_at, obj_upd_same, obj_upd_ne, obj_new_same, obj_updnew_same, obj_updnew_same2, obj_new2_same, obj_new3_same, obj_newupd_same, obj_new_ne, obj_new_ne2, obj_new_ne3, obj_new_ne4, next_upd, next_new, add_plain, cop, bin, binInt, un, shiftInt, flat, read_cells, src_ro, src_fix, src_grow, get_cells, List.getElem?_cons_zero, List.getElem?_cons_succ, write_fix, write_grow, setAt, bound, eqK, elemOk_ro, elemOk_fix, elemOk_grow, stiff_ro, stiff_fix, goInt, resultsV, resV, resL, finQ_some, Option.map_some, Option.map_none, Option.bind_some, Option.bind_none, List.map_cons, List.map_nil, List.getD_cons_zero, List.getD_cons_succ, List.getD_nil, Nat.reduceEqDiff, Nat.reduceAdd, Nat.reduceMul, Nat.reduceSub, Nat.reduceLT, Nat.reduceLeDiff, Nat.reduceBEq, if_true, if_false, ite_true, ite_false, List.length_cons, List.length_nil, Nat.zero_add, Nat.add_zero, List.drop_zero, List.drop_succ_cons, List.take_succ_cons, List.take_zero, List.set_cons_zero, List.set_cons_succ, Int.reduceLT, Int.reduceLE, Bool.not_true, Bool.not_false, Option.isNone_some, Option.isNone_none, decide_true, decide_false, beq_self_eq_true, Bool.false_eq_true, Bool.true_eq_false, if_pos, if_neg, reduceCtorEq, beq_iff_eq, BEq.rfl, wrap_i64, wrap_i32, wrap_i8, wrap_u8, wrap_u32, wrap_u64, Nat.mul_one, Int.toNat_natCast, ints_len, List.length_map, List.length_set, beq_ft, beq_tf, List.all_cons, List.all_nil, scalar, Bool.and_self, Bool.true_and, Bool.and_true, List.size_toArray, List.getElem?_toArray, binStr, fillIn, true_and, and_true, true_or, or_true, bne_self_eq_false, Int.reduceToNat, Int.reduceAdd, Int.reduceSub, Int.reduceMul]
        refine ⟨n, by omega, ?_, q - 1, rhat + v1, rfl, rfl, h1', h2', hle, by omega, by omega⟩
        repeat' (first | exact ag | (refine Agree.upd ?_ (by first | exact hk1 | exact hk2 | exact kp _ (by decide)) _))
  · -- it is the digit
    have cq : q < 4294967296 := by omega
    have hsame : q = Q0 := by
      rw [hQ0]; refine Digit.same hy0 (by rw [← hQ0]; exact h3) (Nat.le_of_not_lt fun h => c (Or.inr h))
    have hp : q * v0 ≤ 4294967295 * 4294967295 := Nat.mul_le_mul (by omega) (by omega)
    have b1 : decide ((q : Int) ≥ 4294967296) = false := decide_eq_false (by omega)
    have w1 : IntKind.u64.wrap ((q : Int) * (v0 : Int)) = ((q * v0 : Nat) : Int) := by rw [← Int.natCast_mul, wrap_u64] <;> omega
    have b3 : decide (((q * v0 : Nat) : Int) > 4294967296 * (rhat : Int) + (d : Int)) = false := decide_eq_false (by
      have : ¬ rhat * 4294967296 + d < q * v0 := fun hh => c (.inr (hti.2 hh))
      omega)
    simp (disch := omega) only [c43_l0, c43, ↓c43_r0_run, ↓c43_r1_run, ↓c43_r2_run, ↓c43_r3_run, ↓c43_r4_run, ↓c43_r5_run, ↓c43_r6_run, ↓c43_r7_run, ↓c43_r8_run, ↓c43_r9_run, ↓c43_r10_run, ↓c43_r11_run, ↓c43_r12_run, ↓c43_r13_run, ↓c43_r14_run, ↓c43_r15_run, ↓c43_r16_run, ↓c43_r17_c1_run, ↓c43_r17_run, ↓c43_r18_run, ↓c43_r19_run, ↓c43_r20_run, ↓c43_r21_run, ↓c43_r22_run, ↓c43_r23_run, ↓c43_r24_c1_run, ↓c43_r24_run, ↓c43_r25_run, ↓c43_r26_run, ↓c43_r27_run, ↓c43_r28_c1_run, ↓c43_r28_run, e9, e10, ed, eq, er, b1, b3, w1, ↓RunC_seq, ↓RunC_skip, ↓RunC_ret, ↓RunC_exit, ↓RunC_region, ↓RunC_condQ, condQ_true, condQ_false, ↓RunC_block, ↓RunR_done, ↓RunR_op, ↓RunR_opg, ↓RunR_snap, ↓RunR_chk, Holds, Option.getD_none, Option.getD_some, guardR_true, guardR_false, wantV_bool, wantV_none, callvQ_eq, afterR_some, ↓seqQ_normal, ↓seqQ_ret, ↓seqQ_exit, ↓blockQ_normal, ↓blockQ_ret, ↓blockQ_exit, ↓retQ_ret, ↓retQ_normal, ↓callQ_eq, ↓loopQ_normal, ↓loopQ_ret, ↓loopQ_exit, ↓upd_same, upd_at, sel_t, sel_f, initE_at, obj_upd_same, obj_upd_ne, obj_new_same, obj_updnew_same, obj_updnew_same2, obj_new2_same, obj_new3_same, obj_newupd_same, obj_new_ne, obj_new_ne2, obj_new_ne3, obj_new_ne4, next_upd, next_new, add_plain, cop, bin, binInt, un, shiftInt, flat, read_cells, src_ro, src_fix, src_grow, get_cells, List.getElem?_cons_zero, List.getElem?_cons_succ, write_fix, write_grow, setAt, bound, eqK, elemOk_ro, elemOk_fix, elemOk_grow, stiff_ro, stiff_fix, goInt, resultsV, resV, resL, finQ_some, Option.map_some, Option.map_none, Option.bind_some, Option.bind_none, List.map_cons, List.map_nil, List.getD_cons_zero, List.getD_cons_succ, List.getD_nil, Nat.reduceEqDiff, Nat.reduceAdd, Nat.reduceMul, Nat.reduceSub, Nat.reduceLT, Nat.reduceLeDiff, Nat.reduceBEq, if_true, if_false, ite_true, ite_false, List.length_cons, List.length_nil, Nat.zero_add, Nat.add_zero, List.drop_zero, List.drop_succ_cons, List.take_succ_cons, List.take_zero, List.set_cons_zero, List.set_cons_succ, Int.reduceLT, Int.reduceLE, Bool.not_true, Bool.not_false, Option.isNone_some, Option.isNone_none, decide_true, decide_false, beq_self_eq_true, Bool.false_eq_true, Bool.true_eq_false, if_pos, if_neg, reduceCtorEq, beq_iff_eq, BEq.rfl, wrap_i64, wrap_i32, wrap_i8, wrap_u8, wrap_u32, wrap_u64, Nat.mul_one, Int.toNat_natCast, ints_len, List.length_map, List.length_set, beq_ft, beq_tf, List.all_cons, List.all_nil, scalar, Bool.and_self, Bool.true_and, Bool.and_true, List.size_toArray, List.getElem?_toArray, binStr, fillIn, true_and, and_true, true_or, or_true, bne_self_eq_false, Int.reduceToNat, Int.reduceAdd, Int.reduceSub, Int.reduceMul]
    refine hQ _ ?_ (by rw [← hsame]; exact eq)
    repeat' (first | exact ag | (refine Agree.upd ?_ (by first | exact hk1 | exact hk2 | exact kp _ (by decide)) _))
theorem div_l1 (h : Heap) (y v1 v0 u d : Nat) (hy : y = v1 * 4294967296 + v0) (hv1 : 2147483648 ≤ v1) (hv1' : v1 < 4294967296) (hv0 : v0 < 4294967296) (hd : d < 4294967296) (hu : u < y) {Q : Post} (keep : List Nat) (hk1 : keep.elem 18 = false) (hk2 : keep.elem 16 = false) (hk3 : keep.all (fun t => t < 19) = true)
    (n q rhat : Nat) (h1 : 4294967296 ≤ rhat + n * v1) (h2 : q * v1 + rhat = u) (h3 : (u * 4294967296 + d) / y ≤ q) (h4 : q ≤ 4294967297) (h5 : rhat < 4294967296) (e : Env)
    (e9 : e 9 = .int .u64 v1) (e10 : e 10 = .int .u64 v0) (ed : e 14 = .int .u64 d) (eq : e 18 = .int .u64 q) (er : e 16 = .int .u64 rhat)
    (hQ : ∀ e', Agree keep e e' → e' 18 = .int .u64 (((u * 4294967296 + d) / y : Nat) : Int) → Q (.exit 2) e' h) : RunC cp (.loop c43_l1) e h Q := by
  have hy0 : 0 < y := by omega
  obtain ⟨Q0, hQ0⟩ : ∃ Q0, Q0 = (u * 4294967296 + d) / y := ⟨_, rfl⟩
  rw [← hQ0] at h3 hQ
  have kp : ∀ t, 19 ≤ t → keep.elem t = false := fun t ht => by
    cases hh : keep.elem t with
    | false => rfl
    | true =>
      have hm : t ∈ keep := List.elem_iff.1 hh
      have := List.all_eq_true.1 hk3 t hm
      simp at this; omega
  refine RunC_loop cp _ Q (fun n e' h' => h' = h ∧ Agree keep e e' ∧ e' 9 = .int .u64 v1 ∧ e' 10 = .int .u64 v0 ∧ e' 14 = .int .u64 d ∧ ∃ q rhat : Nat, e' 18 = .int .u64 q ∧ e' 16 = .int .u64 rhat ∧ 4294967296 ≤ rhat + n * v1 ∧ q * v1 + rhat = u ∧ Q0 ≤ q ∧ q ≤ 4294967297 ∧ rhat < 4294967296) ?_ n e h
    ⟨rfl, Agree.refl _ _, e9, e10, ed, q, rhat, eq, er, h1, h2, h3, h4, h5⟩
  clear h1 h2 h3 h4 h5 eq er e9 e10 ed
  rintro n e' h' ⟨rfl, ag, e9, e10, ed, q, rhat, eq, er, h1, h2, h3, h4, h5⟩
  have hti := @Digit.test_iff v1 v0 u d q rhat y hy h2
  by_cases c : 4294967296 ≤ q ∨ u * 4294967296 + d < q * y
  · -- one less
    obtain ⟨n, rfl⟩ : ∃ m, n = m + 1 := ⟨n - 1, by
      rcases Nat.eq_zero_or_pos n with h0 | h0
      · subst h0; omega
      · omega⟩
    have hle : Q0 ≤ q - 1 := by
      rcases c with c | c
      · have : Q0 < 4294967296 := by rw [hQ0]; exact digit_lt hu hd
        omega
      · rw [hQ0]; exact Digit.less c
    have hq0 : 1 ≤ q := by
      rcases c with c | c
      · omega
      · rcases Nat.eq_zero_or_pos q with e | e
        · subst e; omega
        · exact e
    have h2' : (q - 1) * v1 + (rhat + v1) = u := by
      obtain ⟨p, rfl⟩ : ∃ p, q = p + 1 := ⟨q - 1, by omega⟩
      rw [Nat.add_mul] at h2; rw [Nat.add_sub_cancel]; omega
    have k1 : (q : Int) - 1 = ((q - 1 : Nat) : Int) := by omega
    have k2 : (rhat : Int) + (v1 : Int) = ((rhat + v1 : Nat) : Int) := by omega
    have h1' : 4294967296 ≤ (rhat + v1) + n * v1 := by rw [Nat.add_mul] at h1; omega
    have last : 4294967296 ≤ rhat + v1 → q - 1 = Q0 := fun c2 => by
      have hti2 := @Digit.test_iff v1 v0 u d (q - 1) (rhat + v1) y hy h2'
      have hp : (q - 1) * v0 ≤ 4294967296 * 4294967295 := Nat.mul_le_mul (by omega) (by omega)
      rw [hQ0]; refine Digit.same hy0 (by rw [← hQ0]; exact hle) (Nat.le_of_not_lt fun h => ?_)
      have := hti2.mp h
      omega
    by_cases cq : 4294967296 ≤ q
    · have b1 : decide ((q : Int) ≥ 4294967296) = true := decide_eq_true (by omega)
      by_cases c2 : 4294967296 ≤ rhat + v1
      · have b2 : decide (((rhat + v1 : Nat) : Int) ≥ 4294967296) = true := decide_eq_true (by omega)
        simp (disch := omega) only [c43_l1, c43, ↓c43_r0_run, ↓c43_r1_run, ↓c43_r2_run, ↓c43_r3_run, ↓c43_r4_run, ↓c43_r5_run, ↓c43_r6_run, ↓c43_r7_run, ↓c43_r8_run, ↓c43_r9_run, ↓c43_r10_run, ↓c43_r11_run, ↓c43_r12_run, ↓c43_r13_run, ↓c43_r14_run, ↓c43_r15_run, ↓c43_r16_run, ↓c43_r17_c1_run, ↓c43_r17_run, ↓c43_r18_run, ↓c43_r19_run, ↓c43_r20_run, ↓c43_r21_run, ↓c43_r22_run, ↓c43_r23_run, ↓c43_r24_c1_run, ↓c43_r24_run, ↓c43_r25_run, ↓c43_r26_run, ↓c43_r27_run, ↓c43_r28_c1_run, ↓c43_r28_run, e9, e10, ed, eq, er, b1, b2, k1, k2, ↓RunC_seq, ↓RunC_skip, ↓RunC_ret, ↓RunC_exit, ↓RunC_region, ↓RunC_condQ, condQ_true, condQ_false, ↓RunC_block, ↓RunR_done, ↓RunR_op, ↓RunR_opg, ↓RunR_snap, ↓RunR_chk, Holds, Option.getD_none, Option.getD_some, guardR_true, guardR_false, wantV_bool, wantV_none, callvQ_eq, afterR_some, ↓seqQ_normal, ↓seqQ_ret, ↓seqQ_exit, ↓blockQ_normal, ↓blockQ_ret, ↓blockQ_exit, ↓retQ_ret, ↓retQ_normal, ↓callQ_eq, ↓loopQ_normal, ↓loopQ_ret, ↓loopQ_exit, ↓upd_same, upd_at, sel_t, sel_f, initE_at, obj_upd_same, obj_upd_ne, obj_new_same, obj_updnew_same, obj_updnew_same2, obj_new2_same, obj_new3_same, obj_newupd_same, obj_new_ne, obj_new_ne2, obj_new_ne3, obj_new_ne4, next_upd, next_new, add_plain, cop, bin, binInt, un, shiftInt, flat, read_cells, src_ro, src_fix, src_grow, get_cells, List.getElem?_cons_zero, List.getElem?_cons_succ, write_fix, write_grow, setAt, bound, eqK, elemOk_ro, elemOk_fix, elemOk_grow, stiff_ro, stiff_fix, goInt, resultsV, resV, resL, finQ_some, Option.map_some, Option.map_none, Option.bind_some, Option.bind_none, List.map_cons, List.map_nil, List.getD_cons_zero, List.getD_cons_succ, List.getD_nil, Nat.reduceEqDiff, Nat.reduceAdd, Nat.reduceMul, Nat.reduceSub, Nat.reduceLT, Nat.reduceLeDiff, Nat.reduceBEq, if_true, if_false, ite_true, ite_false, List.length_cons, List.length_nil, Nat.zero_add, Nat.add_zero, List.drop_zero, List.drop_succ_cons, List.take_succ_cons, List.take_zero, List.set_cons_zero, List.set_cons_succ, Int.reduceLT, Int.reduceLE, Bool.not_true, Bool.not_false, Option.isNone_some, Option.isNone_none, decide_true, decide_false, beq_self_eq_true, Bool.false_eq_true, Bool.true_eq_false, if_pos, if_neg, reduceCtorEq, beq_iff_eq, BEq.rfl, wrap_i64, wrap_i32, wrap_i8, wrap_u8, wrap_u32, wrap_u64, Nat.mul_one, Int.toNat_natCast, ints_len, List.length_map, List.length_set, beq_ft, beq_tf, List.all_cons, List.all_nil, scalar, Bool.and_self, Bool.true_and, Bool.and_true, List.size_toArray, List.getElem?_toArray, binStr, fillIn, true_and, and_true, true_or, or_true, bne_self_eq_false, Int.reduceToNat, Int.reduceAdd, Int.reduceSub, Int.reduceMul]
        refine hQ _ ?_ (by rw [← last c2]; rfl)
        repeat' (first | exact ag | (refine Agree.upd ?_ (by first | exact hk1 | exact hk2 | exact kp _ (by decide)) _))
      · have b2 : decide (((rhat + v1 : Nat) : Int) ≥ 4294967296) = false := decide_eq_false (by omega)
        simp (disch := omega) only [c43_l1, c43, ↓c43_r0_run, ↓c43_r1_run, ↓c43_r2_run, ↓c43_r3_run, ↓c43_r4_run, ↓c43_r5_run, ↓c43_r6_run, ↓c43_r7_run, ↓c43_r8_run, ↓c43_r9_run, ↓c43_r10_run, ↓c43_r11_run, ↓c43_r12_run, ↓c43_r13_run, ↓c43_r14_run, ↓c43_r15_run, ↓c43_r16_run, ↓c43_r17_c1_run, ↓c43_r17_run, ↓c43_r18_run, ↓c43_r19_run, ↓c43_r20_run, ↓c43_r21_run, ↓c43_r22_run, ↓c43_r23_run, ↓c43_r24_c1_run, ↓c43_r24_run, ↓c43_r25_run, ↓c43_r26_run, ↓c43_r27_run, ↓c43_r28_c1_run, ↓c43_r28_run, e9, e10, ed, eq, er, b1, b2, k1, k2, ↓RunC_seq, ↓RunC_skip, ↓RunC_ret, ↓RunC_exit, ↓RunC_region, ↓RunC_condQ, condQ_true, condQ_false, ↓RunC_block, ↓RunR_done, ↓RunR_op, ↓RunR_opg, ↓RunR_snap, ↓RunR_chk, Holds, Option.getD_none, Option.getD_some, guardR_true, guardR_false, wantV_bool, wantV_none, callvQ_eq, afterR_some, ↓seqQ_normal, ↓seqQ_ret, ↓seqQ_exit, ↓blockQ_normal, ↓blockQ_ret, ↓blockQ_exit, ↓retQ_ret, ↓retQ_normal, ↓callQ_eq, ↓loopQ_normal, ↓loopQ_ret, ↓loopQ_exit, ↓upd_same, upd_at, sel_t, sel_f, initE_at, obj_upd_same, obj_upd_ne, obj_new_same, obj_updnew_same, obj_updnew_same2, obj_new2_same, obj_new3_same, obj_newupd_same, obj_new_ne, obj_new_ne2, obj_new_ne3, obj_new_ne4, next_upd, next_new, add_plain, cop, bin, binInt, un, shiftInt, flat, read_cells, src_ro, src_fix, src_grow, get_cells, List.getElem?_cons_zero, List.getElem?_cons_succ, write_fix, write_grow, setAt, bound, eqK, elemOk_ro, elemOk_fix, elemOk_grow, stiff_ro, stiff_fix, goInt, resultsV, resV, resL, finQ_some, Option.map_some, Option.map_none, Option.bind_some, Option.bind_none, List.map_cons, List.map_nil, List.getD_cons_zero, List.getD_cons_succ, List.getD_nil, Nat.reduceEqDiff, Nat.reduceAdd, Nat.reduceMul, Nat.reduceSub, Nat.reduceLT, Nat.reduceLeDiff, Nat.reduceBEq, if_true, if_false, ite_true, ite_false, List.length_cons, List.length_nil, Nat.zero_add, Nat.add_zero, List.drop_zero, List.drop_succ_cons, List.take_succ_cons, List.take_zero, List.set_cons_zero, List.set_cons_succ, Int.reduceLT, Int.reduceLE, Bool.not_true, Bool.not_false, Option.isNone_some, Option.isNone_none, decide_true, decide_false, beq_self_eq_true, Bool.false_eq_true, Bool.true_eq_false, if_pos, if_neg, reduceCtorEq, beq_iff_eq, BEq.rfl, wrap_i64, wrap_i32, wrap_i8, wrap_u8, wrap_u32, wrap_u64, Nat.mul_one, Int.toNat_natCast, ints_len, List.length_map, List.length_set, beq_ft, beq_tf, List.all_cons, List.all_nil, scalar, Bool.and_self, Bool.true_and, Bool.and_true, List.size_toArray, List.getElem?_toArray, binStr, fillIn, true_and, and_true, true_or, or_true, bne_self_eq_false, Int.reduceToNat, Int.reduceAdd, Int.reduceSub, Int.reduceMul]
        refine ⟨n, by omega, ?_, q - 1, rhat + v1, rfl, rfl, h1', h2', hle, by omega, by omega⟩
        repeat' (first | exact ag | (refine Agree.upd ?_ (by first | exact hk1 | exact hk2 | exact kp _ (by decide)) _))
    · have hp : q * v0 ≤ 4294967295 * 4294967295 := Nat.mul_le_mul (by omega) (by omega)
      have b1 : decide ((q : Int) ≥ 4294967296) = false := decide_eq_false (by omega)
      have w1 : IntKind.u64.wrap ((q : Int) * (v0 : Int)) = ((q * v0 : Nat) : Int) := by rw [← Int.natCast_mul, wrap_u64] <;> omega
      have b3 : decide (((q * v0 : Nat) : Int) > 4294967296 * (rhat : Int) + (d : Int)) = true := decide_eq_true (by have := hti.1 (c.resolve_left cq); omega)
      by_cases c2 : 4294967296 ≤ rhat + v1
      · have b2 : decide (((rhat + v1 : Nat) : Int) ≥ 4294967296) = true := decide_eq_true (by omega)
        simp (disch := omega) only [c43_l1, c43, ↓c43_r0_run, ↓c43_r1_run, ↓c43_r2_run, ↓c43_r3_run, ↓c43_r4_run, ↓c43_r5_run, ↓c43_r6_run, ↓c43_r7_run, ↓c43_r8_run, ↓c43_r9_run, ↓c43_r10_run, ↓c43_r11_run, ↓c43_r12_run, ↓c43_r13_run, ↓c43_r14_run, ↓c43_r15_run, ↓c43_r16_run, ↓c43_r17_c1_run, ↓c43_r17_run, ↓c43_r18_run, ↓c43_r19_run, ↓c43_r20_run, ↓c43_r21_run, ↓c43_r22_run, ↓c43_r23_run, ↓c43_r24_c1_run, ↓c43_r24_run, ↓c43_r25_run, ↓c43_r26_run, ↓c43_r27_run, ↓c43_r28_c1_run, ↓c43_r28_run, e9, e10, ed, eq, er, b1, b2, b3, w1, k1, k2, ↓RunC_seq, ↓RunC_skip, ↓RunC_ret, ↓RunC_exit, ↓RunC_region, ↓RunC_condQ, condQ_true, condQ_false, ↓RunC_block, ↓RunR_done, ↓RunR_op, ↓RunR_opg, ↓RunR_snap, ↓RunR_chk, Holds, Option.getD_none, Option.getD_some, guardR_true, guardR_false, wantV_bool, wantV_none, callvQ_eq, afterR_some, ↓seqQ_normal, ↓seqQ_ret, ↓seqQ_exit, ↓blockQ_normal, ↓blockQ_ret, ↓blockQ_exit, ↓retQ_ret, ↓retQ_normal, ↓callQ_eq, ↓loopQ_normal, ↓loopQ_ret, ↓loopQ_exit, ↓upd_same, upd_at, sel_t, sel_f, initE_at, obj_upd_same, obj_upd_ne, obj_new_same, obj_updnew_same, obj_updnew_same2, obj_new2_same, obj_new3_same, obj_newupd_same, obj_new_ne, obj_new_ne2, obj_new_ne3, obj_new_ne4, next_upd, next_new, add_plain, cop, bin, binInt, un, shiftInt, flat, read_cells, src_ro, src_fix, src_grow, get_cells, List.getElem?_cons_zero, List.getElem?_cons_succ, write_fix, write_grow, setAt, bound, eqK, elemOk_ro, elemOk_fix, elemOk_grow, stiff_ro, stiff_fix, goInt, resultsV, resV, resL, finQ_some, Option.map_some, Option.map_none, Option.bind_some, Option.bind_none, List.map_cons, List.map_nil, List.getD_cons_zero, List.getD_cons_succ, List.getD_nil, Nat.reduceEqDiff, Nat.reduceAdd, Nat.reduceMul, Nat.reduceSub, Nat.reduceLT, Nat.reduceLeDiff, Nat.reduceBEq, if_true, if_false, ite_true, ite_false, List.length_cons, List.length_nil, Nat.zero_add, Nat.add_zero, List.drop_zero, List.drop_succ_cons, List.take_succ_cons, List.take_zero, List.set_cons_zero, List.set_cons_succ, Int.reduceLT, Int.reduceLE, Bool.not_true, Bool.not_false, Option.isNone_some, Option.isNone_none, decide_true, decide_false, beq_self_eq_true, Bool.false_eq_true, Bool.true_eq_false, if_pos, if_neg, reduceCtorEq, beq_iff_eq, BEq.rfl, wrap_i64, wrap_i32, wrap_i8, wrap_u8, wrap_u32, wrap_u64, Nat.mul_one, Int.toNat_natCast, ints_len, List.length_map, List.length_set, beq_ft, beq_tf, List.all_cons, List.all_nil, scalar, Bool.and_self, Bool.true_and, Bool.and_true, List.size_toArray, List.getElem?_toArray, binStr, fillIn, true_and, and_true, true_or, or_true, bne_self_eq_false, Int.reduceToNat, Int.reduceAdd, Int.reduceSub, Int.reduceMul]
        refine hQ _ ?_ (by rw [← last c2]; rfl)
        repeat' (first | exact ag | (refine Agree.upd ?_ (by first | exact hk1 | exact hk2 | exact kp _ (by decide)) _))
      · have b2 : decide (((rhat + v1 : Nat) : Int) ≥ 4294967296) = false := decide_eq_false (by omega)
        simp (disch := omega) only [c43_l1, c43, ↓c43_r0_run, ↓c43_r1_run, ↓c43_r2_run, ↓c43_r3_run, ↓c43_r4_run, ↓c43_r5_run, ↓c43_r6_run, ↓c43_r7_run, ↓c43_r8_run, ↓c43_r9_run, ↓c43_r10_run, ↓c43_r11_run, ↓c43_r12_run, ↓c43_r13_run, ↓c43_r14_run, ↓c43_r15_run, ↓c43_r16_run, ↓c43_r17_c1_run, ↓c43_r17_run, ↓c43_r18_run, ↓c43_r19_run, ↓c43_r20_run, ↓c43_r21_run, ↓c43_r22_run, ↓c43_r23_run, ↓c43_r24_c1_run, ↓c43_r24_run, ↓c43_r25_run, ↓c43_r26_run, ↓c43_r27_run, ↓c43_r28_c1_run, ↓c43_r28_run, e9, e10, ed, eq, er, b1, b2, b3, w1, k1, k2, ↓RunC_seq, ↓RunC_skip, ↓RunC_ret, ↓RunC_exit, ↓RunC_region, ↓RunC_condQ, condQ_true, condQ_false, ↓RunC_block, ↓RunR_done, ↓RunR_op, ↓RunR_opg, ↓RunR_snap, ↓RunR_chk, Holds, Option.getD_none, Option.getD_some, guardR_true, guardR_false, wantV_bool, wantV_none, callvQ_eq, afterR_some, ↓seqQ_normal, ↓seqQ_ret, ↓seqQ_exit, ↓blockQ_normal, ↓blockQ_ret, ↓blockQ_exit, ↓retQ_ret, ↓retQ_normal, ↓callQ_eq, ↓loopQ_normal, ↓loopQ_ret, ↓loopQ_exit, ↓upd_same, upd_at, sel_t, sel_f, initE_at, obj_upd_same, obj_upd_ne, obj_new_same, obj_updnew_same, obj_updnew_same2, obj_new2_same, obj_new3_same, obj_newupd_same, obj_new_ne, obj_new_ne2, obj_new_ne3, obj_new_ne4, next_upd, next_new, add_plain, cop, bin, binInt, un, shiftInt, flat, read_cells, src_ro, src_fix, src_grow, get_cells, List.getElem?_cons_zero, List.getElem?_cons_succ, write_fix, write_grow, setAt, bound, eqK, elemOk_ro, elemOk_fix, elemOk_grow, stiff_ro, stiff_fix, goInt, resultsV, resV, resL, finQ_some, Option.map_some, Option.map_none, Option.bind_some, Option.bind_none, List.map_cons, List.map_nil, List.getD_cons_zero, List.getD_cons_succ, List.getD_nil, Nat.reduceEqDiff, Nat.reduceAdd, Nat.reduceMul, Nat.reduceSub, Nat.reduceLT, Nat.reduceLeDiff, Nat.reduceBEq, if_true, if_false, ite_true, ite_false, List.length_cons, List.length_nil, Nat.zero_add, Nat.add_zero, List.drop_zero, List.drop_succ_cons, List.take_succ_cons, List.take_zero, List.set_cons_zero, List.set_cons_succ, Int.reduceLT, Int.reduceLE, Bool.not_true, Bool.not_false, Option.isNone_some, Option.isNone_none, decide_true, decide_false, beq_self_eq_true, Bool.false_eq_true, Bool.true_eq_false, if_pos, if_neg, reduceCtorEq, beq_iff_eq, BEq.rfl, wrap_i64, wrap_i32, wrap_i8, wrap_u8, wrap_u32, wrap_u64, Nat.mul_one, Int.toNat_natCast, ints_len, List.length_map, List.length_set, beq_ft, beq_tf, List.all_cons, List.all_nil, scalar, Bool.and_self, Bool.true_and, Bool.and_true, List.size_toArray, List.getElem?_toArray, binStr, fillIn, true_and, and_true, true_or, or_true, bne_self_eq_false, Int.reduceToNat, Int.reduceAdd, Int.reduceSub, Int.reduceMul]
        refine ⟨n, by omega, ?_, q - 1, rhat + v1, rfl, rfl, h1', h2', hle, by omega, by omega⟩
        repeat' (first | exact ag | (refine Agree.upd ?_ (by first | exact hk1 | exact hk2 | exact kp _ (by decide)) _))
  · -- it is the digit
    have cq : q < 4294967296 := by omega
    have hsame : q = Q0 := by
      rw [hQ0]; refine Digit.same hy0 (by rw [← hQ0]; exact h3) (Nat.le_of_not_lt fun h => c (Or.inr h))
    have hp : q * v0 ≤ 4294967295 * 4294967295 := Nat.mul_le_mul (by omega) (by omega)
    have b1 : decide ((q : Int) ≥ 4294967296) = false := decide_eq_false (by omega)
    have w1 : IntKind.u64.wrap ((q : Int) * (v0 : Int)) = ((q * v0 : Nat) : Int) := by rw [← Int.natCast_mul, wrap_u64] <;> omega
    have b3 : decide (((q * v0 : Nat) : Int) > 4294967296 * (rhat : Int) + (d : Int)) = false := decide_eq_false (by
      have : ¬ rhat * 4294967296 + d < q * v0 := fun hh => c (.inr (hti.2 hh))
      omega)
    simp (disch := omega) only [c43_l1, c43, ↓c43_r0_run, ↓c43_r1_run, ↓c43_r2_run, ↓c43_r3_run, ↓c43_r4_run, ↓c43_r5_run, ↓c43_r6_run, ↓c43_r7_run, ↓c43_r8_run, ↓c43_r9_run, ↓c43_r10_run, ↓c43_r11_run, ↓c43_r12_run, ↓c43_r13_run, ↓c43_r14_run, ↓c43_r15_run, ↓c43_r16_run, ↓c43_r17_c1_run, ↓c43_r17_run, ↓c43_r18_run, ↓c43_r19_run, ↓c43_r20_run, ↓c43_r21_run, ↓c43_r22_run, ↓c43_r23_run, ↓c43_r24_c1_run, ↓c43_r24_run, ↓c43_r25_run, ↓c43_r26_run, ↓c43_r27_run, ↓c43_r28_c1_run, ↓c43_r28_run, e9, e10, ed, eq, er, b1, b3, w1, ↓RunC_seq, ↓RunC_skip, ↓RunC_ret, ↓RunC_exit, ↓RunC_region, ↓RunC_condQ, condQ_true, condQ_false, ↓RunC_block, ↓RunR_done, ↓RunR_op, ↓RunR_opg, ↓RunR_snap, ↓RunR_chk, Holds, Option.getD_none, Option.getD_some, guardR_true, guardR_false, wantV_bool, wantV_none, callvQ_eq, afterR_some, ↓seqQ_normal, ↓seqQ_ret, ↓seqQ_exit, ↓blockQ_normal, ↓blockQ_ret, ↓blockQ_exit, ↓retQ_ret, ↓retQ_normal, ↓callQ_eq, ↓loopQ_normal, ↓loopQ_ret, ↓loopQ_exit, ↓upd_same, upd_at, sel_t, sel_f, initE_at, obj_upd_same, obj_upd_ne, obj_new_same, obj_updnew_same, obj_updnew_same2, obj_new2_same, obj_new3_same, obj_newupd_same, obj_new_ne, obj_new_ne2, obj_new_ne3, obj_new_ne4, next_upd, next_new, add_plain, cop, bin, binInt, un, shiftInt, flat, read_cells, src_ro, src_fix, src_grow, get_cells, List.getElem?_cons_zero, List.getElem?_cons_succ, write_fix, write_grow, setAt, bound, eqK, elemOk_ro, elemOk_fix, elemOk_grow, stiff_ro, stiff_fix, goInt, resultsV, resV, resL, finQ_some, Option.map_some, Option.map_none, Option.bind_some, Option.bind_none, List.map_cons, List.map_nil, List.getD_cons_zero, List.getD_cons_succ, List.getD_nil, Nat.reduceEqDiff, Nat.reduceAdd, Nat.reduceMul, Nat.reduceSub, Nat.reduceLT, Nat.reduceLeDiff, Nat.reduceBEq, if_true, if_false, ite_true, ite_false, List.length_cons, List.length_nil, Nat.zero_add, Nat.add_zero, List.drop_zero, List.drop_succ_cons, List.take_succ_cons, List.take_zero, List.set_cons_zero, List.set_cons_succ, Int.reduceLT, Int.reduceLE, Bool.not_true, Bool.not_false, Option.isNone_some, Option.isNone_none, decide_true, decide_false, beq_self_eq_true, Bool.false_eq_true, Bool.true_eq_false, if_pos, if_neg, reduceCtorEq, beq_iff_eq, BEq.rfl, wrap_i64, wrap_i32, wrap_i8, wrap_u8, wrap_u32, wrap_u64, Nat.mul_one, Int.toNat_natCast, ints_len, List.length_map, List.length_set, beq_ft, beq_tf, List.all_cons, List.all_nil, scalar, Bool.and_self, Bool.true_and, Bool.and_true, List.size_toArray, List.getElem?_toArray, binStr, fillIn, true_and, and_true, true_or, or_true, bne_self_eq_false, Int.reduceToNat, Int.reduceAdd, Int.reduceSub, Int.reduceMul]
    refine hQ _ ?_ (by rw [← hsame]; exact eq)
    repeat' (first | exact ag | (refine Agree.upd ?_ (by first | exact hk1 | exact hk2 | exact kp _ (by decide)) _))
theorem or_u64 (i : Nat) (x y : Int) (hx0 : 0 ≤ x) (hx : x % 2 ^ i = 0) (hx1 : x < 18446744073709551616) (hy0 : 0 ≤ y) (hy : y < 2 ^ i) (hy1 : y < 18446744073709551616) :
    IntKind.u64.wrap ((BitVec.ofInt IntKind.u64.bits x ||| BitVec.ofInt IntKind.u64.bits y).toNat : Int) = x + y :=
  bits_join .u64 64 (by decide) (u64_low 64 (by decide)) i x y hx0 hx (by omega) hy0 hy (by omega)
theorem guess_of (U v1 : Nat) (hv : 0 < v1) (hU : U < 18446744073709551616) : IntKind.u64.wrap (Int.tdiv (U : Int) (v1 : Int)) = ((U / v1 : Nat) : Int) ∧ IntKind.u64.wrap ((U : Int) - IntKind.u64.wrap (((U / v1 : Nat) : Int) * (v1 : Int))) = ((U % v1 : Nat) : Int) := by
  have hm : U / v1 * v1 + U % v1 = U := by rw [Nat.mul_comm]; exact Nat.div_add_mod U v1
  have h1 : U / v1 ≤ U := Nat.div_le_self _ _
  constructor
  · rw [tdiv_nn _ _ (by omega), ← Int.natCast_ediv, wrap_u64 (Int.natCast_nonneg _) (by omega)]
  · rw [← Int.natCast_mul, wrap_u64 (n := ((U / v1 * v1 : Nat) : Int)) (by omega) (by omega), wrap_u64 (by omega) (by omega)]
    omega
set_option maxHeartbeats 1000000 in
theorem div64_ok (h : Heap) (hi lo y : Nat) (hhi : hi < y) (hlo : lo < 18446744073709551616) (hy : y < 18446744073709551616) (Q : Value → Heap → Prop) :
    CALL cp 43 [.int .u64 hi, .int .u64 lo, .int .u64 y] h Q ↔ Q (.tuple #[.int .u64 (((hi * 18446744073709551616 + lo) / y : Nat) : Int), .int .u64 (((hi * 18446744073709551616 + lo) % y : Nat) : Int)]) h := by
  refine CALL_det ?_ Q
  rw [CALL_enter cp cp43]
  have hy0 : y ≠ 0 := by omega
  have a1 : ((y : Int) == 0) = false := beq_eq_false_iff_ne.2 (by omega)
  have a2 : decide ((y : Int) ≤ (hi : Int)) = false := decide_eq_false (by omega)
  by_cases h0 : hi = 0
  · subst h0
    have z0 : (((0 : Nat) : Int) == 0) = true := rfl
    have n0 : ((y : Int) = 0) = False := by simp; omega
    have e1 : IntKind.u64.wrap (Int.tdiv (lo : Int) (y : Int)) = ((lo / y : Nat) : Int) := (guess_of lo y (by omega) hlo).1
    have e2 : Int.tmod (lo : Int) (y : Int) = ((lo % y : Nat) : Int) := by rw [tmod_nn _ _ (by omega), ← Int.natCast_emod]
    simp (disch := omega) only [c43, ↓c43_r0_run, ↓c43_r1_run, ↓c43_r2_run, ↓c43_r3_run, ↓c43_r4_run, ↓c43_r5_run, ↓c43_r6_run, ↓c43_r7_run, ↓c43_r8_run, ↓c43_r9_run, ↓c43_r10_run, ↓c43_r11_run, ↓c43_r12_run, ↓c43_r13_run, ↓c43_r14_run, ↓c43_r15_run, ↓c43_r16_run, ↓c43_r17_c1_run, ↓c43_r17_run, ↓c43_r18_run, ↓c43_r19_run, ↓c43_r20_run, ↓c43_r21_run, ↓c43_r22_run, ↓c43_r23_run, ↓c43_r24_c1_run, ↓c43_r24_run, ↓c43_r25_run, ↓c43_r26_run, ↓c43_r27_run, ↓c43_r28_c1_run, ↓c43_r28_run, a1, a2, z0, n0, e1, e2, Nat.zero_mul, ↓RunC_seq, ↓RunC_skip, ↓RunC_ret, ↓RunC_exit, ↓RunC_region, ↓RunC_condQ, condQ_true, condQ_false, ↓RunC_block, ↓RunR_done, ↓RunR_op, ↓RunR_opg, ↓RunR_snap, ↓RunR_chk, Holds, Option.getD_none, Option.getD_some, guardR_true, guardR_false, wantV_bool, wantV_none, callvQ_eq, afterR_some, ↓seqQ_normal, ↓seqQ_ret, ↓seqQ_exit, ↓blockQ_normal, ↓blockQ_ret, ↓blockQ_exit, ↓retQ_ret, ↓retQ_normal, ↓callQ_eq, ↓loopQ_normal, ↓loopQ_ret, ↓loopQ_exit, ↓upd_same, upd_at, sel_t, sel_f, initE_at, obj_upd_same, obj_upd_ne, obj_new_same, obj_updnew_same, obj_updnew_same2, obj_new2_same, obj_new3_same, obj_newupd_same, obj_new_ne, obj_new_ne2, obj_new_ne3, obj_new_ne4, next_upd, next_new, add_plain, cop, bin, binInt, un, shiftInt, flat, read_cells, src_ro, src_fix, src_grow, get_cells, List.getElem?_cons_zero, List.getElem?_cons_succ, write_fix, write_grow, setAt, bound, eqK, elemOk_ro, elemOk_fix, elemOk_grow, stiff_ro, stiff_fix, goInt, resultsV, resV, resL, finQ_some, Option.map_some, Option.map_none, Option.bind_some, Option.bind_none, List.map_cons, List.map_nil, List.getD_cons_zero, List.getD_cons_succ, List.getD_nil, Nat.reduceEqDiff, Nat.reduceAdd, Nat.reduceMul, Nat.reduceSub, Nat.reduceLT, Nat.reduceLeDiff, Nat.reduceBEq, if_true, if_false, ite_true, ite_false, List.length_cons, List.length_nil, Nat.zero_add, Nat.add_zero, List.drop_zero, List.drop_succ_cons, List.take_succ_cons, List.take_zero, List.set_cons_zero, List.set_cons_succ, Int.reduceLT, Int.reduceLE, Bool.not_true, Bool.not_false, Option.isNone_some, Option.isNone_none, decide_true, decide_false, beq_self_eq_true, Bool.false_eq_true, Bool.true_eq_false, if_pos, if_neg, reduceCtorEq, beq_iff_eq, BEq.rfl, wrap_i64, wrap_i32, wrap_i8, wrap_u8, wrap_u32, wrap_u64, Nat.mul_one, Int.toNat_natCast, ints_len, List.length_map, List.length_set, beq_ft, beq_tf, List.all_cons, List.all_nil, scalar, Bool.and_self, Bool.true_and, Bool.and_true, List.size_toArray, List.getElem?_toArray, binStr, fillIn, true_and, and_true, true_or, or_true, bne_self_eq_false, Int.reduceToNat, Int.reduceAdd, Int.reduceSub, Int.reduceMul]
  have a3 : ((hi : Int) == 0) = false := beq_eq_false_iff_ne.2 (by omega)
  obtain ⟨s, hs, hn1, hn2, flz⟩ := lz_ok y hy hy0
  have hp : 0 < 2 ^ s := Nat.two_pow_pos s
  have hps : 2 ^ s * 2 ^ (64 - s) = 18446744073709551616 := by rw [← Nat.pow_add, show s + (64 - s) = 64 from by omega]
  have k64 : (64 - (s : Int)).toNat = 64 - s := by omega
  have sh : ∀ (y k : Nat), k ≤ 64 → ((y : Nat) : Int).fdiv (2 ^ (min k IntKind.u64.bits)) = ((y / 2 ^ k : Nat) : Int) := fun y k hk => by
    rw [shr_k .u64 _ k hk, Int.natCast_ediv, Int.natCast_pow]; rfl
  have sl : ∀ (x : Nat), IntKind.u64.wrap ((x : Int) * 2 ^ (min s IntKind.u64.bits)) = ((x * 2 ^ s % 18446744073709551616 : Nat) : Int) := fun x => by
    rw [shl_k .u64 _ s (by show s ≤ 64; omega), wu64, Int.natCast_emod, Int.natCast_mul, Int.natCast_pow]; rfl
  have ey := sl y
  rw [Nat.mod_eq_of_lt hn2] at ey
  have eh := sl hi
  have hhs' : hi * 2 ^ s < y * 2 ^ s := Nat.mul_lt_mul_of_pos_right hhi hp
  rw [Nat.mod_eq_of_lt (by omega)] at eh
  have el := sh lo (64 - s) (by omega)
  have el2 := sl lo
  have hlq : lo / 2 ^ (64 - s) < 2 ^ s := by
    rw [Nat.div_lt_iff_lt_mul (Nat.two_pow_pos _), hps]; exact hlo
  have hhs : hi * 2 ^ s + 2 ^ s ≤ y * 2 ^ s := by
    have := Nat.mul_le_mul_right (2 ^ s) (show hi + 1 ≤ y from hhi)
    rw [Nat.add_mul, Nat.one_mul] at this; exact this
  have eor : IntKind.u64.wrap ((BitVec.ofInt IntKind.u64.bits ((hi * 2 ^ s : Nat) : Int) ||| BitVec.ofInt IntKind.u64.bits ((lo / 2 ^ (64 - s) : Nat) : Int)).toNat : Int) = ((hi * 2 ^ s + lo / 2 ^ (64 - s) : Nat) : Int) := by
    have hm : ((hi * 2 ^ s : Nat) : Int) % 2 ^ s = 0 := by
      have : ((hi * 2 ^ s % 2 ^ s : Nat) : Int) = 0 := by rw [Nat.mul_mod_left]; rfl
      rw [Int.natCast_emod, Int.natCast_pow] at this; exact this
    have hlq' : ((lo / 2 ^ (64 - s) : Nat) : Int) < 2 ^ s := by
      have : ((lo / 2 ^ (64 - s) : Nat) : Int) < ((2 ^ s : Nat) : Int) := by exact_mod_cast hlq
      rw [Int.natCast_pow] at this; exact this
    clear el el2 eh ey hps sl sh k64 flz
    generalize hi * 2 ^ s = A at *
    generalize lo / 2 ^ (64 - s) = B at *
    generalize y * 2 ^ s = C at *
    generalize hD : (2 : Nat) ^ s = D at *
    rw [or_u64 s _ _ (Int.natCast_nonneg _) hm (by omega) (Int.natCast_nonneg _) hlq' (by omega)]; omega
  -- names
  obtain ⟨Y, hY⟩ : ∃ Y, Y = y * 2 ^ s := ⟨_, rfl⟩
  obtain ⟨U, hU⟩ : ∃ U, U = hi * 2 ^ s + lo / 2 ^ (64 - s) := ⟨_, rfl⟩
  obtain ⟨L, hL⟩ : ∃ L, L = lo * 2 ^ s % 18446744073709551616 := ⟨_, rfl⟩
  have hsum : (hi * 18446744073709551616 + lo) * 2 ^ s = U * 18446744073709551616 + L / 4294967296 * 4294967296 + L % 4294967296 := by
    have e1 : lo * 2 ^ s / 18446744073709551616 = lo / 2 ^ (64 - s) := by
      rw [← hps, Nat.mul_comm (2 ^ s), Nat.mul_div_mul_right _ _ hp]
    have e2 := Nat.div_add_mod (lo * 2 ^ s) 18446744073709551616
    rw [e1, ← hL] at e2
    rw [hU, Nat.add_mul, Nat.mul_assoc, Nat.mul_comm 18446744073709551616, ← Nat.mul_assoc, Nat.add_mul]
    generalize hi * 2 ^ s = A
    omega
  have hLlt : L < 18446744073709551616 := by rw [hL]; exact Nat.mod_lt _ (by decide)
  have hUY : U < Y := by rw [hU, hY]; omega
  have hd := Digit.shifted (hi * 18446744073709551616 + lo) y s
  rw [← hY] at hn1 hn2 hd ey
  rw [← hU] at eor
  rw [← hL] at el2
  obtain ⟨v1, hv1⟩ : ∃ v, v = Y / 4294967296 := ⟨_, rfl⟩
  obtain ⟨v0, hv0⟩ : ∃ v, v = Y % 4294967296 := ⟨_, rfl⟩
  obtain ⟨d1, hd1⟩ : ∃ v, v = L / 4294967296 := ⟨_, rfl⟩
  obtain ⟨d0, hd0⟩ : ∃ v, v = L % 4294967296 := ⟨_, rfl⟩
  have i1 := sh Y 32 (by decide)
  rw [show (2 : Nat) ^ 32 = 4294967296 from rfl, ← hv1] at i1
  have i2 : IntKind.u64.wrap ((BitVec.ofInt IntKind.u64.bits (Y : Int) &&& BitVec.ofInt IntKind.u64.bits 4294967295).toNat : Int) = (v0 : Int) := by
    rw [and_u64 32 (by decide) _ _ (by decide)]
    have : (2 : Int) ^ 32 = 4294967296 := by decide
    rw [this]; omega
  have i3 := sh L 32 (by decide)
  rw [show (2 : Nat) ^ 32 = 4294967296 from rfl, ← hd1] at i3
  have i4 : IntKind.u64.wrap ((BitVec.ofInt IntKind.u64.bits (L : Int) &&& BitVec.ofInt IntKind.u64.bits 4294967295).toNat : Int) = (d0 : Int) := by
    rw [and_u64 32 (by decide) _ _ (by decide)]
    have : (2 : Int) ^ 32 = 4294967296 := by decide
    rw [this]; omega
  have v1p : 0 < v1 := by omega
  have nv : ((v1 : Int) = 0) = False := by simp; omega
  obtain ⟨q1, q2⟩ := guess_of U v1 v1p (by omega)
  have q2' : (U : Int) - ((U / v1 : Nat) : Int) * (v1 : Int) = ((U % v1 : Nat) : Int) := by
    have hm : U / v1 * v1 + U % v1 = U := by rw [Nat.mul_comm]; exact Nat.div_add_mod U v1
    rw [← Int.natCast_mul]; omega
  have hyv : Y = v1 * 4294967296 + v0 := by omega
  have hUm : U / v1 * v1 + U % v1 = U := by rw [Nat.mul_comm]; exact Nat.div_add_mod U v1
  have hUl : U % v1 < v1 := Nat.mod_lt _ v1p
  have gs : ∀ u d : Nat, d < 4294967296 → (u * 4294967296 + d) / Y ≤ u / v1 := fun u d hd => by
    rcases Digit.guess (u := u) (d := d) hyv v1p with h | h
    · exact h
    · omega
  simp (disch := omega) only [c43, ↓c43_r0_run, ↓c43_r1_run, ↓c43_r2_run, ↓c43_r3_run, ↓c43_r4_run, ↓c43_r5_run, ↓c43_r6_run, ↓c43_r7_run, ↓c43_r8_run, ↓c43_r9_run, ↓c43_r10_run, ↓c43_r11_run, ↓c43_r12_run, ↓c43_r13_run, ↓c43_r14_run, ↓c43_r15_run, ↓c43_r16_run, ↓c43_r17_c1_run, ↓c43_r17_run, ↓c43_r18_run, ↓c43_r19_run, ↓c43_r20_run, ↓c43_r21_run, ↓c43_r22_run, ↓c43_r23_run, ↓c43_r24_c1_run, ↓c43_r24_run, ↓c43_r25_run, ↓c43_r26_run, ↓c43_r27_run, ↓c43_r28_c1_run, ↓c43_r28_run, a1, a2, a3, flz, ey, eh, el, el2, eor, k64, i1, i2, i3, i4, nv, q1, q2, q2', ↓RunC_seq, ↓RunC_skip, ↓RunC_ret, ↓RunC_exit, ↓RunC_region, ↓RunC_condQ, condQ_true, condQ_false, ↓RunC_block, ↓RunR_done, ↓RunR_op, ↓RunR_opg, ↓RunR_snap, ↓RunR_chk, Holds, Option.getD_none, Option.getD_some, guardR_true, guardR_false, wantV_bool, wantV_none, callvQ_eq, afterR_some, ↓seqQ_normal, ↓seqQ_ret, ↓seqQ_exit, ↓blockQ_normal, ↓blockQ_ret, ↓blockQ_exit, ↓retQ_ret, ↓retQ_normal, ↓callQ_eq, ↓loopQ_normal, ↓loopQ_ret, ↓loopQ_exit, ↓upd_same, upd_at, sel_t, sel_f, initE_at, obj_upd_same, obj_upd_ne, obj_new_same, obj_updnew_same, obj_updnew_same2, obj_new2_same, obj_new3_same, obj_newupd_same, obj_new_ne, obj_new_ne2, obj_new_ne3, obj_new_ne4, next_upd, next_new, add_plain, cop, bin, binInt, un, shiftInt, flat, read_cells, src_ro, src_fix, src_grow, get_cells, List.getElem?_cons_zero, List.getElem?_cons_succ, write_fix, write_grow, setAt, bound, eqK, elemOk_ro, elemOk_fix, elemOk_grow, stiff_ro, stiff_fix, goInt, resultsV, resV, resL, finQ_some, Option.map_some, Option.map_none, Option.bind_some, Option.bind_none, List.map_cons, List.map_nil, List.getD_cons_zero, List.getD_cons_succ, List.getD_nil, Nat.reduceEqDiff, Nat.reduceAdd, Nat.reduceMul, Nat.reduceSub, Nat.reduceLT, Nat.reduceLeDiff, Nat.reduceBEq, if_true, if_false, ite_true, ite_false, List.length_cons, List.length_nil, Nat.zero_add, Nat.add_zero, List.drop_zero, List.drop_succ_cons, List.take_succ_cons, List.take_zero, List.set_cons_zero, List.set_cons_succ, Int.reduceLT, Int.reduceLE, Bool.not_true, Bool.not_false, Option.isNone_some, Option.isNone_none, decide_true, decide_false, beq_self_eq_true, Bool.false_eq_true, Bool.true_eq_false, if_pos, if_neg, reduceCtorEq, beq_iff_eq, BEq.rfl, wrap_i64, wrap_i32, wrap_i8, wrap_u8, wrap_u32, wrap_u64, Nat.mul_one, Int.toNat_natCast, ints_len, List.length_map, List.length_set, beq_ft, beq_tf, List.all_cons, List.all_nil, scalar, Bool.and_self, Bool.true_and, Bool.and_true, List.size_toArray, List.getElem?_toArray, binStr, fillIn, true_and, and_true, true_or, or_true, bne_self_eq_false, Int.reduceToNat, Int.reduceAdd, Int.reduceSub, Int.reduceMul]
  refine div_l0 h Y v1 v0 U d1 hyv (by omega) (by omega) (by omega) (by omega) hUY [2, 8, 9, 11, 13, 10, 14] (by decide) (by decide) (by decide) 2 (U / v1) (U % v1) (by omega) hUm (gs U d1 (by omega)) (Digit.guess_max hyv (by omega) (by omega) hUY) (by omega) _ rfl rfl rfl rfl rfl fun e ag e15 => ?_
  have e2 : e 2 = .int .u64 Y := ag 2 (by decide)
  have e8 : e 8 = .int .u64 s := ag 8 (by decide)
  have e9 : e 9 = .int .u64 v1 := ag 9 (by decide)
  have e10 : e 10 = .int .u64 v0 := ag 10 (by decide)
  have e11 : e 11 = .int .u64 U := ag 11 (by decide)
  have e13 : e 13 = .int .u64 d1 := ag 13 (by decide)
  have e14 : e 14 = .int .u64 d0 := ag 14 (by decide)
  have hr := left_of U d1 Y _ (by omega) hn2 rfl
  have hQlt := digit_lt (u := U) (d := d1) (y := Y) hUY (by omega)
  obtain ⟨Q1, hQ1⟩ : ∃ z, (U * 4294967296 + d1) / Y = z := ⟨_, rfl⟩
  rw [hQ1] at hr e15 hQlt
  have hU2 : (U * 4294967296 + d1) % Y < Y := Nat.mod_lt _ (by omega)
  obtain ⟨U2, hU2d⟩ : ∃ z, (U * 4294967296 + d1) % Y = z := ⟨_, rfl⟩
  rw [hU2d] at hr hU2
  obtain ⟨q3, q4⟩ := guess_of U2 v1 v1p (by omega)
  have q4' : (U2 : Int) - ((U2 / v1 : Nat) : Int) * (v1 : Int) = ((U2 % v1 : Nat) : Int) := by
    have hm : U2 / v1 * v1 + U2 % v1 = U2 := by rw [Nat.mul_comm]; exact Nat.div_add_mod U2 v1
    rw [← Int.natCast_mul]; omega
  have hUm2 : U2 / v1 * v1 + U2 % v1 = U2 := by rw [Nat.mul_comm]; exact Nat.div_add_mod U2 v1
  have hUl2 : U2 % v1 < v1 := Nat.mod_lt _ v1p
  simp (disch := omega) only [c43, ↓c43_r0_run, ↓c43_r1_run, ↓c43_r2_run, ↓c43_r3_run, ↓c43_r4_run, ↓c43_r5_run, ↓c43_r6_run, ↓c43_r7_run, ↓c43_r8_run, ↓c43_r9_run, ↓c43_r10_run, ↓c43_r11_run, ↓c43_r12_run, ↓c43_r13_run, ↓c43_r14_run, ↓c43_r15_run, ↓c43_r16_run, ↓c43_r17_c1_run, ↓c43_r17_run, ↓c43_r18_run, ↓c43_r19_run, ↓c43_r20_run, ↓c43_r21_run, ↓c43_r22_run, ↓c43_r23_run, ↓c43_r24_c1_run, ↓c43_r24_run, ↓c43_r25_run, ↓c43_r26_run, ↓c43_r27_run, ↓c43_r28_c1_run, ↓c43_r28_run, e2, e9, e11, e13, e15, hr, nv, q3, q4, q4', ↓RunC_seq, ↓RunC_skip, ↓RunC_ret, ↓RunC_exit, ↓RunC_region, ↓RunC_condQ, condQ_true, condQ_false, ↓RunC_block, ↓RunR_done, ↓RunR_op, ↓RunR_opg, ↓RunR_snap, ↓RunR_chk, Holds, Option.getD_none, Option.getD_some, guardR_true, guardR_false, wantV_bool, wantV_none, callvQ_eq, afterR_some, ↓seqQ_normal, ↓seqQ_ret, ↓seqQ_exit, ↓blockQ_normal, ↓blockQ_ret, ↓blockQ_exit, ↓retQ_ret, ↓retQ_normal, ↓callQ_eq, ↓loopQ_normal, ↓loopQ_ret, ↓loopQ_exit, ↓upd_same, upd_at, sel_t, sel_f, initE_at, obj_upd_same, obj_upd_ne, obj_new_same, obj_updnew_same, obj_updnew_same2, obj_new2_same, obj_new3_same, obj_newupd_same, obj_new_ne, obj_new_ne2, obj_new_ne3, obj_new_ne4, next_upd, next_new, add_plain, cop, bin, binInt, un, shiftInt, flat, read_cells, src_ro, src_fix, src_grow, get_cells, List.getElem?_cons_zero, List.getElem?_cons_succ, write_fix, write_grow, setAt, bound, eqK, elemOk_ro, elemOk_fix, elemOk_grow, stiff_ro, stiff_fix, goInt, resultsV, resV, resL, finQ_some, Option.map_some, Option.map_none, Option.bind_some, Option.bind_none, List.map_cons, List.map_nil, List.getD_cons_zero, List.getD_cons_succ, List.getD_nil, Nat.reduceEqDiff, Nat.reduceAdd, Nat.reduceMul, Nat.reduceSub, Nat.reduceLT, Nat.reduceLeDiff, Nat.reduceBEq, if_true, if_false, ite_true, ite_false, List.length_cons, List.length_nil, Nat.zero_add, Nat.add_zero, List.drop_zero, List.drop_succ_cons, List.take_succ_cons, List.take_zero, List.set_cons_zero, List.set_cons_succ, Int.reduceLT, Int.reduceLE, Bool.not_true, Bool.not_false, Option.isNone_some, Option.isNone_none, decide_true, decide_false, beq_self_eq_true, Bool.false_eq_true, Bool.true_eq_false, if_pos, if_neg, reduceCtorEq, beq_iff_eq, BEq.rfl, wrap_i64, wrap_i32, wrap_i8, wrap_u8, wrap_u32, wrap_u64, Nat.mul_one, Int.toNat_natCast, ints_len, List.length_map, List.length_set, beq_ft, beq_tf, List.all_cons, List.all_nil, scalar, Bool.and_self, Bool.true_and, Bool.and_true, List.size_toArray, List.getElem?_toArray, binStr, fillIn, true_and, and_true, true_or, or_true, bne_self_eq_false, Int.reduceToNat, Int.reduceAdd, Int.reduceSub, Int.reduceMul]
  refine div_l1 h Y v1 v0 U2 d0 hyv (by omega) (by omega) (by omega) (by omega) hU2 [2, 8, 14, 15, 17] (by decide) (by decide) (by decide) 2 (U2 / v1) (U2 % v1) (by omega) hUm2 (gs U2 d0 (by omega)) (Digit.guess_max hyv (by omega) (by omega) hU2) (by omega) _ e9 e10 e14 rfl rfl fun f ag2 f18 => ?_
  have f2 : f 2 = .int .u64 Y := (ag2 2 (by decide)).trans e2
  have f8 : f 8 = .int .u64 s := (ag2 8 (by decide)).trans e8
  have f14 : f 14 = .int .u64 d0 := (ag2 14 (by decide)).trans e14
  have f15 : f 15 = .int .u64 Q1 := (ag2 15 (by decide)).trans e15
  have f17 : f 17 = .int .u64 U2 := ag2 17 (by decide)
  have hr2 := left_of U2 d0 Y _ (by omega) hn2 rfl
  have hQlt2 := digit_lt (u := U2) (d := d0) (y := Y) hU2 (by omega)
  have hr3 := sh ((U2 * 4294967296 + d0) % Y) s (by omega)
  obtain ⟨t1, t2⟩ := Digit.two (u := U) (d1 := d1) (d0 := d0) (y := Y) (by omega)
  simp only [hQ1, hU2d] at t1 t2
  have hUs : U * 18446744073709551616 + d1 * 4294967296 + d0 = (hi * 18446744073709551616 + lo) * 2 ^ s := by rw [hsum, hd1, hd0]
  rw [hUs, hd.1] at t1
  rw [hUs] at t2
  rw [← t2, hd.2] at hr3
  rw [← t2] at hr2
  obtain ⟨Q2, hQ2⟩ : ∃ z, (U2 * 4294967296 + d0) / Y = z := ⟨_, rfl⟩
  rw [hQ2] at hr2 f18 hQlt2 t1
  simp (disch := omega) only [c43, ↓c43_r0_run, ↓c43_r1_run, ↓c43_r2_run, ↓c43_r3_run, ↓c43_r4_run, ↓c43_r5_run, ↓c43_r6_run, ↓c43_r7_run, ↓c43_r8_run, ↓c43_r9_run, ↓c43_r10_run, ↓c43_r11_run, ↓c43_r12_run, ↓c43_r13_run, ↓c43_r14_run, ↓c43_r15_run, ↓c43_r16_run, ↓c43_r17_c1_run, ↓c43_r17_run, ↓c43_r18_run, ↓c43_r19_run, ↓c43_r20_run, ↓c43_r21_run, ↓c43_r22_run, ↓c43_r23_run, ↓c43_r24_c1_run, ↓c43_r24_run, ↓c43_r25_run, ↓c43_r26_run, ↓c43_r27_run, ↓c43_r28_c1_run, ↓c43_r28_run, f2, f8, f14, f15, f17, f18, hr2, hr3, ↓RunC_seq, ↓RunC_skip, ↓RunC_ret, ↓RunC_exit, ↓RunC_region, ↓RunC_condQ, condQ_true, condQ_false, ↓RunC_block, ↓RunR_done, ↓RunR_op, ↓RunR_opg, ↓RunR_snap, ↓RunR_chk, Holds, Option.getD_none, Option.getD_some, guardR_true, guardR_false, wantV_bool, wantV_none, callvQ_eq, afterR_some, ↓seqQ_normal, ↓seqQ_ret, ↓seqQ_exit, ↓blockQ_normal, ↓blockQ_ret, ↓blockQ_exit, ↓retQ_ret, ↓retQ_normal, ↓callQ_eq, ↓loopQ_normal, ↓loopQ_ret, ↓loopQ_exit, ↓upd_same, upd_at, sel_t, sel_f, initE_at, obj_upd_same, obj_upd_ne, obj_new_same, obj_updnew_same, obj_updnew_same2, obj_new2_same, obj_new3_same, obj_newupd_same, obj_new_ne, obj_new_ne2, obj_new_ne3, obj_new_ne4, next_upd, next_new, add_plain, cop, bin, binInt, un, shiftInt, flat, read_cells, src_ro, src_fix, src_grow, get_cells, List.getElem?_cons_zero, List.getElem?_cons_succ, write_fix, write_grow, setAt, bound, eqK, elemOk_ro, elemOk_fix, elemOk_grow, stiff_ro, stiff_fix, goInt, resultsV, resV, resL, finQ_some, Option.map_some, Option.map_none, Option.bind_some, Option.bind_none, List.map_cons, List.map_nil, List.getD_cons_zero, List.getD_cons_succ, List.getD_nil, Nat.reduceEqDiff, Nat.reduceAdd, Nat.reduceMul, Nat.reduceSub, Nat.reduceLT, Nat.reduceLeDiff, Nat.reduceBEq, if_true, if_false, ite_true, ite_false, List.length_cons, List.length_nil, Nat.zero_add, Nat.add_zero, List.drop_zero, List.drop_succ_cons, List.take_succ_cons, List.take_zero, List.set_cons_zero, List.set_cons_succ, Int.reduceLT, Int.reduceLE, Bool.not_true, Bool.not_false, Option.isNone_some, Option.isNone_none, decide_true, decide_false, beq_self_eq_true, Bool.false_eq_true, Bool.true_eq_false, if_pos, if_neg, reduceCtorEq, beq_iff_eq, BEq.rfl, wrap_i64, wrap_i32, wrap_i8, wrap_u8, wrap_u32, wrap_u64, Nat.mul_one, Int.toNat_natCast, ints_len, List.length_map, List.length_set, beq_ft, beq_tf, List.all_cons, List.all_nil, scalar, Bool.and_self, Bool.true_and, Bool.and_true, List.size_toArray, List.getElem?_toArray, binStr, fillIn, true_and, and_true, true_or, or_true, bne_self_eq_false, Int.reduceToNat, Int.reduceAdd, Int.reduceSub, Int.reduceMul]
  rw [t1]
  congr 3
end Go.Proofs.Ytkoclacmomlmaaa.Can
