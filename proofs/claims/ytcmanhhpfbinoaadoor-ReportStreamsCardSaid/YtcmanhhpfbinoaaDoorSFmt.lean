/- Numbers written in base 10, in the canonical machine. No condition. -/
import Derived.Test.YtcmanhhpfbinoaaDoorSDig
namespace Go.Proofs.YtcmanhhpfbinoaaDoor.Can
open Go
set_option linter.unusedSimpArgs false
set_option linter.unusedVariables false
attribute [local congr] RunR_congr RunC_congr afterR_congr guardR_congr condQ_congr CALL_congr finQ_congr op_congr opg_congr

/-- The k leading digits are v's, behind them lie the others. -/
structure FInv (nd u k v : Nat) (B : List Int) : Prop where
  len : B.length = 24
  kle : k ≤ nd
  lt : v < 10 ^ k
  eq : decW k (v : Int) ++ (B.drop (1 + k)).take (nd - k) = decW nd (u : Int)
theorem set2_drop (B : List Int) (k n : Nat) (x y : Int) (h : k + 3 + n ≤ B.length) : (((B.set (k + 2) x).set (k + 1) y).drop (1 + k)).take (n + 2) = y :: x :: (B.drop (k + 3)).take n := by
  apply List.ext_getElem?
  intro i
  rw [List.getElem?_take, List.getElem?_drop]
  match i with
  | 0 =>
    rw [if_pos (by omega), Nat.add_zero, Nat.add_comm 1 k, List.getElem?_set_self (by rw [List.length_set]; omega)]
    rfl
  | 1 =>
    rw [if_pos (by omega), List.getElem?_set_ne (by omega), show 1 + k + 1 = k + 2 by omega, List.getElem?_set_self (by omega)]
    rfl
  | i + 2 =>
    rw [List.getElem?_set_ne (by omega), List.getElem?_set_ne (by omega)]
    simp only [List.getElem?_cons_succ]
    rw [List.getElem?_take, List.getElem?_drop, show 1 + k + (i + 2) = k + 3 + i by omega]
    by_cases hi : i < n
    · rw [if_pos (by omega), if_pos hi]
    · rw [if_neg (by omega), if_neg hi]
theorem FInv.two {nd u k v : Nat} {B : List Int} (i : FInv nd u (k + 2) v B) (hn : nd ≤ 20) : FInv nd u k (v / 100) ((B.set (k + 2) ((48 + v % 100 % 10 : Nat) : Int)).set (k + 1) ((48 + v % 100 / 10 : Nat) : Int)) := by
  obtain ⟨h1, h2, h3, h4⟩ := i
  refine ⟨by rw [List.length_set, List.length_set, h1], by omega, by rw [Nat.pow_add] at h3; omega, ?_⟩
  rw [← h4, decW_two, show nd - k = (nd - (k + 2)) + 2 by omega, set2_drop _ _ _ _ _ (by omega), List.append_assoc, show 1 + (k + 2) = k + 3 by omega, Int.natCast_ediv]
  have e1 : ((48 + v % 100 / 10 : Nat) : Int) = 48 + (v : Int) / 10 % 10 := by omega
  have e2 : ((48 + v % 100 % 10 : Nat) : Int) = 48 + (v : Int) % 10 := by omega
  rw [e1, e2]
  rfl
theorem FInv.one {nd u v : Nat} {B : List Int} (i : FInv nd u 1 v B) (hn : nd ≤ 20) : FInv nd u 0 0 (B.set 1 ((48 + v : Nat) : Int)) := by
  obtain ⟨h1, h2, h3, h4⟩ := i
  refine ⟨by rw [List.length_set, h1], by omega, by decide, ?_⟩
  rw [← h4]
  have hd : (B.set 1 ((48 + v : Nat) : Int)).drop 1 = ((48 + v : Nat) : Int) :: B.drop 2 := by
    match B, h1 with
    | a :: b :: t, _ => rfl
  have e1 : (48 : Int) + (v : Int) % 10 = ((48 + v : Nat) : Int) := by omega
  obtain ⟨n, rfl⟩ : ∃ n, nd = n + 1 := ⟨nd - 1, by omega⟩
  show ((B.set 1 ((48 + v : Nat) : Int)).drop (1 + 0)).take (n + 1 - 0) = decW 1 (v : Int) ++ (B.drop (1 + 1)).take (n + 1 - 1)
  rw [Nat.add_zero, hd]
  simp only [decW, List.nil_append, List.singleton_append, e1, Nat.sub_zero, Nat.add_sub_cancel, List.take_succ_cons]
theorem smalls_tab : ∀ p : Nat, p < 100 → big0.data[p * 2]? = some (UInt8.ofNat (48 + p / 10)) ∧ big0.data[p * 2 + 1]? = some (UInt8.ofNat (48 + p % 10)) := by decide +kernel
theorem smalls0 (p : Nat) (hp : p < 100) (h : Heap) : cop (.indexStr (.string big0) (.int .u32 ((p : Int) * 2))) h = some (.int .u8 ((48 + p / 10 : Nat) : Int), h) := by
  show (if (0 : Int) ≤ (p : Int) * 2 then (big0.data[((p : Int) * 2).toNat]?).map (fun b => (Value.int .u8 b.toNat, h)) else none) = _
  have := (smalls_tab p hp).1
  generalize big0.data = d at this
  rw [if_pos (by omega), show ((p : Int) * 2).toNat = p * 2 by omega, this, Option.map_some]
  have h5 : (UInt8.ofNat (48 + p / 10)).toNat = 48 + p / 10 := by simp; omega
  rw [h5]
theorem smalls1 (p : Nat) (hp : p < 100) (h : Heap) : cop (.indexStr (.string big0) (.int .u32 ((p : Int) * 2 + 1))) h = some (.int .u8 ((48 + p % 10 : Nat) : Int), h) := by
  show (if (0 : Int) ≤ (p : Int) * 2 + 1 then (big0.data[((p : Int) * 2 + 1).toNat]?).map (fun b => (Value.int .u8 b.toNat, h)) else none) = _
  have := (smalls_tab p hp).2
  generalize big0.data = d at this
  rw [if_pos (by omega), show ((p : Int) * 2 + 1).toNat = p * 2 + 1 by omega, this, Option.map_some]
  have h5 : (UInt8.ofNat (48 + p % 10)).toNat = 48 + p % 10 := by simp; omega
  rw [h5]
theorem setAt_one (c : List Value) (o : Nat) (v : Value) : setAt c o [v] = c.set o v := rfl
theorem nt (a b : Nat) : ((a : Nat) : Int).tmod (b : Int) = ((a % b : Nat) : Int) := by rw [Int.tmod_eq_emod_of_nonneg (by omega)]; exact (Int.natCast_emod a b).symm
theorem nq (a b : Nat) : ((a : Nat) : Int).tdiv (b : Int) = ((a / b : Nat) : Int) := by rw [Int.tdiv_eq_ediv_of_nonneg (by omega)]; exact (Int.natCast_ediv a b).symm

set_option maxHeartbeats 4000000 in
theorem format10_ok (h : Heap) (pa cap nd u : Nat) (B : List Int) (ob : h.obj pa = .cells (ints .u8 B) 72 .fix) (hB : B.length = 24) (hn : 1 ≤ nd) (hn2 : nd ≤ 20) (hu : u < 10 ^ nd) (hu2 : u < 18446744073709551616) {Q : Value → Heap → Prop}
    (hQ : ∀ h' B', h'.next = h.next → (∀ z, z ≠ pa → h'.obj z = h.obj z) → h'.obj pa = .cells (ints .u8 B') 72 .fix → B'.length = 24 → (B'.drop 1).take nd = decW nd u → Q (.tuple #[]) h') :
    CALL cp 32 [.slice (some ⟨pa, 1, none⟩) nd cap, .int .u64 u] h Q := by
  rw [CALL_enter cp cp32]
  simp (disch := omega) only [c32, ↓c32_r0_run, ↓c32_r1_run, ↓c32_r2_run, ↓c32_r3_run, ↓c32_r4_run, ↓c32_r5_run, ↓c32_r6_run, ↓c32_r7_c1_run, ↓c32_r7_run, ↓c32_r8_c1_run, ↓c32_r8_run, ↓c32_r9_c1_run, ↓c32_r9_run, ↓c32_r10_c1_run, ↓c32_r10_run, ↓c32_r11_run, ↓c32_r12_run, ↓c32_r13_run, ↓c32_r14_run, ↓c32_r15_run, ↓c32_r16_run, ↓c32_r17_c1_run, ↓c32_r17_run, ↓c32_r18_c1_run, ↓c32_r18_run, ↓c32_r19_run, ↓c32_r20_run, ↓c32_r21_run, ↓c32_r22_run, ↓c32_r23_c1_run, ↓c32_r23_run, ↓c32_r24_run, ↓c32_r25_run, ↓c32_r26_run, ↓RunC_seq, ↓RunC_skip, ↓RunC_ret, ↓RunC_exit, ↓RunC_region, ↓RunC_condQ, condQ_true, condQ_false, ↓RunC_block, ↓RunR_done, ↓RunR_op, ↓RunR_opg, ↓RunR_snap, ↓RunR_chk, Holds, Option.getD_none, Option.getD_some, guardR_true, guardR_false, wantV_bool, wantV_none, callvQ_eq, afterR_some, ↓seqQ_normal, ↓seqQ_ret, ↓seqQ_exit, ↓blockQ_normal, ↓blockQ_ret, ↓blockQ_exit, ↓retQ_ret, ↓retQ_normal, ↓callQ_eq, ↓loopQ_normal, ↓loopQ_ret, ↓loopQ_exit, ↓upd_same, upd_at, sel_t, sel_f, initE_at, obj_upd_same, obj_upd_ne, obj_new_same, obj_updnew_same, obj_updnew_same2, obj_new2_same, obj_new3_same, obj_newupd_same, obj_new_ne, obj_new_ne2, obj_new_ne3, obj_new_ne4, next_upd, next_new, add_plain, cop, bin, binInt, un, shiftInt, flat, read_cells, src_ro, src_fix, src_grow, get_cells, List.getElem?_cons_zero, List.getElem?_cons_succ, write_fix, write_grow, setAt, bound, eqK, elemOk_ro, elemOk_fix, elemOk_grow, stiff_ro, stiff_fix, goInt, resultsV, resV, resL, finQ_some, Option.map_some, Option.map_none, Option.bind_some, Option.bind_none, List.map_cons, List.map_nil, List.getD_cons_zero, List.getD_cons_succ, List.getD_nil, Nat.reduceEqDiff, Nat.reduceAdd, Nat.reduceMul, Nat.reduceSub, Nat.reduceLT, Nat.reduceLeDiff, Nat.reduceBEq, if_true, if_false, ite_true, ite_false, List.length_cons, List.length_nil, Nat.zero_add, Nat.add_zero, List.drop_zero, List.drop_succ_cons, List.take_succ_cons, List.take_zero, List.set_cons_zero, List.set_cons_succ, Int.reduceLT, Int.reduceLE, Bool.not_true, Bool.not_false, Option.isNone_some, Option.isNone_none, decide_true, decide_false, beq_self_eq_true, Bool.false_eq_true, Bool.true_eq_false, if_pos, if_neg, reduceCtorEq, beq_iff_eq, BEq.rfl, wrap_i64, wrap_i32, wrap_i8, wrap_u8, wrap_u32, wrap_u64, Nat.mul_one, Int.toNat_natCast, ints_len, List.length_map, List.length_set, beq_ft, beq_tf, List.all_cons, List.all_nil, scalar, Bool.and_self, Bool.true_and, Bool.and_true, List.size_toArray, List.getElem?_toArray, binStr, fillIn, true_and, and_true, true_or, or_true, bne_self_eq_false, Int.reduceToNat, Int.reduceAdd, Int.reduceSub, Int.reduceMul]
  refine RunC_loop cp c32_l0 _ (fun d e hh => ∃ (k v : Nat) (B : List Int), k ≤ d ∧ v < 18446744073709551616 ∧ FInv nd u k v B ∧ hh.next = h.next ∧ (∀ z, z ≠ pa → hh.obj z = h.obj z) ∧ hh.obj pa = .cells (ints .u8 B) 72 .fix ∧
      e 0 = .slice (some ⟨pa, 1, none⟩) nd cap ∧ e 1 = .int .u64 v ∧ e 4 = .int .i64 k) ?_ nd _ _
    ⟨nd, u, B, Nat.le_refl _, hu2, ⟨hB, Nat.le_refl _, hu, by simp⟩, rfl, fun _ _ => rfl, ob, rfl, rfl, rfl⟩
  clear hB ob B
  rintro d e hh ⟨k, v, B, kd, v64, I, hn', ho, ob, e0, e1, e4⟩
  have hBl : (ints .u8 B).length = 24 := by rw [ints_len]; exact I.len
  have knd := I.kle
  by_cases c8 : 8 ≤ k
  · obtain ⟨k, rfl⟩ : ∃ j, k = j + 8 := ⟨k - 8, by omega⟩
    have b1 : decide (((k + 8 : Nat) : Int) ≥ 8) = true := decide_eq_true (by omega)
    have n1 : ((k + 8 : Nat) : Int) - 1 = ((k + 7 : Nat) : Int) := by omega
    have n2 : ((k + 8 : Nat) : Int) - 2 = ((k + 6 : Nat) : Int) := by omega
    have n3 : ((k + 8 : Nat) : Int) - 3 = ((k + 5 : Nat) : Int) := by omega
    have n4 : ((k + 8 : Nat) : Int) - 4 = ((k + 4 : Nat) : Int) := by omega
    have n5 : ((k + 8 : Nat) : Int) - 5 = ((k + 3 : Nat) : Int) := by omega
    have n6 : ((k + 8 : Nat) : Int) - 6 = ((k + 2 : Nat) : Int) := by omega
    have n7 : ((k + 8 : Nat) : Int) - 7 = ((k + 1 : Nat) : Int) := by omega
    have n8 : ((k + 8 : Nat) : Int) - 8 = ((k + 0 : Nat) : Int) := by omega
    obtain ⟨w, hw⟩ : ∃ w, w = v % 100000000 := ⟨_, rfl⟩
    obtain ⟨q, hq⟩ : ∃ q, q = v / 100000000 := ⟨_, rfl⟩
    obtain ⟨a1, ha1⟩ : ∃ q, q = w / 10000 := ⟨_, rfl⟩
    obtain ⟨a0, ha0⟩ : ∃ q, q = w % 10000 := ⟨_, rfl⟩
    obtain ⟨y0, hy0⟩ : ∃ q, q = a0 % 100 := ⟨_, rfl⟩
    obtain ⟨y1, hy1⟩ : ∃ q, q = a0 / 100 := ⟨_, rfl⟩
    obtain ⟨y2, hy2⟩ : ∃ q, q = a1 % 100 := ⟨_, rfl⟩
    obtain ⟨y3, hy3⟩ : ∃ q, q = a1 / 100 := ⟨_, rfl⟩
    have r1 : (v : Int).tmod 100000000 = (w : Int) := by rw [hw]; exact nt v 100000000
    have r2 : (v : Int).tdiv 100000000 = (q : Int) := by rw [hq]; exact nq v 100000000
    have r3 : (w : Int).tdiv 10000 = (a1 : Int) := by rw [ha1]; exact nq w 10000
    have r4 : (w : Int).tmod 10000 = (a0 : Int) := by rw [ha0]; exact nt w 10000
    have r5 : (a0 : Int).tmod 100 = (y0 : Int) := by rw [hy0]; exact nt a0 100
    have r6 : (a0 : Int).tdiv 100 = (y1 : Int) := by rw [hy1]; exact nq a0 100
    have r7 : (a1 : Int).tmod 100 = (y2 : Int) := by rw [hy2]; exact nt a1 100
    have r8 : (a1 : Int).tdiv 100 = (y3 : Int) := by rw [hy3]; exact nq a1 100
    simp (maxSteps := 3000000) (disch := omega) only [c32_l0, c32, ↓c32_r0_run, ↓c32_r1_run, ↓c32_r2_run, ↓c32_r3_run, ↓c32_r4_run, ↓c32_r5_run, ↓c32_r6_run, ↓c32_r7_c1_run, ↓c32_r7_run, ↓c32_r8_c1_run, ↓c32_r8_run, ↓c32_r9_c1_run, ↓c32_r9_run, ↓c32_r10_c1_run, ↓c32_r10_run, ↓c32_r11_run, ↓c32_r12_run, ↓c32_r13_run, ↓c32_r14_run, ↓c32_r15_run, ↓c32_r16_run, ↓c32_r17_c1_run, ↓c32_r17_run, ↓c32_r18_c1_run, ↓c32_r18_run, ↓c32_r19_run, ↓c32_r20_run, ↓c32_r21_run, ↓c32_r22_run, ↓c32_r23_c1_run, ↓c32_r23_run, ↓c32_r24_run, ↓c32_r25_run, ↓c32_r26_run, ↓smalls0, ↓smalls1, e0, e1, e4, b1, r1, r2, r3, r4, r5, r6, r7, r8, n1, n2, n3, n4, n5, n6, n7, n8, ob, hBl, setAt_one, ints_set, ints_len, List.length_set, I.len, Nat.mul_one, ↓RunC_seq, ↓RunC_skip, ↓RunC_ret, ↓RunC_exit, ↓RunC_region, ↓RunC_condQ, condQ_true, condQ_false, ↓RunC_block, ↓RunR_done, ↓RunR_op, ↓RunR_opg, ↓RunR_snap, ↓RunR_chk, Holds, Option.getD_none, Option.getD_some, guardR_true, guardR_false, wantV_bool, wantV_none, callvQ_eq, afterR_some, ↓seqQ_normal, ↓seqQ_ret, ↓seqQ_exit, ↓blockQ_normal, ↓blockQ_ret, ↓blockQ_exit, ↓retQ_ret, ↓retQ_normal, ↓callQ_eq, ↓loopQ_normal, ↓loopQ_ret, ↓loopQ_exit, ↓upd_same, upd_at, sel_t, sel_f, initE_at, obj_upd_same, obj_upd_ne, obj_new_same, obj_updnew_same, obj_updnew_same2, obj_new2_same, obj_new3_same, obj_newupd_same, obj_new_ne, obj_new_ne2, obj_new_ne3, obj_new_ne4, next_upd, next_new, add_plain, cop, bin, binInt, un, shiftInt, flat, read_cells, src_ro, src_fix, src_grow, get_cells, List.getElem?_cons_zero, List.getElem?_cons_succ, write_fix, write_grow, setAt, bound, eqK, elemOk_ro, elemOk_fix, elemOk_grow, stiff_ro, stiff_fix, goInt, resultsV, resV, resL, finQ_some, Option.map_some, Option.map_none, Option.bind_some, Option.bind_none, List.map_cons, List.map_nil, List.getD_cons_zero, List.getD_cons_succ, List.getD_nil, Nat.reduceEqDiff, Nat.reduceAdd, Nat.reduceMul, Nat.reduceSub, Nat.reduceLT, Nat.reduceLeDiff, Nat.reduceBEq, if_true, if_false, ite_true, ite_false, List.length_cons, List.length_nil, Nat.zero_add, Nat.add_zero, List.drop_zero, List.drop_succ_cons, List.take_succ_cons, List.take_zero, List.set_cons_zero, List.set_cons_succ, Int.reduceLT, Int.reduceLE, Bool.not_true, Bool.not_false, Option.isNone_some, Option.isNone_none, decide_true, decide_false, beq_self_eq_true, Bool.false_eq_true, Bool.true_eq_false, if_pos, if_neg, reduceCtorEq, beq_iff_eq, BEq.rfl, wrap_i64, wrap_i32, wrap_i8, wrap_u8, wrap_u32, wrap_u64, Nat.mul_one, Int.toNat_natCast, ints_len, List.length_map, List.length_set, beq_ft, beq_tf, List.all_cons, List.all_nil, scalar, Bool.and_self, Bool.true_and, Bool.and_true, List.size_toArray, List.getElem?_toArray, binStr, fillIn, true_and, and_true, true_or, or_true, bne_self_eq_false, Int.reduceToNat, Int.reduceAdd, Int.reduceSub, Int.reduceMul]
    have I1 : FInv nd u (k + 6) (v / 100) _ := I.two hn2
    have I2 : FInv nd u (k + 4) (v / 100 / 100) _ := I1.two hn2
    have I3 : FInv nd u (k + 2) (v / 100 / 100 / 100) _ := I2.two hn2
    have I4 : FInv nd u k (v / 100 / 100 / 100 / 100) _ := I3.two hn2
    refine ⟨d - 8, by omega, k, q, _, by omega, by omega, ?_, by omega, fun z hz => ?_, rfl, rfl, rfl⟩
    · rw [show y0 = v % 100 by omega, show y1 = v / 100 % 100 by omega, show y2 = v / 100 / 100 % 100 by omega, show y3 = v / 100 / 100 / 100 % 100 by omega, show q = v / 100 / 100 / 100 / 100 by omega,
        show 1 + (k + 7) = k + 6 + 2 by omega, show 1 + (k + 6) = k + 6 + 1 by omega, show 1 + (k + 5) = k + 4 + 2 by omega, show 1 + (k + 4) = k + 4 + 1 by omega, show 1 + (k + 3) = k + 2 + 2 by omega, show 1 + (k + 2) = k + 2 + 1 by omega, show 1 + (k + 1) = k + 2 by omega, show 1 + k = k + 1 by omega]
      exact I4
    · simp only [Heap.upd, hz, if_false]
      exact ho z hz
  · have b1 : decide (((k : Nat) : Int) ≥ 8) = false := decide_eq_false (by omega)
    have v8 : v < 100000000 := by
      have := Nat.pow_le_pow_right (n := 10) (by decide) (show k ≤ 8 by omega)
      have := I.lt
      omega
    have hk : k = 0 ∨ k = 1 ∨ k = 2 ∨ k = 3 ∨ k = 4 ∨ k = 5 ∨ k = 6 ∨ k = 7 := by omega
    obtain ⟨a, ha⟩ : ∃ q, q = v % 10000 := ⟨_, rfl⟩
    obtain ⟨q, hq⟩ : ∃ q, q = v / 10000 := ⟨_, rfl⟩
    obtain ⟨y0, hy0⟩ : ∃ q, q = a % 100 := ⟨_, rfl⟩
    obtain ⟨y1, hy1⟩ : ∃ q, q = a / 100 := ⟨_, rfl⟩
    obtain ⟨y2, hy2⟩ : ∃ y, y = q % 100 := ⟨_, rfl⟩
    obtain ⟨q2, hq2⟩ : ∃ y, y = q / 100 := ⟨_, rfl⟩
    obtain ⟨z2, hz2⟩ : ∃ y, y = v % 100 := ⟨_, rfl⟩
    obtain ⟨p2, hp2⟩ : ∃ y, y = v / 100 := ⟨_, rfl⟩
    have r1 : (v : Int).tmod 10000 = (a : Int) := by rw [ha]; exact nt v 10000
    have r2 : (v : Int).tdiv 10000 = (q : Int) := by rw [hq]; exact nq v 10000
    have r3 : (a : Int).tmod 100 = (y0 : Int) := by rw [hy0]; exact nt a 100
    have r4 : (a : Int).tdiv 100 = (y1 : Int) := by rw [hy1]; exact nq a 100
    have r5 : (q : Int).tmod 100 = (y2 : Int) := by rw [hy2]; exact nt q 100
    have r6 : (q : Int).tdiv 100 = (q2 : Int) := by rw [hq2]; exact nq q 100
    have r7 : (v : Int).tmod 100 = (z2 : Int) := by rw [hz2]; exact nt v 100
    have r8 : (v : Int).tdiv 100 = (p2 : Int) := by rw [hp2]; exact nq v 100
    rcases hk with rfl | rfl | rfl | rfl | rfl | rfl | rfl | rfl
    · have e4 : e 4 = .int .i64 0 := e4
      have vlt : v < 1 := I.lt
      simp (maxSteps := 3000000) (disch := omega) only [c32_l0, c32, ↓c32_r0_run, ↓c32_r1_run, ↓c32_r2_run, ↓c32_r3_run, ↓c32_r4_run, ↓c32_r5_run, ↓c32_r6_run, ↓c32_r7_c1_run, ↓c32_r7_run, ↓c32_r8_c1_run, ↓c32_r8_run, ↓c32_r9_c1_run, ↓c32_r9_run, ↓c32_r10_c1_run, ↓c32_r10_run, ↓c32_r11_run, ↓c32_r12_run, ↓c32_r13_run, ↓c32_r14_run, ↓c32_r15_run, ↓c32_r16_run, ↓c32_r17_c1_run, ↓c32_r17_run, ↓c32_r18_c1_run, ↓c32_r18_run, ↓c32_r19_run, ↓c32_r20_run, ↓c32_r21_run, ↓c32_r22_run, ↓c32_r23_c1_run, ↓c32_r23_run, ↓c32_r24_run, ↓c32_r25_run, ↓c32_r26_run, ↓smalls0, ↓smalls1, e0, e1, e4, r1, r2, r3, r4, r5, r6, r7, r8, ob, hBl, setAt_one, ints_set, ints_len, List.length_set, I.len, Nat.mul_one, ge_iff_le, gt_iff_lt, Int.reduceLE, Int.reduceLT, ↓RunC_seq, ↓RunC_skip, ↓RunC_ret, ↓RunC_exit, ↓RunC_region, ↓RunC_condQ, condQ_true, condQ_false, ↓RunC_block, ↓RunR_done, ↓RunR_op, ↓RunR_opg, ↓RunR_snap, ↓RunR_chk, Holds, Option.getD_none, Option.getD_some, guardR_true, guardR_false, wantV_bool, wantV_none, callvQ_eq, afterR_some, ↓seqQ_normal, ↓seqQ_ret, ↓seqQ_exit, ↓blockQ_normal, ↓blockQ_ret, ↓blockQ_exit, ↓retQ_ret, ↓retQ_normal, ↓callQ_eq, ↓loopQ_normal, ↓loopQ_ret, ↓loopQ_exit, ↓upd_same, upd_at, sel_t, sel_f, initE_at, obj_upd_same, obj_upd_ne, obj_new_same, obj_updnew_same, obj_updnew_same2, obj_new2_same, obj_new3_same, obj_newupd_same, obj_new_ne, obj_new_ne2, obj_new_ne3, obj_new_ne4, next_upd, next_new, add_plain, cop, bin, binInt, un, shiftInt, flat, read_cells, src_ro, src_fix, src_grow, get_cells, List.getElem?_cons_zero, List.getElem?_cons_succ, write_fix, write_grow, setAt, bound, eqK, elemOk_ro, elemOk_fix, elemOk_grow, stiff_ro, stiff_fix, goInt, resultsV, resV, resL, finQ_some, Option.map_some, Option.map_none, Option.bind_some, Option.bind_none, List.map_cons, List.map_nil, List.getD_cons_zero, List.getD_cons_succ, List.getD_nil, Nat.reduceEqDiff, Nat.reduceAdd, Nat.reduceMul, Nat.reduceSub, Nat.reduceLT, Nat.reduceLeDiff, Nat.reduceBEq, if_true, if_false, ite_true, ite_false, List.length_cons, List.length_nil, Nat.zero_add, Nat.add_zero, List.drop_zero, List.drop_succ_cons, List.take_succ_cons, List.take_zero, List.set_cons_zero, List.set_cons_succ, Int.reduceLT, Int.reduceLE, Bool.not_true, Bool.not_false, Option.isNone_some, Option.isNone_none, decide_true, decide_false, beq_self_eq_true, Bool.false_eq_true, Bool.true_eq_false, if_pos, if_neg, reduceCtorEq, beq_iff_eq, BEq.rfl, wrap_i64, wrap_i32, wrap_i8, wrap_u8, wrap_u32, wrap_u64, Nat.mul_one, Int.toNat_natCast, ints_len, List.length_map, List.length_set, beq_ft, beq_tf, List.all_cons, List.all_nil, scalar, Bool.and_self, Bool.true_and, Bool.and_true, List.size_toArray, List.getElem?_toArray, binStr, fillIn, true_and, and_true, true_or, or_true, bne_self_eq_false, Int.reduceToNat, Int.reduceAdd, Int.reduceSub, Int.reduceMul]
      exact hQ _ B hn' ho ob I.len (by have := I.eq; simpa only [decW, List.nil_append, Nat.add_zero, Nat.sub_zero] using this)
    · have e4 : e 4 = .int .i64 1 := e4
      have I1 : FInv nd u 0 (0) _ := I.one hn2
      have vlt : v < 10 := I.lt
      have r9 : (48 : Int) + (v : Int) = ((48 + v : Nat) : Int) := by omega
      have r10 : IntKind.u32.wrap ((48 : Int) + (v : Int)) = ((48 + v : Nat) : Int) := by rw [wu32]; omega
      have r11 : IntKind.u8.wrap ((48 + v : Nat) : Int) = ((48 + v : Nat) : Int) := by rw [wu8]; omega
      simp (maxSteps := 3000000) (disch := omega) only [c32_l0, c32, ↓c32_r0_run, ↓c32_r1_run, ↓c32_r2_run, ↓c32_r3_run, ↓c32_r4_run, ↓c32_r5_run, ↓c32_r6_run, ↓c32_r7_c1_run, ↓c32_r7_run, ↓c32_r8_c1_run, ↓c32_r8_run, ↓c32_r9_c1_run, ↓c32_r9_run, ↓c32_r10_c1_run, ↓c32_r10_run, ↓c32_r11_run, ↓c32_r12_run, ↓c32_r13_run, ↓c32_r14_run, ↓c32_r15_run, ↓c32_r16_run, ↓c32_r17_c1_run, ↓c32_r17_run, ↓c32_r18_c1_run, ↓c32_r18_run, ↓c32_r19_run, ↓c32_r20_run, ↓c32_r21_run, ↓c32_r22_run, ↓c32_r23_c1_run, ↓c32_r23_run, ↓c32_r24_run, ↓c32_r25_run, ↓c32_r26_run, ↓smalls0, ↓smalls1, e0, e1, e4, r1, r2, r3, r4, r5, r6, r7, r8, r10, r11, ob, hBl, setAt_one, ints_set, ints_len, List.length_set, I.len, Nat.mul_one, ge_iff_le, gt_iff_lt, Int.reduceLE, Int.reduceLT, ↓RunC_seq, ↓RunC_skip, ↓RunC_ret, ↓RunC_exit, ↓RunC_region, ↓RunC_condQ, condQ_true, condQ_false, ↓RunC_block, ↓RunR_done, ↓RunR_op, ↓RunR_opg, ↓RunR_snap, ↓RunR_chk, Holds, Option.getD_none, Option.getD_some, guardR_true, guardR_false, wantV_bool, wantV_none, callvQ_eq, afterR_some, ↓seqQ_normal, ↓seqQ_ret, ↓seqQ_exit, ↓blockQ_normal, ↓blockQ_ret, ↓blockQ_exit, ↓retQ_ret, ↓retQ_normal, ↓callQ_eq, ↓loopQ_normal, ↓loopQ_ret, ↓loopQ_exit, ↓upd_same, upd_at, sel_t, sel_f, initE_at, obj_upd_same, obj_upd_ne, obj_new_same, obj_updnew_same, obj_updnew_same2, obj_new2_same, obj_new3_same, obj_newupd_same, obj_new_ne, obj_new_ne2, obj_new_ne3, obj_new_ne4, next_upd, next_new, add_plain, cop, bin, binInt, un, shiftInt, flat, read_cells, src_ro, src_fix, src_grow, get_cells, List.getElem?_cons_zero, List.getElem?_cons_succ, write_fix, write_grow, setAt, bound, eqK, elemOk_ro, elemOk_fix, elemOk_grow, stiff_ro, stiff_fix, goInt, resultsV, resV, resL, finQ_some, Option.map_some, Option.map_none, Option.bind_some, Option.bind_none, List.map_cons, List.map_nil, List.getD_cons_zero, List.getD_cons_succ, List.getD_nil, Nat.reduceEqDiff, Nat.reduceAdd, Nat.reduceMul, Nat.reduceSub, Nat.reduceLT, Nat.reduceLeDiff, Nat.reduceBEq, if_true, if_false, ite_true, ite_false, List.length_cons, List.length_nil, Nat.zero_add, Nat.add_zero, List.drop_zero, List.drop_succ_cons, List.take_succ_cons, List.take_zero, List.set_cons_zero, List.set_cons_succ, Int.reduceLT, Int.reduceLE, Bool.not_true, Bool.not_false, Option.isNone_some, Option.isNone_none, decide_true, decide_false, beq_self_eq_true, Bool.false_eq_true, Bool.true_eq_false, if_pos, if_neg, reduceCtorEq, beq_iff_eq, BEq.rfl, wrap_i64, wrap_i32, wrap_i8, wrap_u8, wrap_u32, wrap_u64, Nat.mul_one, Int.toNat_natCast, ints_len, List.length_map, List.length_set, beq_ft, beq_tf, List.all_cons, List.all_nil, scalar, Bool.and_self, Bool.true_and, Bool.and_true, List.size_toArray, List.getElem?_toArray, binStr, fillIn, true_and, and_true, true_or, or_true, bne_self_eq_false, Int.reduceToNat, Int.reduceAdd, Int.reduceSub, Int.reduceMul]
      refine hQ _ _ hn' (fun z hz => ?_) (obj_upd_same _ _ _) I1.len ?_
      · simp only [Heap.upd, hz, if_false]; exact ho z hz
      · have := I1.eq; simpa only [decW, List.nil_append, Nat.add_zero, Nat.sub_zero] using this
    · have e4 : e 4 = .int .i64 2 := e4
      have I1 : FInv nd u 0 (v / 100) _ := I.two hn2
      have vlt : v < 100 := I.lt
      simp (maxSteps := 3000000) (disch := omega) only [c32_l0, c32, ↓c32_r0_run, ↓c32_r1_run, ↓c32_r2_run, ↓c32_r3_run, ↓c32_r4_run, ↓c32_r5_run, ↓c32_r6_run, ↓c32_r7_c1_run, ↓c32_r7_run, ↓c32_r8_c1_run, ↓c32_r8_run, ↓c32_r9_c1_run, ↓c32_r9_run, ↓c32_r10_c1_run, ↓c32_r10_run, ↓c32_r11_run, ↓c32_r12_run, ↓c32_r13_run, ↓c32_r14_run, ↓c32_r15_run, ↓c32_r16_run, ↓c32_r17_c1_run, ↓c32_r17_run, ↓c32_r18_c1_run, ↓c32_r18_run, ↓c32_r19_run, ↓c32_r20_run, ↓c32_r21_run, ↓c32_r22_run, ↓c32_r23_c1_run, ↓c32_r23_run, ↓c32_r24_run, ↓c32_r25_run, ↓c32_r26_run, ↓smalls0, ↓smalls1, e0, e1, e4, r1, r2, r3, r4, r5, r6, r7, r8, ob, hBl, setAt_one, ints_set, ints_len, List.length_set, I.len, Nat.mul_one, ge_iff_le, gt_iff_lt, Int.reduceLE, Int.reduceLT, ↓RunC_seq, ↓RunC_skip, ↓RunC_ret, ↓RunC_exit, ↓RunC_region, ↓RunC_condQ, condQ_true, condQ_false, ↓RunC_block, ↓RunR_done, ↓RunR_op, ↓RunR_opg, ↓RunR_snap, ↓RunR_chk, Holds, Option.getD_none, Option.getD_some, guardR_true, guardR_false, wantV_bool, wantV_none, callvQ_eq, afterR_some, ↓seqQ_normal, ↓seqQ_ret, ↓seqQ_exit, ↓blockQ_normal, ↓blockQ_ret, ↓blockQ_exit, ↓retQ_ret, ↓retQ_normal, ↓callQ_eq, ↓loopQ_normal, ↓loopQ_ret, ↓loopQ_exit, ↓upd_same, upd_at, sel_t, sel_f, initE_at, obj_upd_same, obj_upd_ne, obj_new_same, obj_updnew_same, obj_updnew_same2, obj_new2_same, obj_new3_same, obj_newupd_same, obj_new_ne, obj_new_ne2, obj_new_ne3, obj_new_ne4, next_upd, next_new, add_plain, cop, bin, binInt, un, shiftInt, flat, read_cells, src_ro, src_fix, src_grow, get_cells, List.getElem?_cons_zero, List.getElem?_cons_succ, write_fix, write_grow, setAt, bound, eqK, elemOk_ro, elemOk_fix, elemOk_grow, stiff_ro, stiff_fix, goInt, resultsV, resV, resL, finQ_some, Option.map_some, Option.map_none, Option.bind_some, Option.bind_none, List.map_cons, List.map_nil, List.getD_cons_zero, List.getD_cons_succ, List.getD_nil, Nat.reduceEqDiff, Nat.reduceAdd, Nat.reduceMul, Nat.reduceSub, Nat.reduceLT, Nat.reduceLeDiff, Nat.reduceBEq, if_true, if_false, ite_true, ite_false, List.length_cons, List.length_nil, Nat.zero_add, Nat.add_zero, List.drop_zero, List.drop_succ_cons, List.take_succ_cons, List.take_zero, List.set_cons_zero, List.set_cons_succ, Int.reduceLT, Int.reduceLE, Bool.not_true, Bool.not_false, Option.isNone_some, Option.isNone_none, decide_true, decide_false, beq_self_eq_true, Bool.false_eq_true, Bool.true_eq_false, if_pos, if_neg, reduceCtorEq, beq_iff_eq, BEq.rfl, wrap_i64, wrap_i32, wrap_i8, wrap_u8, wrap_u32, wrap_u64, Nat.mul_one, Int.toNat_natCast, ints_len, List.length_map, List.length_set, beq_ft, beq_tf, List.all_cons, List.all_nil, scalar, Bool.and_self, Bool.true_and, Bool.and_true, List.size_toArray, List.getElem?_toArray, binStr, fillIn, true_and, and_true, true_or, or_true, bne_self_eq_false, Int.reduceToNat, Int.reduceAdd, Int.reduceSub, Int.reduceMul]
      have E0 : z2 = v % 100 := by omega
      have E1 : p2 = v / 100 := by omega
      simp only [E0, E1]
      refine hQ _ _ hn' (fun z hz => ?_) (obj_upd_same _ _ _) I1.len ?_
      · simp only [Heap.upd, hz, if_false]; exact ho z hz
      · have := I1.eq; simpa only [decW, List.nil_append, Nat.add_zero, Nat.sub_zero] using this
    · have e4 : e 4 = .int .i64 3 := e4
      have I1 : FInv nd u 1 (v / 100) _ := I.two hn2
      have I2 : FInv nd u 0 (0) _ := I1.one hn2
      have vlt : v < 1000 := I.lt
      have r9 : (48 : Int) + (p2 : Int) = ((48 + p2 : Nat) : Int) := by omega
      have r10 : IntKind.u32.wrap ((48 : Int) + (p2 : Int)) = ((48 + p2 : Nat) : Int) := by rw [wu32]; omega
      have r11 : IntKind.u8.wrap ((48 + p2 : Nat) : Int) = ((48 + p2 : Nat) : Int) := by rw [wu8]; omega
      simp (maxSteps := 3000000) (disch := omega) only [c32_l0, c32, ↓c32_r0_run, ↓c32_r1_run, ↓c32_r2_run, ↓c32_r3_run, ↓c32_r4_run, ↓c32_r5_run, ↓c32_r6_run, ↓c32_r7_c1_run, ↓c32_r7_run, ↓c32_r8_c1_run, ↓c32_r8_run, ↓c32_r9_c1_run, ↓c32_r9_run, ↓c32_r10_c1_run, ↓c32_r10_run, ↓c32_r11_run, ↓c32_r12_run, ↓c32_r13_run, ↓c32_r14_run, ↓c32_r15_run, ↓c32_r16_run, ↓c32_r17_c1_run, ↓c32_r17_run, ↓c32_r18_c1_run, ↓c32_r18_run, ↓c32_r19_run, ↓c32_r20_run, ↓c32_r21_run, ↓c32_r22_run, ↓c32_r23_c1_run, ↓c32_r23_run, ↓c32_r24_run, ↓c32_r25_run, ↓c32_r26_run, ↓smalls0, ↓smalls1, e0, e1, e4, r1, r2, r3, r4, r5, r6, r7, r8, r10, r11, ob, hBl, setAt_one, ints_set, ints_len, List.length_set, I.len, Nat.mul_one, ge_iff_le, gt_iff_lt, Int.reduceLE, Int.reduceLT, ↓RunC_seq, ↓RunC_skip, ↓RunC_ret, ↓RunC_exit, ↓RunC_region, ↓RunC_condQ, condQ_true, condQ_false, ↓RunC_block, ↓RunR_done, ↓RunR_op, ↓RunR_opg, ↓RunR_snap, ↓RunR_chk, Holds, Option.getD_none, Option.getD_some, guardR_true, guardR_false, wantV_bool, wantV_none, callvQ_eq, afterR_some, ↓seqQ_normal, ↓seqQ_ret, ↓seqQ_exit, ↓blockQ_normal, ↓blockQ_ret, ↓blockQ_exit, ↓retQ_ret, ↓retQ_normal, ↓callQ_eq, ↓loopQ_normal, ↓loopQ_ret, ↓loopQ_exit, ↓upd_same, upd_at, sel_t, sel_f, initE_at, obj_upd_same, obj_upd_ne, obj_new_same, obj_updnew_same, obj_updnew_same2, obj_new2_same, obj_new3_same, obj_newupd_same, obj_new_ne, obj_new_ne2, obj_new_ne3, obj_new_ne4, next_upd, next_new, add_plain, cop, bin, binInt, un, shiftInt, flat, read_cells, src_ro, src_fix, src_grow, get_cells, List.getElem?_cons_zero, List.getElem?_cons_succ, write_fix, write_grow, setAt, bound, eqK, elemOk_ro, elemOk_fix, elemOk_grow, stiff_ro, stiff_fix, goInt, resultsV, resV, resL, finQ_some, Option.map_some, Option.map_none, Option.bind_some, Option.bind_none, List.map_cons, List.map_nil, List.getD_cons_zero, List.getD_cons_succ, List.getD_nil, Nat.reduceEqDiff, Nat.reduceAdd, Nat.reduceMul, Nat.reduceSub, Nat.reduceLT, Nat.reduceLeDiff, Nat.reduceBEq, if_true, if_false, ite_true, ite_false, List.length_cons, List.length_nil, Nat.zero_add, Nat.add_zero, List.drop_zero, List.drop_succ_cons, List.take_succ_cons, List.take_zero, List.set_cons_zero, List.set_cons_succ, Int.reduceLT, Int.reduceLE, Bool.not_true, Bool.not_false, Option.isNone_some, Option.isNone_none, decide_true, decide_false, beq_self_eq_true, Bool.false_eq_true, Bool.true_eq_false, if_pos, if_neg, reduceCtorEq, beq_iff_eq, BEq.rfl, wrap_i64, wrap_i32, wrap_i8, wrap_u8, wrap_u32, wrap_u64, Nat.mul_one, Int.toNat_natCast, ints_len, List.length_map, List.length_set, beq_ft, beq_tf, List.all_cons, List.all_nil, scalar, Bool.and_self, Bool.true_and, Bool.and_true, List.size_toArray, List.getElem?_toArray, binStr, fillIn, true_and, and_true, true_or, or_true, bne_self_eq_false, Int.reduceToNat, Int.reduceAdd, Int.reduceSub, Int.reduceMul]
      have E0 : z2 = v % 100 := by omega
      have E1 : p2 = v / 100 := by omega
      simp only [E0, E1]
      refine hQ _ _ hn' (fun z hz => ?_) (obj_upd_same _ _ _) I2.len ?_
      · simp only [Heap.upd, hz, if_false]; exact ho z hz
      · have := I2.eq; simpa only [decW, List.nil_append, Nat.add_zero, Nat.sub_zero] using this
    · have e4 : e 4 = .int .i64 4 := e4
      have I1 : FInv nd u 2 (v / 100) _ := I.two hn2
      have I2 : FInv nd u 0 (v / 100 / 100) _ := I1.two hn2
      have vlt : v < 10000 := I.lt
      simp (maxSteps := 3000000) (disch := omega) only [c32_l0, c32, ↓c32_r0_run, ↓c32_r1_run, ↓c32_r2_run, ↓c32_r3_run, ↓c32_r4_run, ↓c32_r5_run, ↓c32_r6_run, ↓c32_r7_c1_run, ↓c32_r7_run, ↓c32_r8_c1_run, ↓c32_r8_run, ↓c32_r9_c1_run, ↓c32_r9_run, ↓c32_r10_c1_run, ↓c32_r10_run, ↓c32_r11_run, ↓c32_r12_run, ↓c32_r13_run, ↓c32_r14_run, ↓c32_r15_run, ↓c32_r16_run, ↓c32_r17_c1_run, ↓c32_r17_run, ↓c32_r18_c1_run, ↓c32_r18_run, ↓c32_r19_run, ↓c32_r20_run, ↓c32_r21_run, ↓c32_r22_run, ↓c32_r23_c1_run, ↓c32_r23_run, ↓c32_r24_run, ↓c32_r25_run, ↓c32_r26_run, ↓smalls0, ↓smalls1, e0, e1, e4, r1, r2, r3, r4, r5, r6, r7, r8, ob, hBl, setAt_one, ints_set, ints_len, List.length_set, I.len, Nat.mul_one, ge_iff_le, gt_iff_lt, Int.reduceLE, Int.reduceLT, ↓RunC_seq, ↓RunC_skip, ↓RunC_ret, ↓RunC_exit, ↓RunC_region, ↓RunC_condQ, condQ_true, condQ_false, ↓RunC_block, ↓RunR_done, ↓RunR_op, ↓RunR_opg, ↓RunR_snap, ↓RunR_chk, Holds, Option.getD_none, Option.getD_some, guardR_true, guardR_false, wantV_bool, wantV_none, callvQ_eq, afterR_some, ↓seqQ_normal, ↓seqQ_ret, ↓seqQ_exit, ↓blockQ_normal, ↓blockQ_ret, ↓blockQ_exit, ↓retQ_ret, ↓retQ_normal, ↓callQ_eq, ↓loopQ_normal, ↓loopQ_ret, ↓loopQ_exit, ↓upd_same, upd_at, sel_t, sel_f, initE_at, obj_upd_same, obj_upd_ne, obj_new_same, obj_updnew_same, obj_updnew_same2, obj_new2_same, obj_new3_same, obj_newupd_same, obj_new_ne, obj_new_ne2, obj_new_ne3, obj_new_ne4, next_upd, next_new, add_plain, cop, bin, binInt, un, shiftInt, flat, read_cells, src_ro, src_fix, src_grow, get_cells, List.getElem?_cons_zero, List.getElem?_cons_succ, write_fix, write_grow, setAt, bound, eqK, elemOk_ro, elemOk_fix, elemOk_grow, stiff_ro, stiff_fix, goInt, resultsV, resV, resL, finQ_some, Option.map_some, Option.map_none, Option.bind_some, Option.bind_none, List.map_cons, List.map_nil, List.getD_cons_zero, List.getD_cons_succ, List.getD_nil, Nat.reduceEqDiff, Nat.reduceAdd, Nat.reduceMul, Nat.reduceSub, Nat.reduceLT, Nat.reduceLeDiff, Nat.reduceBEq, if_true, if_false, ite_true, ite_false, List.length_cons, List.length_nil, Nat.zero_add, Nat.add_zero, List.drop_zero, List.drop_succ_cons, List.take_succ_cons, List.take_zero, List.set_cons_zero, List.set_cons_succ, Int.reduceLT, Int.reduceLE, Bool.not_true, Bool.not_false, Option.isNone_some, Option.isNone_none, decide_true, decide_false, beq_self_eq_true, Bool.false_eq_true, Bool.true_eq_false, if_pos, if_neg, reduceCtorEq, beq_iff_eq, BEq.rfl, wrap_i64, wrap_i32, wrap_i8, wrap_u8, wrap_u32, wrap_u64, Nat.mul_one, Int.toNat_natCast, ints_len, List.length_map, List.length_set, beq_ft, beq_tf, List.all_cons, List.all_nil, scalar, Bool.and_self, Bool.true_and, Bool.and_true, List.size_toArray, List.getElem?_toArray, binStr, fillIn, true_and, and_true, true_or, or_true, bne_self_eq_false, Int.reduceToNat, Int.reduceAdd, Int.reduceSub, Int.reduceMul]
      have E0 : y0 = v % 100 := by omega
      have E1 : y1 = v / 100 % 100 := by omega
      have E2 : y2 = v / 100 / 100 % 100 := by omega
      have E3 : q2 = v / 100 / 100 / 100 := by omega
      have E4 : q = v / 100 / 100 := by omega
      simp only [E0, E1, E2, E3, E4]
      refine hQ _ _ hn' (fun z hz => ?_) (obj_upd_same _ _ _) I2.len ?_
      · simp only [Heap.upd, hz, if_false]; exact ho z hz
      · have := I2.eq; simpa only [decW, List.nil_append, Nat.add_zero, Nat.sub_zero] using this
    · have e4 : e 4 = .int .i64 5 := e4
      have I1 : FInv nd u 3 (v / 100) _ := I.two hn2
      have I2 : FInv nd u 1 (v / 100 / 100) _ := I1.two hn2
      have I3 : FInv nd u 0 (0) _ := I2.one hn2
      have vlt : v < 100000 := I.lt
      have r9 : (48 : Int) + (q : Int) = ((48 + q : Nat) : Int) := by omega
      have r10 : IntKind.u32.wrap ((48 : Int) + (q : Int)) = ((48 + q : Nat) : Int) := by rw [wu32]; omega
      have r11 : IntKind.u8.wrap ((48 + q : Nat) : Int) = ((48 + q : Nat) : Int) := by rw [wu8]; omega
      simp (maxSteps := 3000000) (disch := omega) only [c32_l0, c32, ↓c32_r0_run, ↓c32_r1_run, ↓c32_r2_run, ↓c32_r3_run, ↓c32_r4_run, ↓c32_r5_run, ↓c32_r6_run, ↓c32_r7_c1_run, ↓c32_r7_run, ↓c32_r8_c1_run, ↓c32_r8_run, ↓c32_r9_c1_run, ↓c32_r9_run, ↓c32_r10_c1_run, ↓c32_r10_run, ↓c32_r11_run, ↓c32_r12_run, ↓c32_r13_run, ↓c32_r14_run, ↓c32_r15_run, ↓c32_r16_run, ↓c32_r17_c1_run, ↓c32_r17_run, ↓c32_r18_c1_run, ↓c32_r18_run, ↓c32_r19_run, ↓c32_r20_run, ↓c32_r21_run, ↓c32_r22_run, ↓c32_r23_c1_run, ↓c32_r23_run, ↓c32_r24_run, ↓c32_r25_run, ↓c32_r26_run, ↓smalls0, ↓smalls1, e0, e1, e4, r1, r2, r3, r4, r5, r6, r7, r8, r10, r11, ob, hBl, setAt_one, ints_set, ints_len, List.length_set, I.len, Nat.mul_one, ge_iff_le, gt_iff_lt, Int.reduceLE, Int.reduceLT, ↓RunC_seq, ↓RunC_skip, ↓RunC_ret, ↓RunC_exit, ↓RunC_region, ↓RunC_condQ, condQ_true, condQ_false, ↓RunC_block, ↓RunR_done, ↓RunR_op, ↓RunR_opg, ↓RunR_snap, ↓RunR_chk, Holds, Option.getD_none, Option.getD_some, guardR_true, guardR_false, wantV_bool, wantV_none, callvQ_eq, afterR_some, ↓seqQ_normal, ↓seqQ_ret, ↓seqQ_exit, ↓blockQ_normal, ↓blockQ_ret, ↓blockQ_exit, ↓retQ_ret, ↓retQ_normal, ↓callQ_eq, ↓loopQ_normal, ↓loopQ_ret, ↓loopQ_exit, ↓upd_same, upd_at, sel_t, sel_f, initE_at, obj_upd_same, obj_upd_ne, obj_new_same, obj_updnew_same, obj_updnew_same2, obj_new2_same, obj_new3_same, obj_newupd_same, obj_new_ne, obj_new_ne2, obj_new_ne3, obj_new_ne4, next_upd, next_new, add_plain, cop, bin, binInt, un, shiftInt, flat, read_cells, src_ro, src_fix, src_grow, get_cells, List.getElem?_cons_zero, List.getElem?_cons_succ, write_fix, write_grow, setAt, bound, eqK, elemOk_ro, elemOk_fix, elemOk_grow, stiff_ro, stiff_fix, goInt, resultsV, resV, resL, finQ_some, Option.map_some, Option.map_none, Option.bind_some, Option.bind_none, List.map_cons, List.map_nil, List.getD_cons_zero, List.getD_cons_succ, List.getD_nil, Nat.reduceEqDiff, Nat.reduceAdd, Nat.reduceMul, Nat.reduceSub, Nat.reduceLT, Nat.reduceLeDiff, Nat.reduceBEq, if_true, if_false, ite_true, ite_false, List.length_cons, List.length_nil, Nat.zero_add, Nat.add_zero, List.drop_zero, List.drop_succ_cons, List.take_succ_cons, List.take_zero, List.set_cons_zero, List.set_cons_succ, Int.reduceLT, Int.reduceLE, Bool.not_true, Bool.not_false, Option.isNone_some, Option.isNone_none, decide_true, decide_false, beq_self_eq_true, Bool.false_eq_true, Bool.true_eq_false, if_pos, if_neg, reduceCtorEq, beq_iff_eq, BEq.rfl, wrap_i64, wrap_i32, wrap_i8, wrap_u8, wrap_u32, wrap_u64, Nat.mul_one, Int.toNat_natCast, ints_len, List.length_map, List.length_set, beq_ft, beq_tf, List.all_cons, List.all_nil, scalar, Bool.and_self, Bool.true_and, Bool.and_true, List.size_toArray, List.getElem?_toArray, binStr, fillIn, true_and, and_true, true_or, or_true, bne_self_eq_false, Int.reduceToNat, Int.reduceAdd, Int.reduceSub, Int.reduceMul]
      have E0 : y0 = v % 100 := by omega
      have E1 : y1 = v / 100 % 100 := by omega
      have E2 : y2 = v / 100 / 100 % 100 := by omega
      have E3 : q2 = v / 100 / 100 / 100 := by omega
      have E4 : q = v / 100 / 100 := by omega
      simp only [E0, E1, E2, E3, E4]
      refine hQ _ _ hn' (fun z hz => ?_) (obj_upd_same _ _ _) I3.len ?_
      · simp only [Heap.upd, hz, if_false]; exact ho z hz
      · have := I3.eq; simpa only [decW, List.nil_append, Nat.add_zero, Nat.sub_zero] using this
    · have e4 : e 4 = .int .i64 6 := e4
      have I1 : FInv nd u 4 (v / 100) _ := I.two hn2
      have I2 : FInv nd u 2 (v / 100 / 100) _ := I1.two hn2
      have I3 : FInv nd u 0 (v / 100 / 100 / 100) _ := I2.two hn2
      have vlt : v < 1000000 := I.lt
      simp (maxSteps := 3000000) (disch := omega) only [c32_l0, c32, ↓c32_r0_run, ↓c32_r1_run, ↓c32_r2_run, ↓c32_r3_run, ↓c32_r4_run, ↓c32_r5_run, ↓c32_r6_run, ↓c32_r7_c1_run, ↓c32_r7_run, ↓c32_r8_c1_run, ↓c32_r8_run, ↓c32_r9_c1_run, ↓c32_r9_run, ↓c32_r10_c1_run, ↓c32_r10_run, ↓c32_r11_run, ↓c32_r12_run, ↓c32_r13_run, ↓c32_r14_run, ↓c32_r15_run, ↓c32_r16_run, ↓c32_r17_c1_run, ↓c32_r17_run, ↓c32_r18_c1_run, ↓c32_r18_run, ↓c32_r19_run, ↓c32_r20_run, ↓c32_r21_run, ↓c32_r22_run, ↓c32_r23_c1_run, ↓c32_r23_run, ↓c32_r24_run, ↓c32_r25_run, ↓c32_r26_run, ↓smalls0, ↓smalls1, e0, e1, e4, r1, r2, r3, r4, r5, r6, r7, r8, ob, hBl, setAt_one, ints_set, ints_len, List.length_set, I.len, Nat.mul_one, ge_iff_le, gt_iff_lt, Int.reduceLE, Int.reduceLT, ↓RunC_seq, ↓RunC_skip, ↓RunC_ret, ↓RunC_exit, ↓RunC_region, ↓RunC_condQ, condQ_true, condQ_false, ↓RunC_block, ↓RunR_done, ↓RunR_op, ↓RunR_opg, ↓RunR_snap, ↓RunR_chk, Holds, Option.getD_none, Option.getD_some, guardR_true, guardR_false, wantV_bool, wantV_none, callvQ_eq, afterR_some, ↓seqQ_normal, ↓seqQ_ret, ↓seqQ_exit, ↓blockQ_normal, ↓blockQ_ret, ↓blockQ_exit, ↓retQ_ret, ↓retQ_normal, ↓callQ_eq, ↓loopQ_normal, ↓loopQ_ret, ↓loopQ_exit, ↓upd_same, upd_at, sel_t, sel_f, initE_at, obj_upd_same, obj_upd_ne, obj_new_same, obj_updnew_same, obj_updnew_same2, obj_new2_same, obj_new3_same, obj_newupd_same, obj_new_ne, obj_new_ne2, obj_new_ne3, obj_new_ne4, next_upd, next_new, add_plain, cop, bin, binInt, un, shiftInt, flat, read_cells, src_ro, src_fix, src_grow, get_cells, List.getElem?_cons_zero, List.getElem?_cons_succ, write_fix, write_grow, setAt, bound, eqK, elemOk_ro, elemOk_fix, elemOk_grow, stiff_ro, stiff_fix, goInt, resultsV, resV, resL, finQ_some, Option.map_some, Option.map_none, Option.bind_some, Option.bind_none, List.map_cons, List.map_nil, List.getD_cons_zero, List.getD_cons_succ, List.getD_nil, Nat.reduceEqDiff, Nat.reduceAdd, Nat.reduceMul, Nat.reduceSub, Nat.reduceLT, Nat.reduceLeDiff, Nat.reduceBEq, if_true, if_false, ite_true, ite_false, List.length_cons, List.length_nil, Nat.zero_add, Nat.add_zero, List.drop_zero, List.drop_succ_cons, List.take_succ_cons, List.take_zero, List.set_cons_zero, List.set_cons_succ, Int.reduceLT, Int.reduceLE, Bool.not_true, Bool.not_false, Option.isNone_some, Option.isNone_none, decide_true, decide_false, beq_self_eq_true, Bool.false_eq_true, Bool.true_eq_false, if_pos, if_neg, reduceCtorEq, beq_iff_eq, BEq.rfl, wrap_i64, wrap_i32, wrap_i8, wrap_u8, wrap_u32, wrap_u64, Nat.mul_one, Int.toNat_natCast, ints_len, List.length_map, List.length_set, beq_ft, beq_tf, List.all_cons, List.all_nil, scalar, Bool.and_self, Bool.true_and, Bool.and_true, List.size_toArray, List.getElem?_toArray, binStr, fillIn, true_and, and_true, true_or, or_true, bne_self_eq_false, Int.reduceToNat, Int.reduceAdd, Int.reduceSub, Int.reduceMul]
      have E0 : y0 = v % 100 := by omega
      have E1 : y1 = v / 100 % 100 := by omega
      have E2 : y2 = v / 100 / 100 % 100 := by omega
      have E3 : q2 = v / 100 / 100 / 100 := by omega
      have E4 : q = v / 100 / 100 := by omega
      simp only [E0, E1, E2, E3, E4]
      refine hQ _ _ hn' (fun z hz => ?_) (obj_upd_same _ _ _) I3.len ?_
      · simp only [Heap.upd, hz, if_false]; exact ho z hz
      · have := I3.eq; simpa only [decW, List.nil_append, Nat.add_zero, Nat.sub_zero] using this
    · have e4 : e 4 = .int .i64 7 := e4
      have I1 : FInv nd u 5 (v / 100) _ := I.two hn2
      have I2 : FInv nd u 3 (v / 100 / 100) _ := I1.two hn2
      have I3 : FInv nd u 1 (v / 100 / 100 / 100) _ := I2.two hn2
      have I4 : FInv nd u 0 (0) _ := I3.one hn2
      have vlt : v < 10000000 := I.lt
      have r9 : (48 : Int) + (q2 : Int) = ((48 + q2 : Nat) : Int) := by omega
      have r10 : IntKind.u32.wrap ((48 : Int) + (q2 : Int)) = ((48 + q2 : Nat) : Int) := by rw [wu32]; omega
      have r11 : IntKind.u8.wrap ((48 + q2 : Nat) : Int) = ((48 + q2 : Nat) : Int) := by rw [wu8]; omega
      simp (maxSteps := 3000000) (disch := omega) only [c32_l0, c32, ↓c32_r0_run, ↓c32_r1_run, ↓c32_r2_run, ↓c32_r3_run, ↓c32_r4_run, ↓c32_r5_run, ↓c32_r6_run, ↓c32_r7_c1_run, ↓c32_r7_run, ↓c32_r8_c1_run, ↓c32_r8_run, ↓c32_r9_c1_run, ↓c32_r9_run, ↓c32_r10_c1_run, ↓c32_r10_run, ↓c32_r11_run, ↓c32_r12_run, ↓c32_r13_run, ↓c32_r14_run, ↓c32_r15_run, ↓c32_r16_run, ↓c32_r17_c1_run, ↓c32_r17_run, ↓c32_r18_c1_run, ↓c32_r18_run, ↓c32_r19_run, ↓c32_r20_run, ↓c32_r21_run, ↓c32_r22_run, ↓c32_r23_c1_run, ↓c32_r23_run, ↓c32_r24_run, ↓c32_r25_run, ↓c32_r26_run, ↓smalls0, ↓smalls1, e0, e1, e4, r1, r2, r3, r4, r5, r6, r7, r8, r10, r11, ob, hBl, setAt_one, ints_set, ints_len, List.length_set, I.len, Nat.mul_one, ge_iff_le, gt_iff_lt, Int.reduceLE, Int.reduceLT, ↓RunC_seq, ↓RunC_skip, ↓RunC_ret, ↓RunC_exit, ↓RunC_region, ↓RunC_condQ, condQ_true, condQ_false, ↓RunC_block, ↓RunR_done, ↓RunR_op, ↓RunR_opg, ↓RunR_snap, ↓RunR_chk, Holds, Option.getD_none, Option.getD_some, guardR_true, guardR_false, wantV_bool, wantV_none, callvQ_eq, afterR_some, ↓seqQ_normal, ↓seqQ_ret, ↓seqQ_exit, ↓blockQ_normal, ↓blockQ_ret, ↓blockQ_exit, ↓retQ_ret, ↓retQ_normal, ↓callQ_eq, ↓loopQ_normal, ↓loopQ_ret, ↓loopQ_exit, ↓upd_same, upd_at, sel_t, sel_f, initE_at, obj_upd_same, obj_upd_ne, obj_new_same, obj_updnew_same, obj_updnew_same2, obj_new2_same, obj_new3_same, obj_newupd_same, obj_new_ne, obj_new_ne2, obj_new_ne3, obj_new_ne4, next_upd, next_new, add_plain, cop, bin, binInt, un, shiftInt, flat, read_cells, src_ro, src_fix, src_grow, get_cells, List.getElem?_cons_zero, List.getElem?_cons_succ, write_fix, write_grow, setAt, bound, eqK, elemOk_ro, elemOk_fix, elemOk_grow, stiff_ro, stiff_fix, goInt, resultsV, resV, resL, finQ_some, Option.map_some, Option.map_none, Option.bind_some, Option.bind_none, List.map_cons, List.map_nil, List.getD_cons_zero, List.getD_cons_succ, List.getD_nil, Nat.reduceEqDiff, Nat.reduceAdd, Nat.reduceMul, Nat.reduceSub, Nat.reduceLT, Nat.reduceLeDiff, Nat.reduceBEq, if_true, if_false, ite_true, ite_false, List.length_cons, List.length_nil, Nat.zero_add, Nat.add_zero, List.drop_zero, List.drop_succ_cons, List.take_succ_cons, List.take_zero, List.set_cons_zero, List.set_cons_succ, Int.reduceLT, Int.reduceLE, Bool.not_true, Bool.not_false, Option.isNone_some, Option.isNone_none, decide_true, decide_false, beq_self_eq_true, Bool.false_eq_true, Bool.true_eq_false, if_pos, if_neg, reduceCtorEq, beq_iff_eq, BEq.rfl, wrap_i64, wrap_i32, wrap_i8, wrap_u8, wrap_u32, wrap_u64, Nat.mul_one, Int.toNat_natCast, ints_len, List.length_map, List.length_set, beq_ft, beq_tf, List.all_cons, List.all_nil, scalar, Bool.and_self, Bool.true_and, Bool.and_true, List.size_toArray, List.getElem?_toArray, binStr, fillIn, true_and, and_true, true_or, or_true, bne_self_eq_false, Int.reduceToNat, Int.reduceAdd, Int.reduceSub, Int.reduceMul]
      have E0 : y0 = v % 100 := by omega
      have E1 : y1 = v / 100 % 100 := by omega
      have E2 : y2 = v / 100 / 100 % 100 := by omega
      have E3 : q2 = v / 100 / 100 / 100 := by omega
      have E4 : q = v / 100 / 100 := by omega
      simp only [E0, E1, E2, E3, E4]
      refine hQ _ _ hn' (fun z hz => ?_) (obj_upd_same _ _ _) I4.len ?_
      · simp only [Heap.upd, hz, if_false]; exact ho z hz
      · have := I4.eq; simpa only [decW, List.nil_append, Nat.add_zero, Nat.sub_zero] using this
end Go.Proofs.YtcmanhhpfbinoaaDoor.Can
