/- The report's words and numbers, in the canonical machine. No condition. -/
import Derived.Test.YtcmanhhpfbinoaaDoorSBld
import Derived.Test.YtcmanhhpfbinoaaDoorArg
namespace Go.Proofs.YtcmanhhpfbinoaaDoor.Can
open Go
set_option linter.unusedSimpArgs false
set_option linter.unusedVariables false
attribute [local congr] RunR_congr RunC_congr afterR_congr guardR_congr condQ_congr CALL_congr finQ_congr op_congr opg_congr

theorem digN_len : ∀ (k n : Nat), n < 10 ^ (k + 1) → (digN n).length ≤ k + 1 ∧ 0 < (digN n).length := by
  intro k
  induction k with
  | zero =>
    intro n h
    rw [digN_lt (by simpa using h)]
    exact ⟨Nat.le_refl _, Nat.zero_lt_one⟩
  | succ k ih =>
    intro n h
    by_cases c : n < 10
    · rw [digN_lt c]
      exact ⟨by simp, Nat.zero_lt_one⟩
    · rw [digN_ge c, List.length_append, List.length_singleton]
      rw [Nat.pow_succ] at h
      have := ih (n / 10) (by omega)
      omega
theorem dec_len {i : Int} (h : I64 i) : (dec i).length ≤ 20 ∧ 0 < (dec i).length := by
  unfold I64 at h
  unfold dec
  split
  · have := digN_len 18 (-i).toNat (by omega)
    rw [List.length_cons]; omega
  · have := digN_len 18 i.toNat (by omega)
    omega
/-- Printed signs. -/
def Prn (l : List Int) : Prop := ∀ x ∈ l, 11 ≤ x ∧ x < 128
theorem Prn.byts {l : List Int} (h : Prn l) : Byts l := fun x hx => by have := h x hx; omega
theorem Prn.app {a b : List Int} (h : Prn a) (k : Prn b) : Prn (a ++ b) := fun x hx => (List.mem_append.1 hx).elim (h x) (k x)
theorem dec_prn (i : Int) : Prn (dec i) := by
  unfold dec
  split
  · intro x hx
    rcases List.mem_cons.1 hx with rfl | hx
    · omega
    · have := digN_dig _ x hx; omega
  · intro x hx
    have := digN_dig _ x hx; omega
def nl (n : Int) : List Int := 32 :: dec n
def nums (ns : List Int) : List Int := ns.flatMap nl
theorem nl_prn (i : Int) : Prn (nl i) := fun x hx => by
  rcases List.mem_cons.1 hx with rfl | hx
  · omega
  · exact dec_prn i x hx
theorem nums_prn (ns : List Int) : Prn (nums ns) := fun x hx => by
  obtain ⟨n, _, hn⟩ := List.mem_flatMap.1 hx
  exact nl_prn n x hn
theorem nums_len : ∀ (ns : List Int), (∀ x ∈ ns, I64 x) → (nums ns).length ≤ 21 * ns.length
  | [], _ => Nat.le_refl _
  | n :: t, h => by
    have := nums_len t fun x hx => h x (List.mem_cons_of_mem _ hx)
    have h2 := dec_len (h n List.mem_cons_self)
    unfold nums at this ⊢
    have h3 : (nl n).length = (dec n).length + 1 := rfl
    rw [List.flatMap_cons, List.length_append, List.length_cons]
    omega
theorem nums_ok (h : Heap) (nb : Nat) (ns : List Int) (on : h.obj nb = .cells (ints .i64 ns) 2 .grow) (ln : nb < h.next) (hT : HasPows h) (hl : ns.length ≤ 9) (n64 : ∀ x ∈ ns, I64 x) {Q : Value → Heap → Prop}
    (hQ : ∀ h', Old h h' → Q (.string (bs (nums ns))) h') : CALL cp 15 [.slice (some ⟨nb, 0, none⟩) ns.length ns.length] h Q := by
  rw [CALL_enter cp cp15]
  simp (disch := omega) only [c15, ↓c15_r0_run, ↓c15_r1_run, ↓c15_r2_run, ↓c15_r3_run, ↓c15_r4_run, ↓c15_r5_run, ↓c15_r6_run, ↓c15_r7_run, ↓RunC_seq, ↓RunC_skip, ↓RunC_ret, ↓RunC_exit, ↓RunC_region, ↓RunC_condQ, condQ_true, condQ_false, ↓RunC_block, ↓RunR_done, ↓RunR_op, ↓RunR_opg, ↓RunR_snap, ↓RunR_chk, Holds, Option.getD_none, Option.getD_some, guardR_true, guardR_false, wantV_bool, wantV_none, callvQ_eq, afterR_some, ↓seqQ_normal, ↓seqQ_ret, ↓seqQ_exit, ↓blockQ_normal, ↓blockQ_ret, ↓blockQ_exit, ↓retQ_ret, ↓retQ_normal, ↓callQ_eq, ↓loopQ_normal, ↓loopQ_ret, ↓loopQ_exit, ↓upd_same, upd_at, sel_t, sel_f, initE_at, obj_upd_same, obj_upd_ne, obj_new_same, obj_updnew_same, obj_updnew_same2, obj_new2_same, obj_new3_same, obj_newupd_same, obj_new_ne, obj_new_ne2, obj_new_ne3, obj_new_ne4, next_upd, next_new, add_plain, cop, bin, binInt, un, shiftInt, flat, read_cells, src_ro, src_fix, src_grow, get_cells, List.getElem?_cons_zero, List.getElem?_cons_succ, write_fix, write_grow, setAt, bound, eqK, elemOk_ro, elemOk_fix, elemOk_grow, stiff_ro, stiff_fix, goInt, resultsV, resV, resL, finQ_some, Option.map_some, Option.map_none, Option.bind_some, Option.bind_none, List.map_cons, List.map_nil, List.getD_cons_zero, List.getD_cons_succ, List.getD_nil, Nat.reduceEqDiff, Nat.reduceAdd, Nat.reduceMul, Nat.reduceSub, Nat.reduceLT, Nat.reduceLeDiff, Nat.reduceBEq, if_true, if_false, ite_true, ite_false, List.length_cons, List.length_nil, Nat.zero_add, Nat.add_zero, List.drop_zero, List.drop_succ_cons, List.take_succ_cons, List.take_zero, List.set_cons_zero, List.set_cons_succ, Int.reduceLT, Int.reduceLE, Bool.not_true, Bool.not_false, Option.isNone_some, Option.isNone_none, decide_true, decide_false, beq_self_eq_true, Bool.false_eq_true, Bool.true_eq_false, if_pos, if_neg, reduceCtorEq, beq_iff_eq, BEq.rfl, wrap_i64, wrap_i32, wrap_i8, wrap_u8, wrap_u32, wrap_u64, Nat.mul_one, Int.toNat_natCast, ints_len, List.length_map, List.length_set, beq_ft, beq_tf, List.all_cons, List.all_nil, scalar, Bool.and_self, Bool.true_and, Bool.and_true, List.size_toArray, List.getElem?_toArray, binStr, fillIn, true_and, and_true, true_or, or_true, bne_self_eq_false, Int.reduceToNat, Int.reduceAdd, Int.reduceSub, Int.reduceMul]
  refine RunC_loop cp c15_l0 _ (fun d e hh => ∃ (j bb : Nat), j + d = ns.length ∧ Old h hh ∧ h.next + 1 ≤ bb ∧ BdAt hh h.next bb (nums (ns.take j)) ∧ e 3 = .pointer (some ⟨h.next, 0, none⟩) ∧ e 6 = .slice (some ⟨nb, 0, none⟩) ns.length ns.length ∧ e 7 = .int .i64 ns.length ∧ e 8 = .int .i64 j) ?_ ns.length _ _
    ⟨0, h.next + 1, by omega, (Old.refl h).more _, Nat.le_refl _, ⟨⟨_, _, obj_new_same _ _, .inl rfl, Vec.nil _ _ _ _, fun _ => rfl⟩, Nat.lt_succ_self _, by omega⟩, rfl, rfl, rfl, rfl⟩
  rintro d e hh ⟨j, bb, hj, old, hbb, bd, e3, e6, e7, e8⟩
  by_cases cj : j < ns.length
  · have b1 : decide ((j : Int) < (ns.length : Int)) = true := decide_eq_true (by omega)
    have nx : (j : Int) + 1 = ((j + 1 : Nat) : Int) := by omega
    have hx : ns[j]? = some ns[j] := List.getElem?_eq_getElem cj
    obtain ⟨x, hxx⟩ : ∃ x, x = ns[j] := ⟨_, rfl⟩
    rw [← hxx] at hx
    have x64 := n64 x (List.mem_of_getElem? hx)
    have hg := ints_get .i64 _ hx
    have on' := (old.obj nb ln).trans on
    have tk : nums (ns.take (j + 1)) = nums (ns.take j) ++ nl x := by
      unfold nums
      rw [take_get hx, List.flatMap_append]
      simp
    have nlen := nums_len (ns.take j) fun y hy => n64 y (List.mem_of_mem_take hy)
    rw [List.length_take] at nlen
    have xl := dec_len x64
    simp (disch := omega) only [c15_l0, c15, ↓c15_r0_run, ↓c15_r1_run, ↓c15_r2_run, ↓c15_r3_run, ↓c15_r4_run, ↓c15_r5_run, ↓c15_r6_run, ↓c15_r7_run, e3, e6, e7, e8, b1, on', hg, ↓RunC_seq, ↓RunC_skip, ↓RunC_ret, ↓RunC_exit, ↓RunC_region, ↓RunC_condQ, condQ_true, condQ_false, ↓RunC_block, ↓RunR_done, ↓RunR_op, ↓RunR_opg, ↓RunR_snap, ↓RunR_chk, Holds, Option.getD_none, Option.getD_some, guardR_true, guardR_false, wantV_bool, wantV_none, callvQ_eq, afterR_some, ↓seqQ_normal, ↓seqQ_ret, ↓seqQ_exit, ↓blockQ_normal, ↓blockQ_ret, ↓blockQ_exit, ↓retQ_ret, ↓retQ_normal, ↓callQ_eq, ↓loopQ_normal, ↓loopQ_ret, ↓loopQ_exit, ↓upd_same, upd_at, sel_t, sel_f, initE_at, obj_upd_same, obj_upd_ne, obj_new_same, obj_updnew_same, obj_updnew_same2, obj_new2_same, obj_new3_same, obj_newupd_same, obj_new_ne, obj_new_ne2, obj_new_ne3, obj_new_ne4, next_upd, next_new, add_plain, cop, bin, binInt, un, shiftInt, flat, read_cells, src_ro, src_fix, src_grow, get_cells, List.getElem?_cons_zero, List.getElem?_cons_succ, write_fix, write_grow, setAt, bound, eqK, elemOk_ro, elemOk_fix, elemOk_grow, stiff_ro, stiff_fix, goInt, resultsV, resV, resL, finQ_some, Option.map_some, Option.map_none, Option.bind_some, Option.bind_none, List.map_cons, List.map_nil, List.getD_cons_zero, List.getD_cons_succ, List.getD_nil, Nat.reduceEqDiff, Nat.reduceAdd, Nat.reduceMul, Nat.reduceSub, Nat.reduceLT, Nat.reduceLeDiff, Nat.reduceBEq, if_true, if_false, ite_true, ite_false, List.length_cons, List.length_nil, Nat.zero_add, Nat.add_zero, List.drop_zero, List.drop_succ_cons, List.take_succ_cons, List.take_zero, List.set_cons_zero, List.set_cons_succ, Int.reduceLT, Int.reduceLE, Bool.not_true, Bool.not_false, Option.isNone_some, Option.isNone_none, decide_true, decide_false, beq_self_eq_true, Bool.false_eq_true, Bool.true_eq_false, if_pos, if_neg, reduceCtorEq, beq_iff_eq, BEq.rfl, wrap_i64, wrap_i32, wrap_i8, wrap_u8, wrap_u32, wrap_u64, Nat.mul_one, Int.toNat_natCast, ints_len, List.length_map, List.length_set, beq_ft, beq_tf, List.all_cons, List.all_nil, scalar, Bool.and_self, Bool.true_and, Bool.and_true, List.size_toArray, List.getElem?_toArray, binStr, fillIn, true_and, and_true, true_or, or_true, bne_self_eq_false, Int.reduceToNat, Int.reduceAdd, Int.reduceSub, Int.reduceMul]
    refine formatInt_ok hh (hT.old old) x x64 fun h2 o2 => ?_
    have c32 : (⟨#[32]⟩ : ByteArray) = bs [32] := rfl
    simp (disch := omega) only [c32, bs_size, bs_app, c15, ↓c15_r0_run, ↓c15_r1_run, ↓c15_r2_run, ↓c15_r3_run, ↓c15_r4_run, ↓c15_r5_run, ↓c15_r6_run, ↓c15_r7_run, e3, e6, e7, e8, List.cons_append, List.nil_append, ↓RunC_seq, ↓RunC_skip, ↓RunC_ret, ↓RunC_exit, ↓RunC_region, ↓RunC_condQ, condQ_true, condQ_false, ↓RunC_block, ↓RunR_done, ↓RunR_op, ↓RunR_opg, ↓RunR_snap, ↓RunR_chk, Holds, Option.getD_none, Option.getD_some, guardR_true, guardR_false, wantV_bool, wantV_none, callvQ_eq, afterR_some, ↓seqQ_normal, ↓seqQ_ret, ↓seqQ_exit, ↓blockQ_normal, ↓blockQ_ret, ↓blockQ_exit, ↓retQ_ret, ↓retQ_normal, ↓callQ_eq, ↓loopQ_normal, ↓loopQ_ret, ↓loopQ_exit, ↓upd_same, upd_at, sel_t, sel_f, initE_at, obj_upd_same, obj_upd_ne, obj_new_same, obj_updnew_same, obj_updnew_same2, obj_new2_same, obj_new3_same, obj_newupd_same, obj_new_ne, obj_new_ne2, obj_new_ne3, obj_new_ne4, next_upd, next_new, add_plain, cop, bin, binInt, un, shiftInt, flat, read_cells, src_ro, src_fix, src_grow, get_cells, List.getElem?_cons_zero, List.getElem?_cons_succ, write_fix, write_grow, setAt, bound, eqK, elemOk_ro, elemOk_fix, elemOk_grow, stiff_ro, stiff_fix, goInt, resultsV, resV, resL, finQ_some, Option.map_some, Option.map_none, Option.bind_some, Option.bind_none, List.map_cons, List.map_nil, List.getD_cons_zero, List.getD_cons_succ, List.getD_nil, Nat.reduceEqDiff, Nat.reduceAdd, Nat.reduceMul, Nat.reduceSub, Nat.reduceLT, Nat.reduceLeDiff, Nat.reduceBEq, if_true, if_false, ite_true, ite_false, List.length_cons, List.length_nil, Nat.zero_add, Nat.add_zero, List.drop_zero, List.drop_succ_cons, List.take_succ_cons, List.take_zero, List.set_cons_zero, List.set_cons_succ, Int.reduceLT, Int.reduceLE, Bool.not_true, Bool.not_false, Option.isNone_some, Option.isNone_none, decide_true, decide_false, beq_self_eq_true, Bool.false_eq_true, Bool.true_eq_false, if_pos, if_neg, reduceCtorEq, beq_iff_eq, BEq.rfl, wrap_i64, wrap_i32, wrap_i8, wrap_u8, wrap_u32, wrap_u64, Nat.mul_one, Int.toNat_natCast, ints_len, List.length_map, List.length_set, beq_ft, beq_tf, List.all_cons, List.all_nil, scalar, Bool.and_self, Bool.true_and, Bool.and_true, List.size_toArray, List.getElem?_toArray, binStr, fillIn, true_and, and_true, true_or, or_true, bne_self_eq_false, Int.reduceToNat, Int.reduceAdd, Int.reduceSub, Int.reduceMul]
    have n2 : hh.next ≤ h2.next := o2.next
    have nh : h.next + 1 ≤ hh.next := bd.lb
    refine writeString_ok h2 h.next bb _ (nl x) (bd.old n2 fun z _ hz => o2.obj z hz) (nl_prn x).byts (by show 0 < (32 :: dec x).length; simp) (by show _ + (32 :: dec x).length ≤ _; rw [List.length_cons]; omega) fun v h3 b3 bd3 n3 hb3 o3 => ?_
    simp (disch := omega) only [c15, ↓c15_r0_run, ↓c15_r1_run, ↓c15_r2_run, ↓c15_r3_run, ↓c15_r4_run, ↓c15_r5_run, ↓c15_r6_run, ↓c15_r7_run, e3, e6, e7, e8, nx, ↓RunC_seq, ↓RunC_skip, ↓RunC_ret, ↓RunC_exit, ↓RunC_region, ↓RunC_condQ, condQ_true, condQ_false, ↓RunC_block, ↓RunR_done, ↓RunR_op, ↓RunR_opg, ↓RunR_snap, ↓RunR_chk, Holds, Option.getD_none, Option.getD_some, guardR_true, guardR_false, wantV_bool, wantV_none, callvQ_eq, afterR_some, ↓seqQ_normal, ↓seqQ_ret, ↓seqQ_exit, ↓blockQ_normal, ↓blockQ_ret, ↓blockQ_exit, ↓retQ_ret, ↓retQ_normal, ↓callQ_eq, ↓loopQ_normal, ↓loopQ_ret, ↓loopQ_exit, ↓upd_same, upd_at, sel_t, sel_f, initE_at, obj_upd_same, obj_upd_ne, obj_new_same, obj_updnew_same, obj_updnew_same2, obj_new2_same, obj_new3_same, obj_newupd_same, obj_new_ne, obj_new_ne2, obj_new_ne3, obj_new_ne4, next_upd, next_new, add_plain, cop, bin, binInt, un, shiftInt, flat, read_cells, src_ro, src_fix, src_grow, get_cells, List.getElem?_cons_zero, List.getElem?_cons_succ, write_fix, write_grow, setAt, bound, eqK, elemOk_ro, elemOk_fix, elemOk_grow, stiff_ro, stiff_fix, goInt, resultsV, resV, resL, finQ_some, Option.map_some, Option.map_none, Option.bind_some, Option.bind_none, List.map_cons, List.map_nil, List.getD_cons_zero, List.getD_cons_succ, List.getD_nil, Nat.reduceEqDiff, Nat.reduceAdd, Nat.reduceMul, Nat.reduceSub, Nat.reduceLT, Nat.reduceLeDiff, Nat.reduceBEq, if_true, if_false, ite_true, ite_false, List.length_cons, List.length_nil, Nat.zero_add, Nat.add_zero, List.drop_zero, List.drop_succ_cons, List.take_succ_cons, List.take_zero, List.set_cons_zero, List.set_cons_succ, Int.reduceLT, Int.reduceLE, Bool.not_true, Bool.not_false, Option.isNone_some, Option.isNone_none, decide_true, decide_false, beq_self_eq_true, Bool.false_eq_true, Bool.true_eq_false, if_pos, if_neg, reduceCtorEq, beq_iff_eq, BEq.rfl, wrap_i64, wrap_i32, wrap_i8, wrap_u8, wrap_u32, wrap_u64, Nat.mul_one, Int.toNat_natCast, ints_len, List.length_map, List.length_set, beq_ft, beq_tf, List.all_cons, List.all_nil, scalar, Bool.and_self, Bool.true_and, Bool.and_true, List.size_toArray, List.getElem?_toArray, binStr, fillIn, true_and, and_true, true_or, or_true, bne_self_eq_false, Int.reduceToNat, Int.reduceAdd, Int.reduceSub, Int.reduceMul]
    have old3 : Old h h3 := ⟨by omega, fun z hz => by rw [o3 z (by omega) (by omega) (by omega), o2.obj z (by omega), old.obj z hz]⟩
    refine ⟨d - 1, by omega, j + 1, b3, by omega, old3, by omega, by rw [tk]; exact bd3, ?_⟩
    repeat' first | assumption | rfl | apply And.intro
  · have b1 : decide ((j : Int) < (ns.length : Int)) = false := decide_eq_false (by omega)
    obtain rfl : j = ns.length := by omega
    rw [List.take_length] at bd
    have nlen := nums_len ns n64
    simp (disch := omega) only [c15_l0, c15, ↓c15_r0_run, ↓c15_r1_run, ↓c15_r2_run, ↓c15_r3_run, ↓c15_r4_run, ↓c15_r5_run, ↓c15_r6_run, ↓c15_r7_run, e3, e6, e7, e8, b1, ↓RunC_seq, ↓RunC_skip, ↓RunC_ret, ↓RunC_exit, ↓RunC_region, ↓RunC_condQ, condQ_true, condQ_false, ↓RunC_block, ↓RunR_done, ↓RunR_op, ↓RunR_opg, ↓RunR_snap, ↓RunR_chk, Holds, Option.getD_none, Option.getD_some, guardR_true, guardR_false, wantV_bool, wantV_none, callvQ_eq, afterR_some, ↓seqQ_normal, ↓seqQ_ret, ↓seqQ_exit, ↓blockQ_normal, ↓blockQ_ret, ↓blockQ_exit, ↓retQ_ret, ↓retQ_normal, ↓callQ_eq, ↓loopQ_normal, ↓loopQ_ret, ↓loopQ_exit, ↓upd_same, upd_at, sel_t, sel_f, initE_at, obj_upd_same, obj_upd_ne, obj_new_same, obj_updnew_same, obj_updnew_same2, obj_new2_same, obj_new3_same, obj_newupd_same, obj_new_ne, obj_new_ne2, obj_new_ne3, obj_new_ne4, next_upd, next_new, add_plain, cop, bin, binInt, un, shiftInt, flat, read_cells, src_ro, src_fix, src_grow, get_cells, List.getElem?_cons_zero, List.getElem?_cons_succ, write_fix, write_grow, setAt, bound, eqK, elemOk_ro, elemOk_fix, elemOk_grow, stiff_ro, stiff_fix, goInt, resultsV, resV, resL, finQ_some, Option.map_some, Option.map_none, Option.bind_some, Option.bind_none, List.map_cons, List.map_nil, List.getD_cons_zero, List.getD_cons_succ, List.getD_nil, Nat.reduceEqDiff, Nat.reduceAdd, Nat.reduceMul, Nat.reduceSub, Nat.reduceLT, Nat.reduceLeDiff, Nat.reduceBEq, if_true, if_false, ite_true, ite_false, List.length_cons, List.length_nil, Nat.zero_add, Nat.add_zero, List.drop_zero, List.drop_succ_cons, List.take_succ_cons, List.take_zero, List.set_cons_zero, List.set_cons_succ, Int.reduceLT, Int.reduceLE, Bool.not_true, Bool.not_false, Option.isNone_some, Option.isNone_none, decide_true, decide_false, beq_self_eq_true, Bool.false_eq_true, Bool.true_eq_false, if_pos, if_neg, reduceCtorEq, beq_iff_eq, BEq.rfl, wrap_i64, wrap_i32, wrap_i8, wrap_u8, wrap_u32, wrap_u64, Nat.mul_one, Int.toNat_natCast, ints_len, List.length_map, List.length_set, beq_ft, beq_tf, List.all_cons, List.all_nil, scalar, Bool.and_self, Bool.true_and, Bool.and_true, List.size_toArray, List.getElem?_toArray, binStr, fillIn, true_and, and_true, true_or, or_true, bne_self_eq_false, Int.reduceToNat, Int.reduceAdd, Int.reduceSub, Int.reduceMul]
    refine string_ok hh h.next bb _ bd (by omega) fun h2 n2 o2 => ?_
    simp (disch := omega) only [c15, ↓c15_r0_run, ↓c15_r1_run, ↓c15_r2_run, ↓c15_r3_run, ↓c15_r4_run, ↓c15_r5_run, ↓c15_r6_run, ↓c15_r7_run, ↓RunC_seq, ↓RunC_skip, ↓RunC_ret, ↓RunC_exit, ↓RunC_region, ↓RunC_condQ, condQ_true, condQ_false, ↓RunC_block, ↓RunR_done, ↓RunR_op, ↓RunR_opg, ↓RunR_snap, ↓RunR_chk, Holds, Option.getD_none, Option.getD_some, guardR_true, guardR_false, wantV_bool, wantV_none, callvQ_eq, afterR_some, ↓seqQ_normal, ↓seqQ_ret, ↓seqQ_exit, ↓blockQ_normal, ↓blockQ_ret, ↓blockQ_exit, ↓retQ_ret, ↓retQ_normal, ↓callQ_eq, ↓loopQ_normal, ↓loopQ_ret, ↓loopQ_exit, ↓upd_same, upd_at, sel_t, sel_f, initE_at, obj_upd_same, obj_upd_ne, obj_new_same, obj_updnew_same, obj_updnew_same2, obj_new2_same, obj_new3_same, obj_newupd_same, obj_new_ne, obj_new_ne2, obj_new_ne3, obj_new_ne4, next_upd, next_new, add_plain, cop, bin, binInt, un, shiftInt, flat, read_cells, src_ro, src_fix, src_grow, get_cells, List.getElem?_cons_zero, List.getElem?_cons_succ, write_fix, write_grow, setAt, bound, eqK, elemOk_ro, elemOk_fix, elemOk_grow, stiff_ro, stiff_fix, goInt, resultsV, resV, resL, finQ_some, Option.map_some, Option.map_none, Option.bind_some, Option.bind_none, List.map_cons, List.map_nil, List.getD_cons_zero, List.getD_cons_succ, List.getD_nil, Nat.reduceEqDiff, Nat.reduceAdd, Nat.reduceMul, Nat.reduceSub, Nat.reduceLT, Nat.reduceLeDiff, Nat.reduceBEq, if_true, if_false, ite_true, ite_false, List.length_cons, List.length_nil, Nat.zero_add, Nat.add_zero, List.drop_zero, List.drop_succ_cons, List.take_succ_cons, List.take_zero, List.set_cons_zero, List.set_cons_succ, Int.reduceLT, Int.reduceLE, Bool.not_true, Bool.not_false, Option.isNone_some, Option.isNone_none, decide_true, decide_false, beq_self_eq_true, Bool.false_eq_true, Bool.true_eq_false, if_pos, if_neg, reduceCtorEq, beq_iff_eq, BEq.rfl, wrap_i64, wrap_i32, wrap_i8, wrap_u8, wrap_u32, wrap_u64, Nat.mul_one, Int.toNat_natCast, ints_len, List.length_map, List.length_set, beq_ft, beq_tf, List.all_cons, List.all_nil, scalar, Bool.and_self, Bool.true_and, Bool.and_true, List.size_toArray, List.getElem?_toArray, binStr, fillIn, true_and, and_true, true_or, or_true, bne_self_eq_false, Int.reduceToNat, Int.reduceAdd, Int.reduceSub, Int.reduceMul]
    exact hQ h2 ⟨by rw [n2]; exact old.next, fun z hz => by rw [o2 z (by omega), old.obj z hz]⟩
end Go.Proofs.YtcmanhhpfbinoaaDoor.Can
