/- Bytes put and read, in the canonical machine. No condition. -/
import Derived.Test.YtgmhgpcfkkfolaaSByt
import Derived.Test.YtgmhgpcfkkfolaaSRight
namespace Go.Proofs.Ytgmhgpcfkkfolaa.Can
open Go
set_option linter.unusedSimpArgs false
set_option linter.unusedVariables false
attribute [local congr] RunR_congr RunC_congr afterR_congr guardR_congr condQ_congr CALL_congr finQ_congr op_congr opg_congr

abbrev B8 : Enc Int := Enc.int .u8
theorem or_u64' (i : Nat) (x y : Int) (hx0 : 0 ≤ x) (hx : x % 2 ^ i = 0) (hx1 : x < 18446744073709551616) (hy0 : 0 ≤ y) (hy : y < 2 ^ i) (hy1 : y < 18446744073709551616) :
    IntKind.u64.wrap ((BitVec.ofInt IntKind.u64.bits x ||| BitVec.ofInt IntKind.u64.bits y).toNat : Int) = x + y :=
  bits_join .u64 64 (by decide) (u64_low 64 (by decide)) i x y hx0 hx (by omega) hy0 hy (by omega)
theorem put_ok (h : Heap) (H : Nat) (hH : H ≤ h.next) (v : Value) (bs : List Int) (b : Nat) (V : Vec h 5 B8 v bs b) (hb : H ≤ b) (hlen : bs.length ≤ 1000) (nb : Nat) (ns : List Int) (on : h.obj nb = .cells (ints .i64 ns) 2 .grow) (ln : nb < h.next) (nn : nb ≠ b) (hns : ns.length ≤ 9) (n64 : ∀ x ∈ ns, I64 x) {Q : Value → Heap → Prop}
    (hQ : ∀ h' v' b', Vec h' 5 B8 v' (bs ++ ns.flatMap encI) b' → h.next ≤ h'.next → H ≤ b' → (∀ z, z < H → h'.obj z = h.obj z) → Q v' h') :
    CALL cp 30 [v, .slice (some ⟨nb, 0, none⟩) ns.length ns.length] h Q := by
  rw [CALL_enter cp cp30]
  simp (disch := omega) only [c30, ↓c30_r0_run, ↓c30_r1_run, ↓c30_r2_run, ↓c30_r3_run, ↓c30_r4_run, ↓c30_r5_run, ↓c30_r7_run, ↓c30_r6_run, ↓c30_r8_run, ↓c30_r9_run, ↓RunC_seq, ↓RunC_skip, ↓RunC_ret, ↓RunC_exit, ↓RunC_region, ↓RunC_condQ, condQ_true, condQ_false, ↓RunC_block, ↓RunR_done, ↓RunR_op, ↓RunR_opg, ↓RunR_snap, ↓RunR_chk, Holds, Option.getD_none, Option.getD_some, guardR_true, guardR_false, wantV_bool, wantV_none, callvQ_eq, afterR_some, ↓seqQ_normal, ↓seqQ_ret, ↓seqQ_exit, ↓blockQ_normal, ↓blockQ_ret, ↓blockQ_exit, ↓retQ_ret, ↓retQ_normal, ↓callQ_eq, ↓loopQ_normal, ↓loopQ_ret, ↓loopQ_exit, ↓upd_same, upd_at, sel_t, sel_f, initE_at, obj_upd_same, obj_upd_ne, obj_new_same, obj_updnew_same, obj_updnew_same2, obj_new2_same, obj_new3_same, obj_newupd_same, obj_new_ne, obj_new_ne2, obj_new_ne3, obj_new_ne4, next_upd, next_new, add_plain, cop, bin, binInt, un, shiftInt, flat, read_cells, src_ro, src_fix, src_grow, get_cells, List.getElem?_cons_zero, List.getElem?_cons_succ, write_fix, write_grow, setAt, bound, eqK, elemOk_ro, elemOk_fix, elemOk_grow, stiff_ro, stiff_fix, goInt, resultsV, resV, resL, finQ_some, Option.map_some, Option.map_none, Option.bind_some, Option.bind_none, List.map_cons, List.map_nil, List.getD_cons_zero, List.getD_cons_succ, List.getD_nil, Nat.reduceEqDiff, Nat.reduceAdd, Nat.reduceMul, Nat.reduceSub, Nat.reduceLT, Nat.reduceLeDiff, Nat.reduceBEq, if_true, if_false, ite_true, ite_false, List.length_cons, List.length_nil, Nat.zero_add, Nat.add_zero, List.drop_zero, List.drop_succ_cons, List.take_succ_cons, List.take_zero, List.set_cons_zero, List.set_cons_succ, Int.reduceLT, Int.reduceLE, Bool.not_true, Bool.not_false, Option.isNone_some, Option.isNone_none, decide_true, decide_false, beq_self_eq_true, Bool.false_eq_true, Bool.true_eq_false, if_pos, if_neg, reduceCtorEq, beq_iff_eq, BEq.rfl, wrap_i64, wrap_i32, wrap_i8, wrap_u8, wrap_u32, wrap_u64, Nat.mul_one, Int.toNat_natCast, ints_len, List.length_map, List.length_set, beq_ft, beq_tf, List.all_cons, List.all_nil, scalar, Bool.and_self, Bool.true_and, Bool.and_true, List.size_toArray, List.getElem?_toArray, binStr, fillIn, true_and, and_true, true_or, or_true, bne_self_eq_false, Int.reduceToNat, Int.reduceAdd, Int.reduceSub, Int.reduceMul]
  refine RunC_loop cp c30_l1 _ (fun d e hh => ∃ (j bb : Nat) (vv : Value), j + d = ns.length ∧ h.next ≤ hh.next ∧ (∀ z, z < H → hh.obj z = h.obj z) ∧ hh.obj nb = .cells (ints .i64 ns) 2 .grow ∧ nb ≠ bb ∧ H ≤ bb ∧ Vec hh 5 B8 vv (bs ++ (ns.take j).flatMap encI) bb ∧
      e 0 = vv ∧ e 8 = .slice (some ⟨nb, 0, none⟩) ns.length ns.length ∧ e 9 = .int .i64 ns.length ∧ e 10 = .int .i64 j) ?_ ns.length _ _
    ⟨0, b, v, by omega, Nat.le_refl _, fun _ _ => rfl, on, nn, hb, by simpa using V, rfl, rfl, rfl, rfl⟩
  rintro d e hh ⟨j, bb, vv, hj, hn, ho, on, nn, hbb, V, e0, e8, e9, e10⟩
  by_cases cj : j < ns.length
  · have b1 : decide ((j : Int) < (ns.length : Int)) = true := decide_eq_true (by omega)
    have nx : (j : Int) + 1 = ((j + 1 : Nat) : Int) := by omega
    have hx : ns[j]? = some ns[j] := List.getElem?_eq_getElem cj
    obtain ⟨x, hxx⟩ : ∃ x, x = ns[j] := ⟨_, rfl⟩
    rw [← hxx] at hx
    have x64 := n64 x (List.mem_of_getElem? hx)
    have hg := ints_get .i64 _ hx
    have tk : ns.take (j + 1) = ns.take j ++ [x] := by rw [List.take_add_one, hx]; rfl
    have base : (bs ++ (ns.take j).flatMap encI).length = bs.length + 8 * j := by rw [List.length_append, flat8_len, List.length_take, Nat.min_eq_left (by omega)]
    simp (disch := omega) only [c30_l1, c30, ↓c30_r0_run, ↓c30_r1_run, ↓c30_r2_run, ↓c30_r3_run, ↓c30_r4_run, ↓c30_r5_run, ↓c30_r7_run, ↓c30_r6_run, ↓c30_r8_run, ↓c30_r9_run, e0, e8, e9, e10, b1, on, hg, ↓RunC_seq, ↓RunC_skip, ↓RunC_ret, ↓RunC_exit, ↓RunC_region, ↓RunC_condQ, condQ_true, condQ_false, ↓RunC_block, ↓RunR_done, ↓RunR_op, ↓RunR_opg, ↓RunR_snap, ↓RunR_chk, Holds, Option.getD_none, Option.getD_some, guardR_true, guardR_false, wantV_bool, wantV_none, callvQ_eq, afterR_some, ↓seqQ_normal, ↓seqQ_ret, ↓seqQ_exit, ↓blockQ_normal, ↓blockQ_ret, ↓blockQ_exit, ↓retQ_ret, ↓retQ_normal, ↓callQ_eq, ↓loopQ_normal, ↓loopQ_ret, ↓loopQ_exit, ↓upd_same, upd_at, sel_t, sel_f, initE_at, obj_upd_same, obj_upd_ne, obj_new_same, obj_updnew_same, obj_updnew_same2, obj_new2_same, obj_new3_same, obj_newupd_same, obj_new_ne, obj_new_ne2, obj_new_ne3, obj_new_ne4, next_upd, next_new, add_plain, cop, bin, binInt, un, shiftInt, flat, read_cells, src_ro, src_fix, src_grow, get_cells, List.getElem?_cons_zero, List.getElem?_cons_succ, write_fix, write_grow, setAt, bound, eqK, elemOk_ro, elemOk_fix, elemOk_grow, stiff_ro, stiff_fix, goInt, resultsV, resV, resL, finQ_some, Option.map_some, Option.map_none, Option.bind_some, Option.bind_none, List.map_cons, List.map_nil, List.getD_cons_zero, List.getD_cons_succ, List.getD_nil, Nat.reduceEqDiff, Nat.reduceAdd, Nat.reduceMul, Nat.reduceSub, Nat.reduceLT, Nat.reduceLeDiff, Nat.reduceBEq, if_true, if_false, ite_true, ite_false, List.length_cons, List.length_nil, Nat.zero_add, Nat.add_zero, List.drop_zero, List.drop_succ_cons, List.take_succ_cons, List.take_zero, List.set_cons_zero, List.set_cons_succ, Int.reduceLT, Int.reduceLE, Bool.not_true, Bool.not_false, Option.isNone_some, Option.isNone_none, decide_true, decide_false, beq_self_eq_true, Bool.false_eq_true, Bool.true_eq_false, if_pos, if_neg, reduceCtorEq, beq_iff_eq, BEq.rfl, wrap_i64, wrap_i32, wrap_i8, wrap_u8, wrap_u32, wrap_u64, Nat.mul_one, Int.toNat_natCast, ints_len, List.length_map, List.length_set, beq_ft, beq_tf, List.all_cons, List.all_nil, scalar, Bool.and_self, Bool.true_and, Bool.and_true, List.size_toArray, List.getElem?_toArray, binStr, fillIn, true_and, and_true, true_or, or_true, bne_self_eq_false, Int.reduceToNat, Int.reduceAdd, Int.reduceSub, Int.reduceMul]
    obtain ⟨B, hB⟩ : ∃ B, B = bs ++ (ns.take j).flatMap encI := ⟨_, rfl⟩
    rw [← hB] at V base
    refine RunC_loop cp c30_l0 _ (fun d2 e hq => ∃ (i bb : Nat) (vv : Value), i + d2 = 8 ∧ h.next ≤ hq.next ∧ (∀ z, z < H → hq.obj z = h.obj z) ∧ hq.obj nb = .cells (ints .i64 ns) 2 .grow ∧ nb < hq.next ∧ nb ≠ bb ∧ H ≤ bb ∧ Vec hq 5 B8 vv (B ++ (encI x).take i) bb ∧
        e 0 = vv ∧ e 6 = .int .i64 x ∧ e 7 = .int .i64 (56 - 8 * (i : Int)) ∧ e 8 = .slice (some ⟨nb, 0, none⟩) ns.length ns.length ∧ e 9 = .int .i64 ns.length ∧ e 10 = .int .i64 j) ?_ 8 _ _
      ⟨0, bb, vv, by omega, hn, ho, on, by omega, nn, hbb, by simpa using V, e0, rfl, rfl, e8, e9, e10⟩
    clear e0 e8 e9 e10 V on nn hbb ho hn
    rintro d2 e hq ⟨i, bb, vv, hi, hn, ho, on, ln, nn, hbb, V, e0, e6, e7, e8, e9, e10⟩
    by_cases ci : i < 8
    · have b2 : decide (56 - 8 * (i : Int) ≥ 0) = true := decide_eq_true (by omega)
      obtain ⟨k, hk⟩ : ∃ k : Nat, (56 : Int) - 8 * (i : Int) = k := ⟨(56 - 8 * (i : Int)).toNat, by omega⟩
      have nxk : (k : Int) - 8 = 56 - 8 * ((i + 1 : Nat) : Int) := by omega
      rw [hk] at e7 b2
      have sh := fun y : Int => shr_k .u64 y k (by show k ≤ 64; omega)
      obtain ⟨c, hc⟩ : ∃ c, c = x % 18446744073709551616 / 2 ^ k % 256 := ⟨_, rfl⟩
      have gi : (encI x)[i]? = some c := by
        unfold encI
        rw [encN_get 8 _ i ci, hc]
        have : (256 : Int) ^ (8 - 1 - i) = 2 ^ k := by
          have : i = 0 ∨ i = 1 ∨ i = 2 ∨ i = 3 ∨ i = 4 ∨ i = 5 ∨ i = 6 ∨ i = 7 := by omega
          rcases this with rfl | rfl | rfl | rfl | rfl | rfl | rfl | rfl
          · obtain rfl : k = 56 := by omega
            decide
          · obtain rfl : k = 48 := by omega
            decide
          · obtain rfl : k = 40 := by omega
            decide
          · obtain rfl : k = 32 := by omega
            decide
          · obtain rfl : k = 24 := by omega
            decide
          · obtain rfl : k = 16 := by omega
            decide
          · obtain rfl : k = 8 := by omega
            decide
          · obtain rfl : k = 0 := by omega
            decide
        rw [this]
      have tki : (encI x).take (i + 1) = (encI x).take i ++ [c] := by rw [List.take_add_one, gi]; rfl
      have il : ((encI x).take i).length = i := by rw [List.length_take, encI_len]; omega
      simp (disch := omega) only [c30_l0, c30, ↓c30_r0_run, ↓c30_r1_run, ↓c30_r2_run, ↓c30_r3_run, ↓c30_r4_run, ↓c30_r5_run, ↓c30_r7_run, ↓c30_r6_run, ↓c30_r8_run, ↓c30_r9_run, e0, e6, e7, e8, e9, e10, b2, sh, wu64, wu8, ← hc, reps, List.append_nil, ↓RunC_seq, ↓RunC_skip, ↓RunC_ret, ↓RunC_exit, ↓RunC_region, ↓RunC_condQ, condQ_true, condQ_false, ↓RunC_block, ↓RunR_done, ↓RunR_op, ↓RunR_opg, ↓RunR_snap, ↓RunR_chk, Holds, Option.getD_none, Option.getD_some, guardR_true, guardR_false, wantV_bool, wantV_none, callvQ_eq, afterR_some, ↓seqQ_normal, ↓seqQ_ret, ↓seqQ_exit, ↓blockQ_normal, ↓blockQ_ret, ↓blockQ_exit, ↓retQ_ret, ↓retQ_normal, ↓callQ_eq, ↓loopQ_normal, ↓loopQ_ret, ↓loopQ_exit, ↓upd_same, upd_at, sel_t, sel_f, initE_at, obj_upd_same, obj_upd_ne, obj_new_same, obj_updnew_same, obj_updnew_same2, obj_new2_same, obj_new3_same, obj_newupd_same, obj_new_ne, obj_new_ne2, obj_new_ne3, obj_new_ne4, next_upd, next_new, add_plain, cop, bin, binInt, un, shiftInt, flat, read_cells, src_ro, src_fix, src_grow, get_cells, List.getElem?_cons_zero, List.getElem?_cons_succ, write_fix, write_grow, setAt, bound, eqK, elemOk_ro, elemOk_fix, elemOk_grow, stiff_ro, stiff_fix, goInt, resultsV, resV, resL, finQ_some, Option.map_some, Option.map_none, Option.bind_some, Option.bind_none, List.map_cons, List.map_nil, List.getD_cons_zero, List.getD_cons_succ, List.getD_nil, Nat.reduceEqDiff, Nat.reduceAdd, Nat.reduceMul, Nat.reduceSub, Nat.reduceLT, Nat.reduceLeDiff, Nat.reduceBEq, if_true, if_false, ite_true, ite_false, List.length_cons, List.length_nil, Nat.zero_add, Nat.add_zero, List.drop_zero, List.drop_succ_cons, List.take_succ_cons, List.take_zero, List.set_cons_zero, List.set_cons_succ, Int.reduceLT, Int.reduceLE, Bool.not_true, Bool.not_false, Option.isNone_some, Option.isNone_none, decide_true, decide_false, beq_self_eq_true, Bool.false_eq_true, Bool.true_eq_false, if_pos, if_neg, reduceCtorEq, beq_iff_eq, BEq.rfl, wrap_i64, wrap_i32, wrap_i8, wrap_u8, wrap_u32, wrap_u64, Nat.mul_one, Int.toNat_natCast, ints_len, List.length_map, List.length_set, beq_ft, beq_tf, List.all_cons, List.all_nil, scalar, Bool.and_self, Bool.true_and, Bool.and_true, List.size_toArray, List.getElem?_toArray, binStr, fillIn, true_and, and_true, true_or, or_true, bne_self_eq_false, Int.reduceToNat, Int.reduceAdd, Int.reduceSub, Int.reduceMul]
      have V2 : Vec (hq.new (.cells (B8.enc c) 5 .grow)) 5 B8 vv (B ++ (encI x).take i) bb := by
        rcases V.ne hq.next (Nat.le_refl _) with hv | hne
        · subst hv
          rcases V with ⟨_, hl⟩ | ⟨_, _, hv, _⟩
          · rw [hl]; exact Vec.nil _ _ _ _
          · simp at hv
        · exact V.keep (Nat.le_succ _) fun hb => obj_new_ne _ _ (Ne.symm hne)
      refine V2.app (m := [c]) rfl (src_enc B8 hq c 5 1) (by rw [List.length_singleton, List.length_append, il]; omega) (by rw [List.length_singleton, List.length_append, il]; omega) fun v' h' b' V3 hn' hb' ho' => ?_
      have hn'' : hq.next + 1 ≤ h'.next := hn'
      have vne : vv = .slice none 0 0 ∨ nb ≠ bb := .inr nn
      have o2 : h'.obj nb = .cells (ints .i64 ns) 2 .grow := (ho' nb (by show nb < hq.next + 1; omega) (.inr nn)).trans ((obj_new_ne _ _ (by omega)).trans on)
      simp (disch := omega) only [c30, ↓c30_r0_run, ↓c30_r1_run, ↓c30_r2_run, ↓c30_r3_run, ↓c30_r4_run, ↓c30_r5_run, ↓c30_r7_run, ↓c30_r6_run, ↓c30_r8_run, ↓c30_r9_run, e0, e6, e7, e8, e9, e10, nxk, ↓RunC_seq, ↓RunC_skip, ↓RunC_ret, ↓RunC_exit, ↓RunC_region, ↓RunC_condQ, condQ_true, condQ_false, ↓RunC_block, ↓RunR_done, ↓RunR_op, ↓RunR_opg, ↓RunR_snap, ↓RunR_chk, Holds, Option.getD_none, Option.getD_some, guardR_true, guardR_false, wantV_bool, wantV_none, callvQ_eq, afterR_some, ↓seqQ_normal, ↓seqQ_ret, ↓seqQ_exit, ↓blockQ_normal, ↓blockQ_ret, ↓blockQ_exit, ↓retQ_ret, ↓retQ_normal, ↓callQ_eq, ↓loopQ_normal, ↓loopQ_ret, ↓loopQ_exit, ↓upd_same, upd_at, sel_t, sel_f, initE_at, obj_upd_same, obj_upd_ne, obj_new_same, obj_updnew_same, obj_updnew_same2, obj_new2_same, obj_new3_same, obj_newupd_same, obj_new_ne, obj_new_ne2, obj_new_ne3, obj_new_ne4, next_upd, next_new, add_plain, cop, bin, binInt, un, shiftInt, flat, read_cells, src_ro, src_fix, src_grow, get_cells, List.getElem?_cons_zero, List.getElem?_cons_succ, write_fix, write_grow, setAt, bound, eqK, elemOk_ro, elemOk_fix, elemOk_grow, stiff_ro, stiff_fix, goInt, resultsV, resV, resL, finQ_some, Option.map_some, Option.map_none, Option.bind_some, Option.bind_none, List.map_cons, List.map_nil, List.getD_cons_zero, List.getD_cons_succ, List.getD_nil, Nat.reduceEqDiff, Nat.reduceAdd, Nat.reduceMul, Nat.reduceSub, Nat.reduceLT, Nat.reduceLeDiff, Nat.reduceBEq, if_true, if_false, ite_true, ite_false, List.length_cons, List.length_nil, Nat.zero_add, Nat.add_zero, List.drop_zero, List.drop_succ_cons, List.take_succ_cons, List.take_zero, List.set_cons_zero, List.set_cons_succ, Int.reduceLT, Int.reduceLE, Bool.not_true, Bool.not_false, Option.isNone_some, Option.isNone_none, decide_true, decide_false, beq_self_eq_true, Bool.false_eq_true, Bool.true_eq_false, if_pos, if_neg, reduceCtorEq, beq_iff_eq, BEq.rfl, wrap_i64, wrap_i32, wrap_i8, wrap_u8, wrap_u32, wrap_u64, Nat.mul_one, Int.toNat_natCast, ints_len, List.length_map, List.length_set, beq_ft, beq_tf, List.all_cons, List.all_nil, scalar, Bool.and_self, Bool.true_and, Bool.and_true, List.size_toArray, List.getElem?_toArray, binStr, fillIn, true_and, and_true, true_or, or_true, bne_self_eq_false, Int.reduceToNat, Int.reduceAdd, Int.reduceSub, Int.reduceMul]
      refine ⟨d2 - 1, by omega, i + 1, b', v', by omega, by omega, fun z hz => ?_, o2, by omega, ?_, ?_, ?_, ?_⟩
      · rw [ho' z (by show z < hq.next + 1; omega) (.inr (by omega)), obj_new_ne _ _ (by omega), ho z hz]
      · rcases hb' with rfl | hb'
        · exact nn
        · have : hq.next + 1 ≤ b' := hb'
          omega
      · rcases hb' with rfl | hb'
        · exact hbb
        · have : hq.next + 1 ≤ b' := hb'
          omega
      · rw [tki, ← List.append_assoc]; exact V3
      · repeat' first | assumption | rfl | apply And.intro
    · have b2 : decide (56 - 8 * (i : Int) ≥ 0) = false := decide_eq_false (by omega)
      obtain rfl : i = 8 := by omega
      rw [List.take_of_length_le (by rw [encI_len]; exact Nat.le_refl _)] at V
      simp (disch := omega) only [c30_l0, c30, ↓c30_r0_run, ↓c30_r1_run, ↓c30_r2_run, ↓c30_r3_run, ↓c30_r4_run, ↓c30_r5_run, ↓c30_r7_run, ↓c30_r6_run, ↓c30_r8_run, ↓c30_r9_run, e0, e6, e7, e8, e9, e10, b2, nx, ↓RunC_seq, ↓RunC_skip, ↓RunC_ret, ↓RunC_exit, ↓RunC_region, ↓RunC_condQ, condQ_true, condQ_false, ↓RunC_block, ↓RunR_done, ↓RunR_op, ↓RunR_opg, ↓RunR_snap, ↓RunR_chk, Holds, Option.getD_none, Option.getD_some, guardR_true, guardR_false, wantV_bool, wantV_none, callvQ_eq, afterR_some, ↓seqQ_normal, ↓seqQ_ret, ↓seqQ_exit, ↓blockQ_normal, ↓blockQ_ret, ↓blockQ_exit, ↓retQ_ret, ↓retQ_normal, ↓callQ_eq, ↓loopQ_normal, ↓loopQ_ret, ↓loopQ_exit, ↓upd_same, upd_at, sel_t, sel_f, initE_at, obj_upd_same, obj_upd_ne, obj_new_same, obj_updnew_same, obj_updnew_same2, obj_new2_same, obj_new3_same, obj_newupd_same, obj_new_ne, obj_new_ne2, obj_new_ne3, obj_new_ne4, next_upd, next_new, add_plain, cop, bin, binInt, un, shiftInt, flat, read_cells, src_ro, src_fix, src_grow, get_cells, List.getElem?_cons_zero, List.getElem?_cons_succ, write_fix, write_grow, setAt, bound, eqK, elemOk_ro, elemOk_fix, elemOk_grow, stiff_ro, stiff_fix, goInt, resultsV, resV, resL, finQ_some, Option.map_some, Option.map_none, Option.bind_some, Option.bind_none, List.map_cons, List.map_nil, List.getD_cons_zero, List.getD_cons_succ, List.getD_nil, Nat.reduceEqDiff, Nat.reduceAdd, Nat.reduceMul, Nat.reduceSub, Nat.reduceLT, Nat.reduceLeDiff, Nat.reduceBEq, if_true, if_false, ite_true, ite_false, List.length_cons, List.length_nil, Nat.zero_add, Nat.add_zero, List.drop_zero, List.drop_succ_cons, List.take_succ_cons, List.take_zero, List.set_cons_zero, List.set_cons_succ, Int.reduceLT, Int.reduceLE, Bool.not_true, Bool.not_false, Option.isNone_some, Option.isNone_none, decide_true, decide_false, beq_self_eq_true, Bool.false_eq_true, Bool.true_eq_false, if_pos, if_neg, reduceCtorEq, beq_iff_eq, BEq.rfl, wrap_i64, wrap_i32, wrap_i8, wrap_u8, wrap_u32, wrap_u64, Nat.mul_one, Int.toNat_natCast, ints_len, List.length_map, List.length_set, beq_ft, beq_tf, List.all_cons, List.all_nil, scalar, Bool.and_self, Bool.true_and, Bool.and_true, List.size_toArray, List.getElem?_toArray, binStr, fillIn, true_and, and_true, true_or, or_true, bne_self_eq_false, Int.reduceToNat, Int.reduceAdd, Int.reduceSub, Int.reduceMul]
      refine ⟨d - 1, by omega, j + 1, bb, vv, by omega, hn, ho, on, nn, hbb, ?_, ?_⟩
      · rw [tk, List.flatMap_append, ← List.append_assoc, ← hB]
        simpa using V
      · repeat' first | assumption | rfl | apply And.intro
  · have b1 : decide ((j : Int) < (ns.length : Int)) = false := decide_eq_false (by omega)
    obtain rfl : j = ns.length := by omega
    rw [List.take_length] at V
    simp (disch := omega) only [c30_l1, c30, ↓c30_r0_run, ↓c30_r1_run, ↓c30_r2_run, ↓c30_r3_run, ↓c30_r4_run, ↓c30_r5_run, ↓c30_r7_run, ↓c30_r6_run, ↓c30_r8_run, ↓c30_r9_run, e0, e8, e9, e10, b1, ↓RunC_seq, ↓RunC_skip, ↓RunC_ret, ↓RunC_exit, ↓RunC_region, ↓RunC_condQ, condQ_true, condQ_false, ↓RunC_block, ↓RunR_done, ↓RunR_op, ↓RunR_opg, ↓RunR_snap, ↓RunR_chk, Holds, Option.getD_none, Option.getD_some, guardR_true, guardR_false, wantV_bool, wantV_none, callvQ_eq, afterR_some, ↓seqQ_normal, ↓seqQ_ret, ↓seqQ_exit, ↓blockQ_normal, ↓blockQ_ret, ↓blockQ_exit, ↓retQ_ret, ↓retQ_normal, ↓callQ_eq, ↓loopQ_normal, ↓loopQ_ret, ↓loopQ_exit, ↓upd_same, upd_at, sel_t, sel_f, initE_at, obj_upd_same, obj_upd_ne, obj_new_same, obj_updnew_same, obj_updnew_same2, obj_new2_same, obj_new3_same, obj_newupd_same, obj_new_ne, obj_new_ne2, obj_new_ne3, obj_new_ne4, next_upd, next_new, add_plain, cop, bin, binInt, un, shiftInt, flat, read_cells, src_ro, src_fix, src_grow, get_cells, List.getElem?_cons_zero, List.getElem?_cons_succ, write_fix, write_grow, setAt, bound, eqK, elemOk_ro, elemOk_fix, elemOk_grow, stiff_ro, stiff_fix, goInt, resultsV, resV, resL, finQ_some, Option.map_some, Option.map_none, Option.bind_some, Option.bind_none, List.map_cons, List.map_nil, List.getD_cons_zero, List.getD_cons_succ, List.getD_nil, Nat.reduceEqDiff, Nat.reduceAdd, Nat.reduceMul, Nat.reduceSub, Nat.reduceLT, Nat.reduceLeDiff, Nat.reduceBEq, if_true, if_false, ite_true, ite_false, List.length_cons, List.length_nil, Nat.zero_add, Nat.add_zero, List.drop_zero, List.drop_succ_cons, List.take_succ_cons, List.take_zero, List.set_cons_zero, List.set_cons_succ, Int.reduceLT, Int.reduceLE, Bool.not_true, Bool.not_false, Option.isNone_some, Option.isNone_none, decide_true, decide_false, beq_self_eq_true, Bool.false_eq_true, Bool.true_eq_false, if_pos, if_neg, reduceCtorEq, beq_iff_eq, BEq.rfl, wrap_i64, wrap_i32, wrap_i8, wrap_u8, wrap_u32, wrap_u64, Nat.mul_one, Int.toNat_natCast, ints_len, List.length_map, List.length_set, beq_ft, beq_tf, List.all_cons, List.all_nil, scalar, Bool.and_self, Bool.true_and, Bool.and_true, List.size_toArray, List.getElem?_toArray, binStr, fillIn, true_and, and_true, true_or, or_true, bne_self_eq_false, Int.reduceToNat, Int.reduceAdd, Int.reduceSub, Int.reduceMul]
    exact hQ _ _ _ V hn hbb ho
/-- Bytes that are read from a place on. -/
structure DecAt (h : Heap) (pb pa bb : Nat) (v : Value) (bs : List Int) (k : Nat) : Prop where
  ob : h.obj pb = .cells [v] 40 .fix
  oa : h.obj pa = .cells [.int .i64 k] 3 .fix
  la : pa < h.next
  lb : pb < h.next
  ab : pa ≠ pb
  V : Vec h 5 B8 v bs bb
  bne : bb ≠ pa
theorem next_ok {h : Heap} {pb pa bb : Nat} {v : Value} {bs : List Int} {k : Nat} (D : DecAt h pb pa bb v bs k) (hk : k + 8 ≤ bs.length) (hl : bs.length ≤ 1000) (byt : Byts bs) {Q : Value → Heap → Prop}
    (hQ : ∀ h', DecAt h' pb pa bb v bs (k + 8) → h'.next = h.next → (∀ x, x ≠ pa → h'.obj x = h.obj x) → Q (.int .i64 (decI ((bs.drop k).take 8))) h') :
    CALL cp 31 [.pointer (some ⟨pb, 0, none⟩), .pointer (some ⟨pa, 0, none⟩)] h Q := by
  rw [CALL_enter cp cp31]
  obtain ⟨ob, oa, la, lb, ab, V, bne⟩ := D
  obtain ⟨cap, rest, rfl, hbb, hob, _, hcap⟩ := V.at (by omega)
  have el : (h.obj bb).elemOk 5 = true := by rw [hob]; rfl
  have n8 : (k : Int) + 8 = ((k + 8 : Nat) : Int) := by omega
  have s8 : k + 8 - k = 8 := by omega
  simp (disch := omega) only [c31, ↓c31_r0_run, ↓c31_r1_run, ↓c31_r2_run, ↓c31_r3_run, ↓c31_r4_run, ↓c31_r5_run, ↓c31_r6_run, ↓c31_r7_run, ↓c31_r8_run, ob, oa, el, n8, s8, Nat.mul_one, ↓RunC_seq, ↓RunC_skip, ↓RunC_ret, ↓RunC_exit, ↓RunC_region, ↓RunC_condQ, condQ_true, condQ_false, ↓RunC_block, ↓RunR_done, ↓RunR_op, ↓RunR_opg, ↓RunR_snap, ↓RunR_chk, Holds, Option.getD_none, Option.getD_some, guardR_true, guardR_false, wantV_bool, wantV_none, callvQ_eq, afterR_some, ↓seqQ_normal, ↓seqQ_ret, ↓seqQ_exit, ↓blockQ_normal, ↓blockQ_ret, ↓blockQ_exit, ↓retQ_ret, ↓retQ_normal, ↓callQ_eq, ↓loopQ_normal, ↓loopQ_ret, ↓loopQ_exit, ↓upd_same, upd_at, sel_t, sel_f, initE_at, obj_upd_same, obj_upd_ne, obj_new_same, obj_updnew_same, obj_updnew_same2, obj_new2_same, obj_new3_same, obj_newupd_same, obj_new_ne, obj_new_ne2, obj_new_ne3, obj_new_ne4, next_upd, next_new, add_plain, cop, bin, binInt, un, shiftInt, flat, read_cells, src_ro, src_fix, src_grow, get_cells, List.getElem?_cons_zero, List.getElem?_cons_succ, write_fix, write_grow, setAt, bound, eqK, elemOk_ro, elemOk_fix, elemOk_grow, stiff_ro, stiff_fix, goInt, resultsV, resV, resL, finQ_some, Option.map_some, Option.map_none, Option.bind_some, Option.bind_none, List.map_cons, List.map_nil, List.getD_cons_zero, List.getD_cons_succ, List.getD_nil, Nat.reduceEqDiff, Nat.reduceAdd, Nat.reduceMul, Nat.reduceSub, Nat.reduceLT, Nat.reduceLeDiff, Nat.reduceBEq, if_true, if_false, ite_true, ite_false, List.length_cons, List.length_nil, Nat.zero_add, Nat.add_zero, List.drop_zero, List.drop_succ_cons, List.take_succ_cons, List.take_zero, List.set_cons_zero, List.set_cons_succ, Int.reduceLT, Int.reduceLE, Bool.not_true, Bool.not_false, Option.isNone_some, Option.isNone_none, decide_true, decide_false, beq_self_eq_true, Bool.false_eq_true, Bool.true_eq_false, if_pos, if_neg, reduceCtorEq, beq_iff_eq, BEq.rfl, wrap_i64, wrap_i32, wrap_i8, wrap_u8, wrap_u32, wrap_u64, Nat.mul_one, Int.toNat_natCast, ints_len, List.length_map, List.length_set, beq_ft, beq_tf, List.all_cons, List.all_nil, scalar, Bool.and_self, Bool.true_and, Bool.and_true, List.size_toArray, List.getElem?_toArray, binStr, fillIn, true_and, and_true, true_or, or_true, bne_self_eq_false, Int.reduceToNat, Int.reduceAdd, Int.reduceSub, Int.reduceMul]
  refine RunC_loop cp c31_l0 _ (fun d e hh => ∃ i : Nat, i + d = 8 ∧ hh = h ∧ e 0 = .pointer (some ⟨pb, 0, none⟩) ∧ e 1 = .pointer (some ⟨pa, 0, none⟩) ∧ e 3 = .int .u64 (decN ((bs.drop k).take i)) ∧ e 10 = .slice (some ⟨bb, k, none⟩) 8 (cap - k) ∧ e 11 = .int .i64 8 ∧ e 12 = .int .i64 i) ?_ 8 _ _
    ⟨0, by omega, rfl, rfl, rfl, by simp [decN, Env.upd], rfl, rfl, rfl⟩
  rintro d e hh ⟨i, hi, rfl, e0, e1, e3, e10, e11, e12⟩
  by_cases ci : i < 8
  · have b1 : decide ((i : Int) < 8) = true := decide_eq_true (by omega)
    have nx : (i : Int) + 1 = ((i + 1 : Nat) : Int) := by omega
    have hx : bs[k + i]? = some bs[k + i] := List.getElem?_eq_getElem (by omega)
    obtain ⟨c, hc⟩ : ∃ c, c = bs[k + i] := ⟨_, rfl⟩
    rw [← hc] at hx
    have cr := byt c (List.mem_of_getElem? hx)
    obtain ⟨_, _, hg⟩ := V.get1 hx
    have s8' := fun x : Int => shl_k .u64 x 8 (by decide)
    have p8 : (2 : Int) ^ 8 = 256 := by decide
    have tk : (bs.drop k).take (i + 1) = (bs.drop k).take i ++ [c] := by rw [List.take_add_one, List.getElem?_drop, hx]; rfl
    have bt : Byts ((bs.drop k).take i) := fun y hy => byt y (List.mem_of_mem_drop (List.mem_of_mem_take hy))
    have il : ((bs.drop k).take i).length = i := by rw [List.length_take, List.length_drop]; omega
    have rg := decN_range i _ il bt
    have pw : (256 : Int) ^ i ≤ 72057594037927936 := by
      have : i = 0 ∨ i = 1 ∨ i = 2 ∨ i = 3 ∨ i = 4 ∨ i = 5 ∨ i = 6 ∨ i = 7 := by omega
      rcases this with rfl | rfl | rfl | rfl | rfl | rfl | rfl | rfl <;> decide
    obtain ⟨x, hxd⟩ : ∃ x, x = decN ((bs.drop k).take i) := ⟨_, rfl⟩
    rw [← hxd] at rg e3
    have nxd : decN ((bs.drop k).take (i + 1)) = x * 256 + c := by rw [tk, decN_snoc, hxd]
    have eor : IntKind.u64.wrap ((BitVec.ofInt IntKind.u64.bits (x * 256) ||| BitVec.ofInt IntKind.u64.bits c).toNat : Int) = decN ((bs.drop k).take (i + 1)) := by
      rw [nxd]
      exact or_u64' 8 _ _ (by omega) (by rw [p8]; omega) (by omega) (by omega) (by rw [p8]; omega) (by omega)
    simp (disch := omega) only [c31_l0, c31, ↓c31_r0_run, ↓c31_r1_run, ↓c31_r2_run, ↓c31_r3_run, ↓c31_r4_run, ↓c31_r5_run, ↓c31_r6_run, ↓c31_r7_run, ↓c31_r8_run, e0, e1, e3, e10, e11, e12, b1, hg, s8', p8, eor, nx, Nat.mul_one, ↓RunC_seq, ↓RunC_skip, ↓RunC_ret, ↓RunC_exit, ↓RunC_region, ↓RunC_condQ, condQ_true, condQ_false, ↓RunC_block, ↓RunR_done, ↓RunR_op, ↓RunR_opg, ↓RunR_snap, ↓RunR_chk, Holds, Option.getD_none, Option.getD_some, guardR_true, guardR_false, wantV_bool, wantV_none, callvQ_eq, afterR_some, ↓seqQ_normal, ↓seqQ_ret, ↓seqQ_exit, ↓blockQ_normal, ↓blockQ_ret, ↓blockQ_exit, ↓retQ_ret, ↓retQ_normal, ↓callQ_eq, ↓loopQ_normal, ↓loopQ_ret, ↓loopQ_exit, ↓upd_same, upd_at, sel_t, sel_f, initE_at, obj_upd_same, obj_upd_ne, obj_new_same, obj_updnew_same, obj_updnew_same2, obj_new2_same, obj_new3_same, obj_newupd_same, obj_new_ne, obj_new_ne2, obj_new_ne3, obj_new_ne4, next_upd, next_new, add_plain, cop, bin, binInt, un, shiftInt, flat, read_cells, src_ro, src_fix, src_grow, get_cells, List.getElem?_cons_zero, List.getElem?_cons_succ, write_fix, write_grow, setAt, bound, eqK, elemOk_ro, elemOk_fix, elemOk_grow, stiff_ro, stiff_fix, goInt, resultsV, resV, resL, finQ_some, Option.map_some, Option.map_none, Option.bind_some, Option.bind_none, List.map_cons, List.map_nil, List.getD_cons_zero, List.getD_cons_succ, List.getD_nil, Nat.reduceEqDiff, Nat.reduceAdd, Nat.reduceMul, Nat.reduceSub, Nat.reduceLT, Nat.reduceLeDiff, Nat.reduceBEq, if_true, if_false, ite_true, ite_false, List.length_cons, List.length_nil, Nat.zero_add, Nat.add_zero, List.drop_zero, List.drop_succ_cons, List.take_succ_cons, List.take_zero, List.set_cons_zero, List.set_cons_succ, Int.reduceLT, Int.reduceLE, Bool.not_true, Bool.not_false, Option.isNone_some, Option.isNone_none, decide_true, decide_false, beq_self_eq_true, Bool.false_eq_true, Bool.true_eq_false, if_pos, if_neg, reduceCtorEq, beq_iff_eq, BEq.rfl, wrap_i64, wrap_i32, wrap_i8, wrap_u8, wrap_u32, wrap_u64, Nat.mul_one, Int.toNat_natCast, ints_len, List.length_map, List.length_set, beq_ft, beq_tf, List.all_cons, List.all_nil, scalar, Bool.and_self, Bool.true_and, Bool.and_true, List.size_toArray, List.getElem?_toArray, binStr, fillIn, true_and, and_true, true_or, or_true, bne_self_eq_false, Int.reduceToNat, Int.reduceAdd, Int.reduceSub, Int.reduceMul]
    refine ⟨d - 1, by omega, i + 1, by omega, rfl, ?_⟩
    repeat' first | assumption | rfl | apply And.intro
  · have b1 : decide ((i : Int) < 8) = false := decide_eq_false (by omega)
    obtain rfl : i = 8 := by omega
    simp (disch := omega) only [c31_l0, c31, ↓c31_r0_run, ↓c31_r1_run, ↓c31_r2_run, ↓c31_r3_run, ↓c31_r4_run, ↓c31_r5_run, ↓c31_r6_run, ↓c31_r7_run, ↓c31_r8_run, e0, e1, e3, e10, e11, e12, b1, oa, n8, ↓RunC_seq, ↓RunC_skip, ↓RunC_ret, ↓RunC_exit, ↓RunC_region, ↓RunC_condQ, condQ_true, condQ_false, ↓RunC_block, ↓RunR_done, ↓RunR_op, ↓RunR_opg, ↓RunR_snap, ↓RunR_chk, Holds, Option.getD_none, Option.getD_some, guardR_true, guardR_false, wantV_bool, wantV_none, callvQ_eq, afterR_some, ↓seqQ_normal, ↓seqQ_ret, ↓seqQ_exit, ↓blockQ_normal, ↓blockQ_ret, ↓blockQ_exit, ↓retQ_ret, ↓retQ_normal, ↓callQ_eq, ↓loopQ_normal, ↓loopQ_ret, ↓loopQ_exit, ↓upd_same, upd_at, sel_t, sel_f, initE_at, obj_upd_same, obj_upd_ne, obj_new_same, obj_updnew_same, obj_updnew_same2, obj_new2_same, obj_new3_same, obj_newupd_same, obj_new_ne, obj_new_ne2, obj_new_ne3, obj_new_ne4, next_upd, next_new, add_plain, cop, bin, binInt, un, shiftInt, flat, read_cells, src_ro, src_fix, src_grow, get_cells, List.getElem?_cons_zero, List.getElem?_cons_succ, write_fix, write_grow, setAt, bound, eqK, elemOk_ro, elemOk_fix, elemOk_grow, stiff_ro, stiff_fix, goInt, resultsV, resV, resL, finQ_some, Option.map_some, Option.map_none, Option.bind_some, Option.bind_none, List.map_cons, List.map_nil, List.getD_cons_zero, List.getD_cons_succ, List.getD_nil, Nat.reduceEqDiff, Nat.reduceAdd, Nat.reduceMul, Nat.reduceSub, Nat.reduceLT, Nat.reduceLeDiff, Nat.reduceBEq, if_true, if_false, ite_true, ite_false, List.length_cons, List.length_nil, Nat.zero_add, Nat.add_zero, List.drop_zero, List.drop_succ_cons, List.take_succ_cons, List.take_zero, List.set_cons_zero, List.set_cons_succ, Int.reduceLT, Int.reduceLE, Bool.not_true, Bool.not_false, Option.isNone_some, Option.isNone_none, decide_true, decide_false, beq_self_eq_true, Bool.false_eq_true, Bool.true_eq_false, if_pos, if_neg, reduceCtorEq, beq_iff_eq, BEq.rfl, wrap_i64, wrap_i32, wrap_i8, wrap_u8, wrap_u32, wrap_u64, Nat.mul_one, Int.toNat_natCast, ints_len, List.length_map, List.length_set, beq_ft, beq_tf, List.all_cons, List.all_nil, scalar, Bool.and_self, Bool.true_and, Bool.and_true, List.size_toArray, List.getElem?_toArray, binStr, fillIn, true_and, and_true, true_or, or_true, bne_self_eq_false, Int.reduceToNat, Int.reduceAdd, Int.reduceSub, Int.reduceMul]
    refine hQ _ ⟨?_, ?_, la, lb, ab, ?_, bne⟩ rfl fun x hx => obj_upd_ne _ _ hx
    · rw [obj_upd_ne _ _ (Ne.symm ab)]; exact ob
    · exact obj_upd_same _ _ _
    · exact V.keep (Nat.le_refl _) fun _ => obj_upd_ne _ _ bne
end Go.Proofs.Ytgmhgpcfkkfolaa.Can
