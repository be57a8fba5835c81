/- What the laws on rings share, in the canonical machine. No condition. -/
import Derived.Test.YtcmdehfbidgoeaaSRingWait
namespace Go.Proofs.Ytcmdehfbidgoeaa.Can
open Go
set_option linter.unusedSimpArgs false
set_option linter.unusedVariables false
attribute [local congr] RunR_congr RunC_congr afterR_congr guardR_congr condQ_congr CALL_congr finQ_congr op_congr opg_congr

theorem U64s.of {l : List Int} (h : ∀ x ∈ l, (Lit.int .u64 x).wf = true) : U64s l := fun x hx => wf_u64 (h x hx)
theorem wf64 {x : Int} (h : (Lit.int .i64 x).wf = true) : I64 x := by have := wf_i64 h; unfold I64 at *; omega
theorem OldR.fresh {r : RP} {a b c : Heap} (o : OldR r b c) (ab : Old a b) (n1 : a.next ≤ r.x) (n2 : a.next ≤ r.tb) (n3 : ∀ i, i < r.N → a.next ≤ r.nbs i) : Old a c :=
  ⟨Nat.le_trans ab.next o.next, fun x hx => by rw [o.obj x (Nat.lt_of_lt_of_le hx ab.next) (by omega) (by omega) (fun i hi => by have := n3 i hi; omega), ab.obj x hx]⟩
/-! ### counters that are no less than 0 -/
def Pos (cs : Nat → List Int) : Prop := ∀ i j, 0 ≤ ctr (cs i) j ∧ ctr (cs i) j ≤ 9223372036854775807
theorem ctr_zero (n j : Nat) : ctr (List.replicate n 0) j = 0 := by
  unfold ctr
  rw [List.getElem?_replicate]
  split <;> rfl
theorem Pos.zero (n : Nat) : Pos fun _ => List.replicate n 0 := fun i j => by rw [ctr_zero]; omega
theorem addC_pos {c : List Int} (h : ∀ j, 0 ≤ ctr c j ∧ ctr c j ≤ 9223372036854775807) (f : Nat → Nat) (R : Nat) (cost : Int) (j : Nat) : 0 ≤ ctr (addC c f R cost) j ∧ ctr (addC c f R cost) j ≤ 9223372036854775807 := by
  have h1 := addC_up c f R cost j
  have h0 := h j
  refine ⟨by omega, ?_⟩
  unfold addC
  split
  · exact h0.2
  · have h2 := addN_top c f (near (leastN c f (R - 1) + cost)) R j
    have h3 := near_in (leastN c f (R - 1) + cost)
    unfold I64 at h3
    omega
theorem baseC_pos {cs : Nat → List Int} (h : Pos cs) (r : RP) (st : List Int) (n : Int) (j : Nat) : 0 ≤ ctr (baseC r st cs n) j ∧ ctr (baseC r st cs n) j ≤ 9223372036854775807 := by
  unfold baseC
  split
  · exact h _ _
  · rw [ctr_zero]; omega
theorem Pos.put {cs : Nat → List Int} (h : Pos cs) (i : Nat) {c : List Int} (hc : ∀ j, 0 ≤ ctr c j ∧ ctr c j ≤ 9223372036854775807) : Pos (putC cs i c) := fun k j => by
  unfold putC
  split
  · exact hc j
  · exact h k j
theorem Pos.add {cs : Nat → List Int} (h : Pos cs) (r : RP) (st : List Int) (n : Int) (f : Nat → Nat) (cost : Int) : Pos (putC cs (pl r n) (addC (baseC r st cs n) f r.rows.length cost)) := h.put _ (addC_pos (baseC_pos h r st n) _ _ _)
theorem Pos.least {cs : Nat → List Int} (h : Pos cs) (r : RP) (st : List Int) (key : ByteArray) : ∀ i, 0 ≤ leastAt r st cs key i ∧ leastAt r st cs key i ≤ 9223372036854775807 := fun i => by
  unfold leastAt
  split
  · obtain ⟨k, _, e⟩ := leastN_is (cs (pl r i)) (ix r.rows r.w key) (r.rows.length - 1)
    rw [e]; exact h _ _
  · omega
theorem setAll {st : List Int} (P : Int → Prop) (h : ∀ s ∈ st, P s) (i : Nat) {x : Int} (hx : P x) : ∀ s ∈ st.set i x, P s := fun s hs => by
  rcases List.mem_or_eq_of_mem_set hs with h1 | h1
  · exact h s h1
  · rw [h1]; exact hx
theorem ctr_mem {st : List Int} (P : Int → Prop) (h : ∀ s ∈ st, P s) (h0 : P 0) (i : Nat) : P (ctr st i) := by
  unfold ctr
  cases e : st[i]? with
  | none => exact h0
  | some v => exact h v (List.mem_of_getElem? e)
/-- What holds of a ring's numbers all along. -/
structure OkR (r : RP) (now : Int) (st : List Int) (cs : Nat → List Int) : Prop where
  now0 : 0 ≤ now
  pos : Pos cs
  st0 : ∀ s ∈ st, 0 ≤ s ∧ s ≤ now / r.W + 1
theorem OkR.to {r : RP} {now : Int} {st : List Int} {cs : Nat → List Int} (k : OkR r now st cs) {t : Int} (h : now ≤ t) (hW : 1 ≤ r.W) : OkR r t st cs := by
  refine ⟨Int.le_trans k.now0 h, k.pos, fun s hs => ?_⟩
  have h1 := k.st0 s hs
  have h2 := Int.ediv_le_ediv (show 0 < r.W by omega) h
  omega
theorem OkR.add {r : RP} {now : Int} {st : List Int} {cs : Nat → List Int} (k : OkR r now st cs) (hW : 1 ≤ r.W) (f : Nat → Nat) (cost : Int) : OkR r now (st.set (pl r (now / r.W)) (now / r.W + 1)) (putC cs (pl r (now / r.W)) (addC (baseC r st cs (now / r.W)) f r.rows.length cost)) := by
  have h0 : 0 ≤ now / r.W := Int.ediv_nonneg k.now0 (by omega)
  exact ⟨k.now0, k.pos.add _ _ _ _ _, setAll _ k.st0 _ (by omega)⟩
theorem OkR.zero (r : RP) (n m : Nat) : OkR r 0 (List.replicate n 0) (fun _ => List.replicate m 0) :=
  ⟨Int.le_refl 0, Pos.zero m, fun s hs => by rw [(List.mem_replicate.1 hs).2, Int.zero_ediv]; omega⟩
/-- Slots ahead are not alive. -/
theorem OkR.ahead {r : RP} {now : Int} {st : List Int} {cs : Nat → List Int} (k : OkR r now st cs) (hW : 1 ≤ r.W) (key : ByteArray) {n : Int} (h : now / r.W < n) : leastAt r st cs key n = 0 := by
  unfold leastAt
  rw [if_neg]
  rintro ⟨_, h1⟩
  have h0 : 0 ≤ now / r.W := Int.ediv_nonneg k.now0 (by omega)
  have := ctr_mem (fun s => s ≤ now / r.W + 1) (fun s hs => (k.st0 s hs).2) (by omega) (pl r n)
  omega
/-! ### the example -/
theorem fit_ok (h : Heap) {Q : Value → Heap → Prop} (hQ : ∀ h', Old h h' → Q (.bool true) h') : CALL cp 10 [] h Q := by
  rw [CALL_enter cp cp10]
  simp (disch := first | omega | (simp only [next_new, next_upd, ne_eq]; omega)) only [c10, ↓c10_r0_run, ↓c10_r1_run, ↓c10_r2_run, ↓c10_r3_run, ↓c10_r4_run, ↓c10_r5_run, ↓c10_r6_run, ↓c10_r7_run, ↓c10_r8_run, ↓c10_r9_run, ↓RunC_seq, ↓RunC_skip, ↓RunC_ret, ↓RunC_exit, ↓RunC_region, ↓RunC_condQ, condQ_true, condQ_false, ↓RunC_block, ↓RunR_done, ↓RunR_op, ↓RunR_opg, ↓RunR_snap, ↓RunR_chk, Holds, Option.getD_none, Option.getD_some, guardR_true, guardR_false, wantV_bool, wantV_none, callvQ_eq, afterR_some, ↓seqQ_normal, ↓seqQ_ret, ↓seqQ_exit, ↓blockQ_normal, ↓blockQ_ret, ↓blockQ_exit, ↓retQ_ret, ↓retQ_normal, ↓callQ_eq, ↓loopQ_normal, ↓loopQ_ret, ↓loopQ_exit, ↓upd_same, upd_at, sel_t, sel_f, initE_at, obj_upd_same, obj_upd_ne, obj_new_same, obj_updnew_same, obj_updnew_same2, obj_new2_same, obj_new3_same, obj_newupd_same, obj_new_ne, obj_new_ne2, obj_new_ne3, obj_new_ne4, next_upd, next_new, add_plain, cop, bin, binInt, un, shiftInt, flat, read_cells, src_ro, src_fix, src_grow, get_cells, List.getElem?_cons_zero, List.getElem?_cons_succ, write_fix, write_grow, setAt, bound, eqK, elemOk_ro, elemOk_fix, elemOk_grow, stiff_ro, stiff_fix, goInt, resultsV, resV, resL, finQ_some, Option.map_some, Option.map_none, Option.bind_some, Option.bind_none, List.map_cons, List.map_nil, List.getD_cons_zero, List.getD_cons_succ, List.getD_nil, Nat.reduceEqDiff, Nat.reduceAdd, Nat.reduceMul, Nat.reduceSub, Nat.reduceLT, Nat.reduceLeDiff, Nat.reduceBEq, if_true, if_false, ite_true, ite_false, List.length_cons, List.length_nil, Nat.zero_add, Nat.add_zero, List.drop_zero, List.drop_succ_cons, List.take_succ_cons, List.take_zero, List.set_cons_zero, List.set_cons_succ, Int.reduceLT, Int.reduceLE, Bool.not_true, Bool.not_false, Option.isNone_some, Option.isNone_none, decide_true, decide_false, beq_self_eq_true, Bool.false_eq_true, Bool.true_eq_false, if_pos, if_neg, reduceCtorEq, beq_iff_eq, BEq.rfl, wrap_i64, wrap_i32, wrap_i8, wrap_u8, wrap_u32, wrap_u64, Nat.mul_one, Int.toNat_natCast, ints_len, List.length_map, List.length_set, beq_ft, beq_tf, List.all_cons, List.all_nil, scalar, Bool.and_self, Bool.true_and, Bool.and_true, List.size_toArray, List.getElem?_toArray, binStr, fillIn, true_and, and_true, true_or, or_true, bne_self_eq_false, Int.reduceToNat, Int.reduceAdd, Int.reduceSub, Int.reduceMul]
  refine rows_ok h [] (fun x hx => by simp at hx) _ (Lst.nil _ _) 1 (by omega) fun h1 rv rb o1 V hb => ?_
  simp (disch := first | omega | (simp only [next_new, next_upd, ne_eq]; omega)) only [c10, ↓c10_r0_run, ↓c10_r1_run, ↓c10_r2_run, ↓c10_r3_run, ↓c10_r4_run, ↓c10_r5_run, ↓c10_r6_run, ↓c10_r7_run, ↓c10_r8_run, ↓c10_r9_run, ↓RunC_seq, ↓RunC_skip, ↓RunC_ret, ↓RunC_exit, ↓RunC_region, ↓RunC_condQ, condQ_true, condQ_false, ↓RunC_block, ↓RunR_done, ↓RunR_op, ↓RunR_opg, ↓RunR_snap, ↓RunR_chk, Holds, Option.getD_none, Option.getD_some, guardR_true, guardR_false, wantV_bool, wantV_none, callvQ_eq, afterR_some, ↓seqQ_normal, ↓seqQ_ret, ↓seqQ_exit, ↓blockQ_normal, ↓blockQ_ret, ↓blockQ_exit, ↓retQ_ret, ↓retQ_normal, ↓callQ_eq, ↓loopQ_normal, ↓loopQ_ret, ↓loopQ_exit, ↓upd_same, upd_at, sel_t, sel_f, initE_at, obj_upd_same, obj_upd_ne, obj_new_same, obj_updnew_same, obj_updnew_same2, obj_new2_same, obj_new3_same, obj_newupd_same, obj_new_ne, obj_new_ne2, obj_new_ne3, obj_new_ne4, next_upd, next_new, add_plain, cop, bin, binInt, un, shiftInt, flat, read_cells, src_ro, src_fix, src_grow, get_cells, List.getElem?_cons_zero, List.getElem?_cons_succ, write_fix, write_grow, setAt, bound, eqK, elemOk_ro, elemOk_fix, elemOk_grow, stiff_ro, stiff_fix, goInt, resultsV, resV, resL, finQ_some, Option.map_some, Option.map_none, Option.bind_some, Option.bind_none, List.map_cons, List.map_nil, List.getD_cons_zero, List.getD_cons_succ, List.getD_nil, Nat.reduceEqDiff, Nat.reduceAdd, Nat.reduceMul, Nat.reduceSub, Nat.reduceLT, Nat.reduceLeDiff, Nat.reduceBEq, if_true, if_false, ite_true, ite_false, List.length_cons, List.length_nil, Nat.zero_add, Nat.add_zero, List.drop_zero, List.drop_succ_cons, List.take_succ_cons, List.take_zero, List.set_cons_zero, List.set_cons_succ, Int.reduceLT, Int.reduceLE, Bool.not_true, Bool.not_false, Option.isNone_some, Option.isNone_none, decide_true, decide_false, beq_self_eq_true, Bool.false_eq_true, Bool.true_eq_false, if_pos, if_neg, reduceCtorEq, beq_iff_eq, BEq.rfl, wrap_i64, wrap_i32, wrap_i8, wrap_u8, wrap_u32, wrap_u64, Nat.mul_one, Int.toNat_natCast, ints_len, List.length_map, List.length_set, beq_ft, beq_tf, List.all_cons, List.all_nil, scalar, Bool.and_self, Bool.true_and, Bool.and_true, List.size_toArray, List.getElem?_toArray, binStr, fillIn, true_and, and_true, true_or, or_true, bne_self_eq_false, Int.reduceToNat, Int.reduceAdd, Int.reduceSub, Int.reduceMul]
  have hl : (rowsN [] (Int.toNat 1)).length = 1 := rowsN_len _ _
  refine rnew_ok h1 rv rb _ V (rowsN_ok _ _) (by omega) 9 10 0 0 0 0 5 4 false (by omega) (by omega) (by omega) (by omega) (by unfold I64; omega) fun h2 r o2 R eN ew eW eL ep er n1 n2 n3 => ?_
  have eW : r.W = 2 := eW
  have eN : r.N = 6 := eN
  have hrr : r.rows.length = 1 := by rw [er]; exact hl
  simp (disch := first | omega | (simp only [next_new, next_upd, ne_eq]; omega)) only [c10, ↓c10_r0_run, ↓c10_r1_run, ↓c10_r2_run, ↓c10_r3_run, ↓c10_r4_run, ↓c10_r5_run, ↓c10_r6_run, ↓c10_r7_run, ↓c10_r8_run, ↓c10_r9_run, eqS, ↓RunC_seq, ↓RunC_skip, ↓RunC_ret, ↓RunC_exit, ↓RunC_region, ↓RunC_condQ, condQ_true, condQ_false, ↓RunC_block, ↓RunR_done, ↓RunR_op, ↓RunR_opg, ↓RunR_snap, ↓RunR_chk, Holds, Option.getD_none, Option.getD_some, guardR_true, guardR_false, wantV_bool, wantV_none, callvQ_eq, afterR_some, ↓seqQ_normal, ↓seqQ_ret, ↓seqQ_exit, ↓blockQ_normal, ↓blockQ_ret, ↓blockQ_exit, ↓retQ_ret, ↓retQ_normal, ↓callQ_eq, ↓loopQ_normal, ↓loopQ_ret, ↓loopQ_exit, ↓upd_same, upd_at, sel_t, sel_f, initE_at, obj_upd_same, obj_upd_ne, obj_new_same, obj_updnew_same, obj_updnew_same2, obj_new2_same, obj_new3_same, obj_newupd_same, obj_new_ne, obj_new_ne2, obj_new_ne3, obj_new_ne4, next_upd, next_new, add_plain, cop, bin, binInt, un, shiftInt, flat, read_cells, src_ro, src_fix, src_grow, get_cells, List.getElem?_cons_zero, List.getElem?_cons_succ, write_fix, write_grow, setAt, bound, eqK, elemOk_ro, elemOk_fix, elemOk_grow, stiff_ro, stiff_fix, goInt, resultsV, resV, resL, finQ_some, Option.map_some, Option.map_none, Option.bind_some, Option.bind_none, List.map_cons, List.map_nil, List.getD_cons_zero, List.getD_cons_succ, List.getD_nil, Nat.reduceEqDiff, Nat.reduceAdd, Nat.reduceMul, Nat.reduceSub, Nat.reduceLT, Nat.reduceLeDiff, Nat.reduceBEq, if_true, if_false, ite_true, ite_false, List.length_cons, List.length_nil, Nat.zero_add, Nat.add_zero, List.drop_zero, List.drop_succ_cons, List.take_succ_cons, List.take_zero, List.set_cons_zero, List.set_cons_succ, Int.reduceLT, Int.reduceLE, Bool.not_true, Bool.not_false, Option.isNone_some, Option.isNone_none, decide_true, decide_false, beq_self_eq_true, Bool.false_eq_true, Bool.true_eq_false, if_pos, if_neg, reduceCtorEq, beq_iff_eq, BEq.rfl, wrap_i64, wrap_i32, wrap_i8, wrap_u8, wrap_u32, wrap_u64, Nat.mul_one, Int.toNat_natCast, ints_len, List.length_map, List.length_set, beq_ft, beq_tf, List.all_cons, List.all_nil, scalar, Bool.and_self, Bool.true_and, Bool.and_true, List.size_toArray, List.getElem?_toArray, binStr, fillIn, true_and, and_true, true_or, or_true, bne_self_eq_false, Int.reduceToNat, Int.reduceAdd, Int.reduceSub, Int.reduceMul]
  refine to_ok R 1 fun h3 o3 R => ?_
  have R : RingAt h3 r 1 _ _ := R
  have e0 : (1 : Int) / r.W = 0 := by rw [eW]; rfl
  have p0 : pl r 0 = 0 := by unfold pl; rw [eN]; rfl
  simp (disch := first | omega | (simp only [next_new, next_upd, ne_eq]; omega)) only [c10, ↓c10_r0_run, ↓c10_r1_run, ↓c10_r2_run, ↓c10_r3_run, ↓c10_r4_run, ↓c10_r5_run, ↓c10_r6_run, ↓c10_r7_run, ↓c10_r8_run, ↓c10_r9_run, ↓RunC_seq, ↓RunC_skip, ↓RunC_ret, ↓RunC_exit, ↓RunC_region, ↓RunC_condQ, condQ_true, condQ_false, ↓RunC_block, ↓RunR_done, ↓RunR_op, ↓RunR_opg, ↓RunR_snap, ↓RunR_chk, Holds, Option.getD_none, Option.getD_some, guardR_true, guardR_false, wantV_bool, wantV_none, callvQ_eq, afterR_some, ↓seqQ_normal, ↓seqQ_ret, ↓seqQ_exit, ↓blockQ_normal, ↓blockQ_ret, ↓blockQ_exit, ↓retQ_ret, ↓retQ_normal, ↓callQ_eq, ↓loopQ_normal, ↓loopQ_ret, ↓loopQ_exit, ↓upd_same, upd_at, sel_t, sel_f, initE_at, obj_upd_same, obj_upd_ne, obj_new_same, obj_updnew_same, obj_updnew_same2, obj_new2_same, obj_new3_same, obj_newupd_same, obj_new_ne, obj_new_ne2, obj_new_ne3, obj_new_ne4, next_upd, next_new, add_plain, cop, bin, binInt, un, shiftInt, flat, read_cells, src_ro, src_fix, src_grow, get_cells, List.getElem?_cons_zero, List.getElem?_cons_succ, write_fix, write_grow, setAt, bound, eqK, elemOk_ro, elemOk_fix, elemOk_grow, stiff_ro, stiff_fix, goInt, resultsV, resV, resL, finQ_some, Option.map_some, Option.map_none, Option.bind_some, Option.bind_none, List.map_cons, List.map_nil, List.getD_cons_zero, List.getD_cons_succ, List.getD_nil, Nat.reduceEqDiff, Nat.reduceAdd, Nat.reduceMul, Nat.reduceSub, Nat.reduceLT, Nat.reduceLeDiff, Nat.reduceBEq, if_true, if_false, ite_true, ite_false, List.length_cons, List.length_nil, Nat.zero_add, Nat.add_zero, List.drop_zero, List.drop_succ_cons, List.take_succ_cons, List.take_zero, List.set_cons_zero, List.set_cons_succ, Int.reduceLT, Int.reduceLE, Bool.not_true, Bool.not_false, Option.isNone_some, Option.isNone_none, decide_true, decide_false, beq_self_eq_true, Bool.false_eq_true, Bool.true_eq_false, if_pos, if_neg, reduceCtorEq, beq_iff_eq, BEq.rfl, wrap_i64, wrap_i32, wrap_i8, wrap_u8, wrap_u32, wrap_u64, Nat.mul_one, Int.toNat_natCast, ints_len, List.length_map, List.length_set, beq_ft, beq_tf, List.all_cons, List.all_nil, scalar, Bool.and_self, Bool.true_and, Bool.and_true, List.size_toArray, List.getElem?_toArray, binStr, fillIn, true_and, and_true, true_or, or_true, bne_self_eq_false, Int.reduceToNat, Int.reduceAdd, Int.reduceSub, Int.reduceMul]
  refine radd_ok R (by omega) ⟨#[97]⟩ (by decide) 3 (by unfold I64; omega) fun h4 o4 R => ?_
  have ba : baseC r (List.replicate (5 + 1) 0) (fun x => List.replicate ((rowsN [] (Int.toNat 1)).length * 4) 0) 0 = List.replicate ((rowsN [] (Int.toNat 1)).length * 4) 0 := by unfold baseC; split; rfl; rw [er, ew]
  rw [e0, p0, ba] at R
  have st1 : (List.replicate (5 + 1) (0 : Int)).set 0 (0 + 1) = [1, 0, 0, 0, 0, 0] := by decide
  rw [st1] at R
  have u := (uni_zero ((rowsN [] (Int.toNat 1)).length * 4) (ix r.rows r.w ⟨#[97]⟩) r.rows.length).add (by omega) (by omega) (fun i hi => by
    have := mul_lt_succ (R := r.rows.length) hi (bkt_lt (r.rows[i]?.getD (0, 0, 0)) ⟨#[97]⟩ (show 1 ≤ r.w by omega))
    rw [List.length_replicate, ← er, show 4 = r.w from ew.symm]; exact this) 3
  rw [if_neg (by omega), near_eq (by unfold I64; omega)] at u
  obtain ⟨cs, hcs⟩ : ∃ cs, cs = putC (fun _ => List.replicate ((rowsN [] (Int.toNat 1)).length * 4) 0) 0 (addC (List.replicate ((rowsN [] (Int.toNat 1)).length * 4) 0) (ix r.rows r.w ⟨#[97]⟩) r.rows.length 3) := ⟨_, rfl⟩
  have ps : Pos cs := by rw [hcs]; exact (Pos.zero _).put 0 (addC_pos (fun j => by rw [ctr_zero]; omega) _ _ _)
  have c0 : leastN (cs 0) (ix r.rows r.w ⟨#[97]⟩) (r.rows.length - 1) = 3 := by rw [hcs]; exact u.least (by omega)
  rw [← hcs] at R
  clear hcs u
  have la0 : leastAt r [1, 0, 0, 0, 0, 0] cs ⟨#[97]⟩ 0 = 3 := by
    unfold leastAt
    rw [if_pos ⟨by omega, by rw [p0]; rfl⟩, p0, c0]
  have la : ∀ n : Int, 1 ≤ n ∧ n ≤ 6 → leastAt r [1, 0, 0, 0, 0, 0] cs ⟨#[97]⟩ n = 0 := fun n hn => by
    unfold leastAt
    rw [if_neg]
    rintro ⟨_, h⟩
    unfold pl at h
    rw [eN] at h
    have : n = 1 ∨ n = 2 ∨ n = 3 ∨ n = 4 ∨ n = 5 ∨ n = 6 := by omega
    rcases this with rfl | rfl | rfl | rfl | rfl | rfl <;> revert h <;> decide
  have pos := ps.least r [1, 0, 0, 0, 0, 0] ⟨#[97]⟩
  simp (disch := first | omega | (simp only [next_new, next_upd, ne_eq]; omega)) only [c10, ↓c10_r0_run, ↓c10_r1_run, ↓c10_r2_run, ↓c10_r3_run, ↓c10_r4_run, ↓c10_r5_run, ↓c10_r6_run, ↓c10_r7_run, ↓c10_r8_run, ↓c10_r9_run, ↓RunC_seq, ↓RunC_skip, ↓RunC_ret, ↓RunC_exit, ↓RunC_region, ↓RunC_condQ, condQ_true, condQ_false, ↓RunC_block, ↓RunR_done, ↓RunR_op, ↓RunR_opg, ↓RunR_snap, ↓RunR_chk, Holds, Option.getD_none, Option.getD_some, guardR_true, guardR_false, wantV_bool, wantV_none, callvQ_eq, afterR_some, ↓seqQ_normal, ↓seqQ_ret, ↓seqQ_exit, ↓blockQ_normal, ↓blockQ_ret, ↓blockQ_exit, ↓retQ_ret, ↓retQ_normal, ↓callQ_eq, ↓loopQ_normal, ↓loopQ_ret, ↓loopQ_exit, ↓upd_same, upd_at, sel_t, sel_f, initE_at, obj_upd_same, obj_upd_ne, obj_new_same, obj_updnew_same, obj_updnew_same2, obj_new2_same, obj_new3_same, obj_newupd_same, obj_new_ne, obj_new_ne2, obj_new_ne3, obj_new_ne4, next_upd, next_new, add_plain, cop, bin, binInt, un, shiftInt, flat, read_cells, src_ro, src_fix, src_grow, get_cells, List.getElem?_cons_zero, List.getElem?_cons_succ, write_fix, write_grow, setAt, bound, eqK, elemOk_ro, elemOk_fix, elemOk_grow, stiff_ro, stiff_fix, goInt, resultsV, resV, resL, finQ_some, Option.map_some, Option.map_none, Option.bind_some, Option.bind_none, List.map_cons, List.map_nil, List.getD_cons_zero, List.getD_cons_succ, List.getD_nil, Nat.reduceEqDiff, Nat.reduceAdd, Nat.reduceMul, Nat.reduceSub, Nat.reduceLT, Nat.reduceLeDiff, Nat.reduceBEq, if_true, if_false, ite_true, ite_false, List.length_cons, List.length_nil, Nat.zero_add, Nat.add_zero, List.drop_zero, List.drop_succ_cons, List.take_succ_cons, List.take_zero, List.set_cons_zero, List.set_cons_succ, Int.reduceLT, Int.reduceLE, Bool.not_true, Bool.not_false, Option.isNone_some, Option.isNone_none, decide_true, decide_false, beq_self_eq_true, Bool.false_eq_true, Bool.true_eq_false, if_pos, if_neg, reduceCtorEq, beq_iff_eq, BEq.rfl, wrap_i64, wrap_i32, wrap_i8, wrap_u8, wrap_u32, wrap_u64, Nat.mul_one, Int.toNat_natCast, ints_len, List.length_map, List.length_set, beq_ft, beq_tf, List.all_cons, List.all_nil, scalar, Bool.and_self, Bool.true_and, Bool.and_true, List.size_toArray, List.getElem?_toArray, binStr, fillIn, true_and, and_true, true_or, or_true, bne_self_eq_false, Int.reduceToNat, Int.reduceAdd, Int.reduceSub, Int.reduceMul]
  refine to_ok R 11 fun h5 o5 R => ?_
  have R : RingAt h5 r 11 _ _ := R
  simp (disch := first | omega | (simp only [next_new, next_upd, ne_eq]; omega)) only [c10, ↓c10_r0_run, ↓c10_r1_run, ↓c10_r2_run, ↓c10_r3_run, ↓c10_r4_run, ↓c10_r5_run, ↓c10_r6_run, ↓c10_r7_run, ↓c10_r8_run, ↓c10_r9_run, ↓RunC_seq, ↓RunC_skip, ↓RunC_ret, ↓RunC_exit, ↓RunC_region, ↓RunC_condQ, condQ_true, condQ_false, ↓RunC_block, ↓RunR_done, ↓RunR_op, ↓RunR_opg, ↓RunR_snap, ↓RunR_chk, Holds, Option.getD_none, Option.getD_some, guardR_true, guardR_false, wantV_bool, wantV_none, callvQ_eq, afterR_some, ↓seqQ_normal, ↓seqQ_ret, ↓seqQ_exit, ↓blockQ_normal, ↓blockQ_ret, ↓blockQ_exit, ↓retQ_ret, ↓retQ_normal, ↓callQ_eq, ↓loopQ_normal, ↓loopQ_ret, ↓loopQ_exit, ↓upd_same, upd_at, sel_t, sel_f, initE_at, obj_upd_same, obj_upd_ne, obj_new_same, obj_updnew_same, obj_updnew_same2, obj_new2_same, obj_new3_same, obj_newupd_same, obj_new_ne, obj_new_ne2, obj_new_ne3, obj_new_ne4, next_upd, next_new, add_plain, cop, bin, binInt, un, shiftInt, flat, read_cells, src_ro, src_fix, src_grow, get_cells, List.getElem?_cons_zero, List.getElem?_cons_succ, write_fix, write_grow, setAt, bound, eqK, elemOk_ro, elemOk_fix, elemOk_grow, stiff_ro, stiff_fix, goInt, resultsV, resV, resL, finQ_some, Option.map_some, Option.map_none, Option.bind_some, Option.bind_none, List.map_cons, List.map_nil, List.getD_cons_zero, List.getD_cons_succ, List.getD_nil, Nat.reduceEqDiff, Nat.reduceAdd, Nat.reduceMul, Nat.reduceSub, Nat.reduceLT, Nat.reduceLeDiff, Nat.reduceBEq, if_true, if_false, ite_true, ite_false, List.length_cons, List.length_nil, Nat.zero_add, Nat.add_zero, List.drop_zero, List.drop_succ_cons, List.take_succ_cons, List.take_zero, List.set_cons_zero, List.set_cons_succ, Int.reduceLT, Int.reduceLE, Bool.not_true, Bool.not_false, Option.isNone_some, Option.isNone_none, decide_true, decide_false, beq_self_eq_true, Bool.false_eq_true, Bool.true_eq_false, if_pos, if_neg, reduceCtorEq, beq_iff_eq, BEq.rfl, wrap_i64, wrap_i32, wrap_i8, wrap_u8, wrap_u32, wrap_u64, Nat.mul_one, Int.toNat_natCast, ints_len, List.length_map, List.length_set, beq_ft, beq_tf, List.all_cons, List.all_nil, scalar, Bool.and_self, Bool.true_and, Bool.and_true, List.size_toArray, List.getElem?_toArray, binStr, fillIn, true_and, and_true, true_or, or_true, bne_self_eq_false, Int.reduceToNat, Int.reduceAdd, Int.reduceSub, Int.reduceMul]
  refine estimate_ok R (by omega) ⟨#[97]⟩ (by decide) pos fun h6 o6 => ?_
  have R := R.old o6
  have es : estN r 11 [1, 0, 0, 0, 0, 0] cs ⟨#[97]⟩ = 3 := by
    unfold estN
    rw [eW, eN, show (11 : Int) / 2 = 5 from rfl]
    simp only [fromN, termN, eN, eldN, ep, la0, la, if_true, if_false, Nat.succ_ne_zero, Nat.reduceAdd, show ((5 : Int) - ((6 : Nat) : Int) + 1 + ((0 : Nat) : Int)) = 0 from rfl, show ((5 : Int) - ((6 : Nat) : Int) + 1 + ((1 : Nat) : Int)) = 1 from rfl, show ((5 : Int) - ((6 : Nat) : Int) + 1 + ((2 : Nat) : Int)) = 2 from rfl, show ((5 : Int) - ((6 : Nat) : Int) + 1 + ((3 : Nat) : Int)) = 3 from rfl, show ((5 : Int) - ((6 : Nat) : Int) + 1 + ((4 : Nat) : Int)) = 4 from rfl, show ((5 : Int) - ((6 : Nat) : Int) + 1 + ((5 : Nat) : Int)) = 5 from rfl, la 1 (by omega), la 2 (by omega), la 3 (by omega), la 4 (by omega), la 5 (by omega)]
    rfl
  rw [es]
  simp (disch := first | omega | (simp only [next_new, next_upd, ne_eq]; omega)) only [c10, ↓c10_r0_run, ↓c10_r1_run, ↓c10_r2_run, ↓c10_r3_run, ↓c10_r4_run, ↓c10_r5_run, ↓c10_r6_run, ↓c10_r7_run, ↓c10_r8_run, ↓c10_r9_run, ↓RunC_seq, ↓RunC_skip, ↓RunC_ret, ↓RunC_exit, ↓RunC_region, ↓RunC_condQ, condQ_true, condQ_false, ↓RunC_block, ↓RunR_done, ↓RunR_op, ↓RunR_opg, ↓RunR_snap, ↓RunR_chk, Holds, Option.getD_none, Option.getD_some, guardR_true, guardR_false, wantV_bool, wantV_none, callvQ_eq, afterR_some, ↓seqQ_normal, ↓seqQ_ret, ↓seqQ_exit, ↓blockQ_normal, ↓blockQ_ret, ↓blockQ_exit, ↓retQ_ret, ↓retQ_normal, ↓callQ_eq, ↓loopQ_normal, ↓loopQ_ret, ↓loopQ_exit, ↓upd_same, upd_at, sel_t, sel_f, initE_at, obj_upd_same, obj_upd_ne, obj_new_same, obj_updnew_same, obj_updnew_same2, obj_new2_same, obj_new3_same, obj_newupd_same, obj_new_ne, obj_new_ne2, obj_new_ne3, obj_new_ne4, next_upd, next_new, add_plain, cop, bin, binInt, un, shiftInt, flat, read_cells, src_ro, src_fix, src_grow, get_cells, List.getElem?_cons_zero, List.getElem?_cons_succ, write_fix, write_grow, setAt, bound, eqK, elemOk_ro, elemOk_fix, elemOk_grow, stiff_ro, stiff_fix, goInt, resultsV, resV, resL, finQ_some, Option.map_some, Option.map_none, Option.bind_some, Option.bind_none, List.map_cons, List.map_nil, List.getD_cons_zero, List.getD_cons_succ, List.getD_nil, Nat.reduceEqDiff, Nat.reduceAdd, Nat.reduceMul, Nat.reduceSub, Nat.reduceLT, Nat.reduceLeDiff, Nat.reduceBEq, if_true, if_false, ite_true, ite_false, List.length_cons, List.length_nil, Nat.zero_add, Nat.add_zero, List.drop_zero, List.drop_succ_cons, List.take_succ_cons, List.take_zero, List.set_cons_zero, List.set_cons_succ, Int.reduceLT, Int.reduceLE, Bool.not_true, Bool.not_false, Option.isNone_some, Option.isNone_none, decide_true, decide_false, beq_self_eq_true, Bool.false_eq_true, Bool.true_eq_false, if_pos, if_neg, reduceCtorEq, beq_iff_eq, BEq.rfl, wrap_i64, wrap_i32, wrap_i8, wrap_u8, wrap_u32, wrap_u64, Nat.mul_one, Int.toNat_natCast, ints_len, List.length_map, List.length_set, beq_ft, beq_tf, List.all_cons, List.all_nil, scalar, Bool.and_self, Bool.true_and, Bool.and_true, List.size_toArray, List.getElem?_toArray, binStr, fillIn, true_and, and_true, true_or, or_true, bne_self_eq_false, Int.reduceToNat, Int.reduceAdd, Int.reduceSub, Int.reduceMul]
  refine to_ok R 12 fun h7 o7 R => ?_
  have R : RingAt h7 r 12 _ _ := R
  simp (disch := first | omega | (simp only [next_new, next_upd, ne_eq]; omega)) only [c10, ↓c10_r0_run, ↓c10_r1_run, ↓c10_r2_run, ↓c10_r3_run, ↓c10_r4_run, ↓c10_r5_run, ↓c10_r6_run, ↓c10_r7_run, ↓c10_r8_run, ↓c10_r9_run, ↓RunC_seq, ↓RunC_skip, ↓RunC_ret, ↓RunC_exit, ↓RunC_region, ↓RunC_condQ, condQ_true, condQ_false, ↓RunC_block, ↓RunR_done, ↓RunR_op, ↓RunR_opg, ↓RunR_snap, ↓RunR_chk, Holds, Option.getD_none, Option.getD_some, guardR_true, guardR_false, wantV_bool, wantV_none, callvQ_eq, afterR_some, ↓seqQ_normal, ↓seqQ_ret, ↓seqQ_exit, ↓blockQ_normal, ↓blockQ_ret, ↓blockQ_exit, ↓retQ_ret, ↓retQ_normal, ↓callQ_eq, ↓loopQ_normal, ↓loopQ_ret, ↓loopQ_exit, ↓upd_same, upd_at, sel_t, sel_f, initE_at, obj_upd_same, obj_upd_ne, obj_new_same, obj_updnew_same, obj_updnew_same2, obj_new2_same, obj_new3_same, obj_newupd_same, obj_new_ne, obj_new_ne2, obj_new_ne3, obj_new_ne4, next_upd, next_new, add_plain, cop, bin, binInt, un, shiftInt, flat, read_cells, src_ro, src_fix, src_grow, get_cells, List.getElem?_cons_zero, List.getElem?_cons_succ, write_fix, write_grow, setAt, bound, eqK, elemOk_ro, elemOk_fix, elemOk_grow, stiff_ro, stiff_fix, goInt, resultsV, resV, resL, finQ_some, Option.map_some, Option.map_none, Option.bind_some, Option.bind_none, List.map_cons, List.map_nil, List.getD_cons_zero, List.getD_cons_succ, List.getD_nil, Nat.reduceEqDiff, Nat.reduceAdd, Nat.reduceMul, Nat.reduceSub, Nat.reduceLT, Nat.reduceLeDiff, Nat.reduceBEq, if_true, if_false, ite_true, ite_false, List.length_cons, List.length_nil, Nat.zero_add, Nat.add_zero, List.drop_zero, List.drop_succ_cons, List.take_succ_cons, List.take_zero, List.set_cons_zero, List.set_cons_succ, Int.reduceLT, Int.reduceLE, Bool.not_true, Bool.not_false, Option.isNone_some, Option.isNone_none, decide_true, decide_false, beq_self_eq_true, Bool.false_eq_true, Bool.true_eq_false, if_pos, if_neg, reduceCtorEq, beq_iff_eq, BEq.rfl, wrap_i64, wrap_i32, wrap_i8, wrap_u8, wrap_u32, wrap_u64, Nat.mul_one, Int.toNat_natCast, ints_len, List.length_map, List.length_set, beq_ft, beq_tf, List.all_cons, List.all_nil, scalar, Bool.and_self, Bool.true_and, Bool.and_true, List.size_toArray, List.getElem?_toArray, binStr, fillIn, true_and, and_true, true_or, or_true, bne_self_eq_false, Int.reduceToNat, Int.reduceAdd, Int.reduceSub, Int.reduceMul]
  refine estimate_ok R (by omega) ⟨#[97]⟩ (by decide) pos fun h8 o8 => ?_
  have es : estN r 12 [1, 0, 0, 0, 0, 0] cs ⟨#[97]⟩ = 0 := by
    unfold estN
    rw [eW, eN, show (12 : Int) / 2 = 6 from rfl]
    simp only [fromN, termN, eN, eldN, ep, la0, la, if_true, if_false, Nat.succ_ne_zero, Nat.reduceAdd, show ((6 : Int) - ((6 : Nat) : Int) + 1 + ((0 : Nat) : Int)) = 1 from rfl, show ((6 : Int) - ((6 : Nat) : Int) + 1 + ((1 : Nat) : Int)) = 2 from rfl, show ((6 : Int) - ((6 : Nat) : Int) + 1 + ((2 : Nat) : Int)) = 3 from rfl, show ((6 : Int) - ((6 : Nat) : Int) + 1 + ((3 : Nat) : Int)) = 4 from rfl, show ((6 : Int) - ((6 : Nat) : Int) + 1 + ((4 : Nat) : Int)) = 5 from rfl, show ((6 : Int) - ((6 : Nat) : Int) + 1 + ((5 : Nat) : Int)) = 6 from rfl, la 1 (by omega), la 2 (by omega), la 3 (by omega), la 4 (by omega), la 5 (by omega), la 6 (by omega)]
    rfl
  rw [es]
  simp (disch := first | omega | (simp only [next_new, next_upd, ne_eq]; omega)) only [c10, ↓c10_r0_run, ↓c10_r1_run, ↓c10_r2_run, ↓c10_r3_run, ↓c10_r4_run, ↓c10_r5_run, ↓c10_r6_run, ↓c10_r7_run, ↓c10_r8_run, ↓c10_r9_run, ↓RunC_seq, ↓RunC_skip, ↓RunC_ret, ↓RunC_exit, ↓RunC_region, ↓RunC_condQ, condQ_true, condQ_false, ↓RunC_block, ↓RunR_done, ↓RunR_op, ↓RunR_opg, ↓RunR_snap, ↓RunR_chk, Holds, Option.getD_none, Option.getD_some, guardR_true, guardR_false, wantV_bool, wantV_none, callvQ_eq, afterR_some, ↓seqQ_normal, ↓seqQ_ret, ↓seqQ_exit, ↓blockQ_normal, ↓blockQ_ret, ↓blockQ_exit, ↓retQ_ret, ↓retQ_normal, ↓callQ_eq, ↓loopQ_normal, ↓loopQ_ret, ↓loopQ_exit, ↓upd_same, upd_at, sel_t, sel_f, initE_at, obj_upd_same, obj_upd_ne, obj_new_same, obj_updnew_same, obj_updnew_same2, obj_new2_same, obj_new3_same, obj_newupd_same, obj_new_ne, obj_new_ne2, obj_new_ne3, obj_new_ne4, next_upd, next_new, add_plain, cop, bin, binInt, un, shiftInt, flat, read_cells, src_ro, src_fix, src_grow, get_cells, List.getElem?_cons_zero, List.getElem?_cons_succ, write_fix, write_grow, setAt, bound, eqK, elemOk_ro, elemOk_fix, elemOk_grow, stiff_ro, stiff_fix, goInt, resultsV, resV, resL, finQ_some, Option.map_some, Option.map_none, Option.bind_some, Option.bind_none, List.map_cons, List.map_nil, List.getD_cons_zero, List.getD_cons_succ, List.getD_nil, Nat.reduceEqDiff, Nat.reduceAdd, Nat.reduceMul, Nat.reduceSub, Nat.reduceLT, Nat.reduceLeDiff, Nat.reduceBEq, if_true, if_false, ite_true, ite_false, List.length_cons, List.length_nil, Nat.zero_add, Nat.add_zero, List.drop_zero, List.drop_succ_cons, List.take_succ_cons, List.take_zero, List.set_cons_zero, List.set_cons_succ, Int.reduceLT, Int.reduceLE, Bool.not_true, Bool.not_false, Option.isNone_some, Option.isNone_none, decide_true, decide_false, beq_self_eq_true, Bool.false_eq_true, Bool.true_eq_false, if_pos, if_neg, reduceCtorEq, beq_iff_eq, BEq.rfl, wrap_i64, wrap_i32, wrap_i8, wrap_u8, wrap_u32, wrap_u64, Nat.mul_one, Int.toNat_natCast, ints_len, List.length_map, List.length_set, beq_ft, beq_tf, List.all_cons, List.all_nil, scalar, Bool.and_self, Bool.true_and, Bool.and_true, List.size_toArray, List.getElem?_toArray, binStr, fillIn, true_and, and_true, true_or, or_true, bne_self_eq_false, Int.reduceToNat, Int.reduceAdd, Int.reduceSub, Int.reduceMul]
  have oR : OldR r h2 h8 := (((((o3.ringX).trans o4).trans o5.ringX).trans (o6.ring r)).trans o7.ringX).trans (o8.ring r)
  exact hQ _ (o1.trans (oR.fresh o2 n1 n2 n3))
/-! ### waiting -/
theorem waitK_ge (r : RP) (st : List Int) (cs : Nat → List Int) (key : ByteArray) (cost n : Int) : ∀ d k, k + d = r.N + 1 → n + (min k r.N : Nat) ≤ waitK r st cs key cost n d k
  | 0, k, h => by simp only [waitK]; omega
  | d + 1, k, h => by
    have ih := waitK_ge r st cs key cost n d (k + 1) (by omega)
    simp only [waitK]
    split
    · omega
    · omega
theorem waitK_mono (r : RP) (st : List Int) (cs : Nat → List Int) (key : ByteArray) {a b : Int} (hab : a ≤ b) (n : Int) : ∀ d k, k + d = r.N + 1 → waitK r st cs key a n d k ≤ waitK r st cs key b n d k
  | 0, k, h => Int.le_refl _
  | d + 1, k, h => by
    have ih := waitK_mono r st cs key hab n d (k + 1) (by omega)
    have ge := waitK_ge r st cs key b n d (k + 1) (by omega)
    have m := near_mono (show fromN r st cs key (n + k) 0 r.N + a ≤ fromN r st cs key (n + k) 0 r.N + b by omega)
    simp only [waitK]
    split
    · split
      · omega
      · omega
    · split
      · omega
      · exact ih
theorem waitN_mono {h : Heap} {r : RP} {now : Int} {st : List Int} {cs : Nat → List Int} (R : RingAt h r now st cs) (hnow : 0 ≤ now) (key : ByteArray) {a b : Int} (hab : a ≤ b) : waitN r now st cs key a ≤ waitN r now st cs key b := by
  have hW := R.hW
  have hN := R.hN
  have m := near_mono (show estN r now st cs key + a ≤ estN r now st cs key + b by omega)
  have ge := waitK_ge r st cs key b (now / r.W) r.N 1 (by omega)
  have mo := Int.mul_le_mul_of_nonneg_right (waitK_mono r st cs key hab (now / r.W) r.N 1 (by omega)) (show 0 ≤ r.W by omega)
  have g1 := Int.mul_le_mul_of_nonneg_right (show now / r.W + 1 ≤ waitK r st cs key b (now / r.W) r.N 1 by omega) (show 0 ≤ r.W by omega)
  have h1 := Int.ediv_mul_add_emod now r.W
  have h3 := Int.emod_lt_of_pos now (show 0 < r.W by omega)
  rw [Int.add_mul] at g1
  unfold waitN
  split
  · split
    · omega
    · omega
  · split
    · omega
    · omega
/-! ### the calls -/
abbrev CallG := Int × Int × ByteArray
abbrev CallGE : Enc CallG := Enc.pair (Enc.int .i64) (Enc.pair (Enc.int .i64) Enc.str)
def FewG (l : List CallG) : Prop := l.length ≤ 100 ∧ ∀ x ∈ l, x.2.2.size ≤ 100
theorem light_ok (h : Heap) (v : Value) (l : List CallG) (s : Lst h CallGE v l) {Q : Value → Heap → Prop} (hQ : ∀ h' b, Old h h' → (b = true → FewG l) → Q (.bool b) h') : CALL cp 16 [v] h Q := by
  rw [CALL_enter cp cp16]
  obtain ⟨a, cap, rfl, hrd⟩ := s
  by_cases c0 : (l.length : Int) > 100
  · have a0 := decide_eq_true c0
    simp (disch := first | omega | (simp only [next_new, next_upd, ne_eq]; omega)) only [c16, ↓c16_r0_run, ↓c16_r1_run, ↓c16_r2_run, ↓c16_r3_run, ↓c16_r4_run, ↓c16_r5_run, ↓c16_r6_run, ↓c16_r7_run, ↓c16_r8_run, ↓c16_r9_run, a0, ↓RunC_seq, ↓RunC_skip, ↓RunC_ret, ↓RunC_exit, ↓RunC_region, ↓RunC_condQ, condQ_true, condQ_false, ↓RunC_block, ↓RunR_done, ↓RunR_op, ↓RunR_opg, ↓RunR_snap, ↓RunR_chk, Holds, Option.getD_none, Option.getD_some, guardR_true, guardR_false, wantV_bool, wantV_none, callvQ_eq, afterR_some, ↓seqQ_normal, ↓seqQ_ret, ↓seqQ_exit, ↓blockQ_normal, ↓blockQ_ret, ↓blockQ_exit, ↓retQ_ret, ↓retQ_normal, ↓callQ_eq, ↓loopQ_normal, ↓loopQ_ret, ↓loopQ_exit, ↓upd_same, upd_at, sel_t, sel_f, initE_at, obj_upd_same, obj_upd_ne, obj_new_same, obj_updnew_same, obj_updnew_same2, obj_new2_same, obj_new3_same, obj_newupd_same, obj_new_ne, obj_new_ne2, obj_new_ne3, obj_new_ne4, next_upd, next_new, add_plain, cop, bin, binInt, un, shiftInt, flat, read_cells, src_ro, src_fix, src_grow, get_cells, List.getElem?_cons_zero, List.getElem?_cons_succ, write_fix, write_grow, setAt, bound, eqK, elemOk_ro, elemOk_fix, elemOk_grow, stiff_ro, stiff_fix, goInt, resultsV, resV, resL, finQ_some, Option.map_some, Option.map_none, Option.bind_some, Option.bind_none, List.map_cons, List.map_nil, List.getD_cons_zero, List.getD_cons_succ, List.getD_nil, Nat.reduceEqDiff, Nat.reduceAdd, Nat.reduceMul, Nat.reduceSub, Nat.reduceLT, Nat.reduceLeDiff, Nat.reduceBEq, if_true, if_false, ite_true, ite_false, List.length_cons, List.length_nil, Nat.zero_add, Nat.add_zero, List.drop_zero, List.drop_succ_cons, List.take_succ_cons, List.take_zero, List.set_cons_zero, List.set_cons_succ, Int.reduceLT, Int.reduceLE, Bool.not_true, Bool.not_false, Option.isNone_some, Option.isNone_none, decide_true, decide_false, beq_self_eq_true, Bool.false_eq_true, Bool.true_eq_false, if_pos, if_neg, reduceCtorEq, beq_iff_eq, BEq.rfl, wrap_i64, wrap_i32, wrap_i8, wrap_u8, wrap_u32, wrap_u64, Nat.mul_one, Int.toNat_natCast, ints_len, List.length_map, List.length_set, beq_ft, beq_tf, List.all_cons, List.all_nil, scalar, Bool.and_self, Bool.true_and, Bool.and_true, List.size_toArray, List.getElem?_toArray, binStr, fillIn, true_and, and_true, true_or, or_true, bne_self_eq_false, Int.reduceToNat, Int.reduceAdd, Int.reduceSub, Int.reduceMul]
    exact hQ _ _ (Old.refl _) (fun h => by simp at h)
  have a0 := decide_eq_false c0
  simp (disch := first | omega | (simp only [next_new, next_upd, ne_eq]; omega)) only [c16, ↓c16_r0_run, ↓c16_r1_run, ↓c16_r2_run, ↓c16_r3_run, ↓c16_r4_run, ↓c16_r5_run, ↓c16_r6_run, ↓c16_r7_run, ↓c16_r8_run, ↓c16_r9_run, a0, ↓RunC_seq, ↓RunC_skip, ↓RunC_ret, ↓RunC_exit, ↓RunC_region, ↓RunC_condQ, condQ_true, condQ_false, ↓RunC_block, ↓RunR_done, ↓RunR_op, ↓RunR_opg, ↓RunR_snap, ↓RunR_chk, Holds, Option.getD_none, Option.getD_some, guardR_true, guardR_false, wantV_bool, wantV_none, callvQ_eq, afterR_some, ↓seqQ_normal, ↓seqQ_ret, ↓seqQ_exit, ↓blockQ_normal, ↓blockQ_ret, ↓blockQ_exit, ↓retQ_ret, ↓retQ_normal, ↓callQ_eq, ↓loopQ_normal, ↓loopQ_ret, ↓loopQ_exit, ↓upd_same, upd_at, sel_t, sel_f, initE_at, obj_upd_same, obj_upd_ne, obj_new_same, obj_updnew_same, obj_updnew_same2, obj_new2_same, obj_new3_same, obj_newupd_same, obj_new_ne, obj_new_ne2, obj_new_ne3, obj_new_ne4, next_upd, next_new, add_plain, cop, bin, binInt, un, shiftInt, flat, read_cells, src_ro, src_fix, src_grow, get_cells, List.getElem?_cons_zero, List.getElem?_cons_succ, write_fix, write_grow, setAt, bound, eqK, elemOk_ro, elemOk_fix, elemOk_grow, stiff_ro, stiff_fix, goInt, resultsV, resV, resL, finQ_some, Option.map_some, Option.map_none, Option.bind_some, Option.bind_none, List.map_cons, List.map_nil, List.getD_cons_zero, List.getD_cons_succ, List.getD_nil, Nat.reduceEqDiff, Nat.reduceAdd, Nat.reduceMul, Nat.reduceSub, Nat.reduceLT, Nat.reduceLeDiff, Nat.reduceBEq, if_true, if_false, ite_true, ite_false, List.length_cons, List.length_nil, Nat.zero_add, Nat.add_zero, List.drop_zero, List.drop_succ_cons, List.take_succ_cons, List.take_zero, List.set_cons_zero, List.set_cons_succ, Int.reduceLT, Int.reduceLE, Bool.not_true, Bool.not_false, Option.isNone_some, Option.isNone_none, decide_true, decide_false, beq_self_eq_true, Bool.false_eq_true, Bool.true_eq_false, if_pos, if_neg, reduceCtorEq, beq_iff_eq, BEq.rfl, wrap_i64, wrap_i32, wrap_i8, wrap_u8, wrap_u32, wrap_u64, Nat.mul_one, Int.toNat_natCast, ints_len, List.length_map, List.length_set, beq_ft, beq_tf, List.all_cons, List.all_nil, scalar, Bool.and_self, Bool.true_and, Bool.and_true, List.size_toArray, List.getElem?_toArray, binStr, fillIn, true_and, and_true, true_or, or_true, bne_self_eq_false, Int.reduceToNat, Int.reduceAdd, Int.reduceSub, Int.reduceMul]
  refine RunC_loop cp c16_l0 _ (fun d e hh => ∃ j : Nat, j + d = l.length ∧ Old h hh ∧ (∀ i x, i < j → l[i]? = some x → x.2.2.size ≤ 100) ∧ e 8 = .slice a l.length cap ∧ e 9 = .int .i64 l.length ∧ e 10 = .int .i64 j) ?_ l.length _ _
    ⟨0, by omega, Old.refl _, fun i x hi => by omega, rfl, rfl, rfl⟩
  rintro d e hh ⟨j, hj, o, ok, e8, e9, e10⟩
  by_cases cj : j < l.length
  · have b1 : decide ((j : Int) < (l.length : Int)) = true := decide_eq_true (by omega)
    have nx : (j : Int) + 1 = ((j + 1 : Nat) : Int) := by omega
    have hx : l[j]? = some l[j] := List.getElem?_eq_getElem cj
    obtain ⟨x, hxx⟩ : ∃ x, x = l[j] := ⟨_, rfl⟩
    rw [← hxx] at hx
    obtain ⟨b, off, rfl, hb, hr⟩ := hrd j x hx
    rw [← o.obj b hb] at hr
    obtain ⟨g, c, k⟩ := x
    have hr : (hh.obj b).read (off + j * 3) 3 = some [.int .i64 g, .int .i64 c, .string k] := hr
    by_cases c1 : ((k.size : Nat) : Int) > 100
    · have a1 := decide_eq_true c1
      simp (disch := first | omega | (simp only [next_new, next_upd, ne_eq]; omega)) only [c16_l0, c16, ↓c16_r0_run, ↓c16_r1_run, ↓c16_r2_run, ↓c16_r3_run, ↓c16_r4_run, ↓c16_r5_run, ↓c16_r6_run, ↓c16_r7_run, ↓c16_r8_run, ↓c16_r9_run, e8, e9, e10, b1, hr, a1, ↓RunC_seq, ↓RunC_skip, ↓RunC_ret, ↓RunC_exit, ↓RunC_region, ↓RunC_condQ, condQ_true, condQ_false, ↓RunC_block, ↓RunR_done, ↓RunR_op, ↓RunR_opg, ↓RunR_snap, ↓RunR_chk, Holds, Option.getD_none, Option.getD_some, guardR_true, guardR_false, wantV_bool, wantV_none, callvQ_eq, afterR_some, ↓seqQ_normal, ↓seqQ_ret, ↓seqQ_exit, ↓blockQ_normal, ↓blockQ_ret, ↓blockQ_exit, ↓retQ_ret, ↓retQ_normal, ↓callQ_eq, ↓loopQ_normal, ↓loopQ_ret, ↓loopQ_exit, ↓upd_same, upd_at, sel_t, sel_f, initE_at, obj_upd_same, obj_upd_ne, obj_new_same, obj_updnew_same, obj_updnew_same2, obj_new2_same, obj_new3_same, obj_newupd_same, obj_new_ne, obj_new_ne2, obj_new_ne3, obj_new_ne4, next_upd, next_new, add_plain, cop, bin, binInt, un, shiftInt, flat, read_cells, src_ro, src_fix, src_grow, get_cells, List.getElem?_cons_zero, List.getElem?_cons_succ, write_fix, write_grow, setAt, bound, eqK, elemOk_ro, elemOk_fix, elemOk_grow, stiff_ro, stiff_fix, goInt, resultsV, resV, resL, finQ_some, Option.map_some, Option.map_none, Option.bind_some, Option.bind_none, List.map_cons, List.map_nil, List.getD_cons_zero, List.getD_cons_succ, List.getD_nil, Nat.reduceEqDiff, Nat.reduceAdd, Nat.reduceMul, Nat.reduceSub, Nat.reduceLT, Nat.reduceLeDiff, Nat.reduceBEq, if_true, if_false, ite_true, ite_false, List.length_cons, List.length_nil, Nat.zero_add, Nat.add_zero, List.drop_zero, List.drop_succ_cons, List.take_succ_cons, List.take_zero, List.set_cons_zero, List.set_cons_succ, Int.reduceLT, Int.reduceLE, Bool.not_true, Bool.not_false, Option.isNone_some, Option.isNone_none, decide_true, decide_false, beq_self_eq_true, Bool.false_eq_true, Bool.true_eq_false, if_pos, if_neg, reduceCtorEq, beq_iff_eq, BEq.rfl, wrap_i64, wrap_i32, wrap_i8, wrap_u8, wrap_u32, wrap_u64, Nat.mul_one, Int.toNat_natCast, ints_len, List.length_map, List.length_set, beq_ft, beq_tf, List.all_cons, List.all_nil, scalar, Bool.and_self, Bool.true_and, Bool.and_true, List.size_toArray, List.getElem?_toArray, binStr, fillIn, true_and, and_true, true_or, or_true, bne_self_eq_false, Int.reduceToNat, Int.reduceAdd, Int.reduceSub, Int.reduceMul]
      exact hQ _ _ (o.put _ _) (fun h => by simp at h)
    · have a1 := decide_eq_false c1
      simp (disch := first | omega | (simp only [next_new, next_upd, ne_eq]; omega)) only [c16_l0, c16, ↓c16_r0_run, ↓c16_r1_run, ↓c16_r2_run, ↓c16_r3_run, ↓c16_r4_run, ↓c16_r5_run, ↓c16_r6_run, ↓c16_r7_run, ↓c16_r8_run, ↓c16_r9_run, e8, e9, e10, b1, hr, a1, nx, ↓RunC_seq, ↓RunC_skip, ↓RunC_ret, ↓RunC_exit, ↓RunC_region, ↓RunC_condQ, condQ_true, condQ_false, ↓RunC_block, ↓RunR_done, ↓RunR_op, ↓RunR_opg, ↓RunR_snap, ↓RunR_chk, Holds, Option.getD_none, Option.getD_some, guardR_true, guardR_false, wantV_bool, wantV_none, callvQ_eq, afterR_some, ↓seqQ_normal, ↓seqQ_ret, ↓seqQ_exit, ↓blockQ_normal, ↓blockQ_ret, ↓blockQ_exit, ↓retQ_ret, ↓retQ_normal, ↓callQ_eq, ↓loopQ_normal, ↓loopQ_ret, ↓loopQ_exit, ↓upd_same, upd_at, sel_t, sel_f, initE_at, obj_upd_same, obj_upd_ne, obj_new_same, obj_updnew_same, obj_updnew_same2, obj_new2_same, obj_new3_same, obj_newupd_same, obj_new_ne, obj_new_ne2, obj_new_ne3, obj_new_ne4, next_upd, next_new, add_plain, cop, bin, binInt, un, shiftInt, flat, read_cells, src_ro, src_fix, src_grow, get_cells, List.getElem?_cons_zero, List.getElem?_cons_succ, write_fix, write_grow, setAt, bound, eqK, elemOk_ro, elemOk_fix, elemOk_grow, stiff_ro, stiff_fix, goInt, resultsV, resV, resL, finQ_some, Option.map_some, Option.map_none, Option.bind_some, Option.bind_none, List.map_cons, List.map_nil, List.getD_cons_zero, List.getD_cons_succ, List.getD_nil, Nat.reduceEqDiff, Nat.reduceAdd, Nat.reduceMul, Nat.reduceSub, Nat.reduceLT, Nat.reduceLeDiff, Nat.reduceBEq, if_true, if_false, ite_true, ite_false, List.length_cons, List.length_nil, Nat.zero_add, Nat.add_zero, List.drop_zero, List.drop_succ_cons, List.take_succ_cons, List.take_zero, List.set_cons_zero, List.set_cons_succ, Int.reduceLT, Int.reduceLE, Bool.not_true, Bool.not_false, Option.isNone_some, Option.isNone_none, decide_true, decide_false, beq_self_eq_true, Bool.false_eq_true, Bool.true_eq_false, if_pos, if_neg, reduceCtorEq, beq_iff_eq, BEq.rfl, wrap_i64, wrap_i32, wrap_i8, wrap_u8, wrap_u32, wrap_u64, Nat.mul_one, Int.toNat_natCast, ints_len, List.length_map, List.length_set, beq_ft, beq_tf, List.all_cons, List.all_nil, scalar, Bool.and_self, Bool.true_and, Bool.and_true, List.size_toArray, List.getElem?_toArray, binStr, fillIn, true_and, and_true, true_or, or_true, bne_self_eq_false, Int.reduceToNat, Int.reduceAdd, Int.reduceSub, Int.reduceMul]
      refine ⟨d - 1, by omega, j + 1, by omega, o.put _ _, fun i y hi hy => ?_, ?_⟩
      · by_cases e : i = j
        · subst e; rw [hx] at hy; cases hy; show k.size ≤ 100; omega
        · exact ok i y (by omega) hy
      · repeat' first | assumption | rfl | apply And.intro
  · have b1 : decide ((j : Int) < (l.length : Int)) = false := decide_eq_false (by omega)
    obtain rfl : j = l.length := by omega
    simp (disch := first | omega | (simp only [next_new, next_upd, ne_eq]; omega)) only [c16_l0, c16, ↓c16_r0_run, ↓c16_r1_run, ↓c16_r2_run, ↓c16_r3_run, ↓c16_r4_run, ↓c16_r5_run, ↓c16_r6_run, ↓c16_r7_run, ↓c16_r8_run, ↓c16_r9_run, e8, e9, e10, b1, ↓RunC_seq, ↓RunC_skip, ↓RunC_ret, ↓RunC_exit, ↓RunC_region, ↓RunC_condQ, condQ_true, condQ_false, ↓RunC_block, ↓RunR_done, ↓RunR_op, ↓RunR_opg, ↓RunR_snap, ↓RunR_chk, Holds, Option.getD_none, Option.getD_some, guardR_true, guardR_false, wantV_bool, wantV_none, callvQ_eq, afterR_some, ↓seqQ_normal, ↓seqQ_ret, ↓seqQ_exit, ↓blockQ_normal, ↓blockQ_ret, ↓blockQ_exit, ↓retQ_ret, ↓retQ_normal, ↓callQ_eq, ↓loopQ_normal, ↓loopQ_ret, ↓loopQ_exit, ↓upd_same, upd_at, sel_t, sel_f, initE_at, obj_upd_same, obj_upd_ne, obj_new_same, obj_updnew_same, obj_updnew_same2, obj_new2_same, obj_new3_same, obj_newupd_same, obj_new_ne, obj_new_ne2, obj_new_ne3, obj_new_ne4, next_upd, next_new, add_plain, cop, bin, binInt, un, shiftInt, flat, read_cells, src_ro, src_fix, src_grow, get_cells, List.getElem?_cons_zero, List.getElem?_cons_succ, write_fix, write_grow, setAt, bound, eqK, elemOk_ro, elemOk_fix, elemOk_grow, stiff_ro, stiff_fix, goInt, resultsV, resV, resL, finQ_some, Option.map_some, Option.map_none, Option.bind_some, Option.bind_none, List.map_cons, List.map_nil, List.getD_cons_zero, List.getD_cons_succ, List.getD_nil, Nat.reduceEqDiff, Nat.reduceAdd, Nat.reduceMul, Nat.reduceSub, Nat.reduceLT, Nat.reduceLeDiff, Nat.reduceBEq, if_true, if_false, ite_true, ite_false, List.length_cons, List.length_nil, Nat.zero_add, Nat.add_zero, List.drop_zero, List.drop_succ_cons, List.take_succ_cons, List.take_zero, List.set_cons_zero, List.set_cons_succ, Int.reduceLT, Int.reduceLE, Bool.not_true, Bool.not_false, Option.isNone_some, Option.isNone_none, decide_true, decide_false, beq_self_eq_true, Bool.false_eq_true, Bool.true_eq_false, if_pos, if_neg, reduceCtorEq, beq_iff_eq, BEq.rfl, wrap_i64, wrap_i32, wrap_i8, wrap_u8, wrap_u32, wrap_u64, Nat.mul_one, Int.toNat_natCast, ints_len, List.length_map, List.length_set, beq_ft, beq_tf, List.all_cons, List.all_nil, scalar, Bool.and_self, Bool.true_and, Bool.and_true, List.size_toArray, List.getElem?_toArray, binStr, fillIn, true_and, and_true, true_or, or_true, bne_self_eq_false, Int.reduceToNat, Int.reduceAdd, Int.reduceSub, Int.reduceMul]
    refine hQ _ _ o fun _ => ⟨by omega, fun x hx => ?_⟩
    obtain ⟨i, hi⟩ := List.getElem?_of_mem hx
    exact ok i x (List.getElem?_eq_some_iff.1 hi).1 hi
theorem callG_get {h : Heap} {l : List CallG} {a : Option Addr} {n cap j : Nat} {g c : Int} {k : ByteArray} (s : Lst h CallGE (.slice a n cap) l) (hx : l[j]? = some (g, c, k)) : ∃ b o, a = some ⟨b, o, none⟩ ∧ b < h.next ∧ (h.obj b).read (o + j * 3) 3 = some [.int .i64 g, .int .i64 c, .string k] := by
  obtain ⟨a', cap', e, hrd⟩ := s
  simp only [Value.slice.injEq] at e
  obtain ⟨rfl, rfl, rfl⟩ := e
  exact hrd j _ hx
abbrev PlanE : Enc PlanT := Enc.pair (Enc.int .i64) (Enc.pair (Enc.int .i64) (Enc.pair (Enc.int .i64) (Enc.pair (Enc.int .i64) Enc.bool)))
theorem plan_enc (a b c d : Int) (sm : Bool) : (PlanE.enc (a, b, c, d, sm)).toArray = #[.int .i64 a, .int .i64 b, .int .i64 c, .int .i64 d, .bool sm] := rfl
theorem plan_nums (a b c : Int) : 1 ≤ pS a ∧ pS a ≤ 8 ∧ 1 ≤ pT b ∧ pT b ≤ 32 ∧ 1 ≤ pw c ∧ pw c ≤ 16 ∧ (pT b : Int) * (pS a : Int) / (pS a : Int) = pT b ∧ 0 ≤ (pT b : Int) * (pS a : Int) ∧ (pT b : Int) * (pS a : Int) ≤ 256 ∧ Int.tdiv ((pT b : Int) * (pS a : Int)) (pS a : Int) = pT b := by
  have la : 1 ≤ pS a ∧ pS a ≤ 8 := by unfold pS; omega
  have lb : 1 ≤ pT b ∧ pT b ≤ 32 := by unfold pT; omega
  have lc : 1 ≤ pw c ∧ pw c ≤ 16 := by unfold pw; omega
  have lm : (pT b : Int) * (pS a : Int) ≤ 32 * 8 := Int.mul_le_mul (by omega) (by omega) (by omega) (by omega)
  have lm0 : 0 ≤ (pT b : Int) * (pS a : Int) := Int.mul_nonneg (by omega) (by omega)
  have e := Int.mul_ediv_cancel (pT b : Int) (show (pS a : Int) ≠ 0 by omega)
  exact ⟨la.1, la.2, lb.1, lb.2, lc.1, lc.2, e, lm0, by omega, by rw [Int.tdiv_eq_ediv_of_nonneg lm0]; exact e⟩
end Go.Proofs.Ytcmdehfbidgoeaa.Can
