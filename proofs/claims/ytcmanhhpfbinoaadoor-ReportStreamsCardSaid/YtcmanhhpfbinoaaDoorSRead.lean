/- An answer's frame that is read: the list of counts, in the canonical machine. No condition. -/
import Derived.Test.YtcmanhhpfbinoaaDoorSNum
namespace Go.Proofs.YtcmanhhpfbinoaaDoor.Can
open Go
set_option linter.unusedSimpArgs false
set_option linter.unusedVariables false
attribute [local congr] RunR_congr RunC_congr afterR_congr guardR_congr condQ_congr CALL_congr finQ_congr op_congr opg_congr

theorem toStr_bys {h : Heap} {v : Value} {l : List Int} (s : Bys h v l) : cop (.toStr v) h = some (.string (bs l), h) := by
  rcases s with ⟨rfl, rfl⟩ | ⟨b, o, cap, rfl, _, _, _, h5⟩
  · rfl
  · simp only [cop, if_true, h5, Option.bind_some, bytesOf_all]
    rfl
/-- So many counts. -/
def listS : Nat → List Int → Option (List CntT)
  | 0, l => if l = [] then some [] else none
  | n + 1, l => match l with
    | [] => none
    | k :: t => if k > 64 ∨ ((k :: t).length : Int) < 17 + k then none
      else (listS n ((k :: t).drop (17 + k.toNat))).map fun r => (bs (((k :: t).drop 1).take k.toNat), decI (((k :: t).drop (1 + k.toNat)).take 8), decI (((k :: t).drop (9 + k.toNat)).take 8)) :: r
theorem listS_step {n : Nat} {l : List Int} {k : Int} (h0 : l[0]? = some k) (h1 : k ≤ 64) (h2 : 17 + k ≤ (l.length : Int)) :
    listS (n + 1) l = (listS n (l.drop (17 + k.toNat))).map fun r => (bs ((l.drop 1).take k.toNat), decI ((l.drop (1 + k.toNat)).take 8), decI ((l.drop (9 + k.toNat)).take 8)) :: r := by
  match l, h0 with
  | x :: t, h0 =>
    obtain rfl : x = k := by simpa using h0
    show (if x > 64 ∨ ((x :: t).length : Int) < 17 + x then none else _) = _
    rw [if_neg (by omega)]
theorem listS_none {n : Nat} {l : List Int} (h : ∀ k, l[0]? = some k → k > 64 ∨ (l.length : Int) < 17 + k) : listS (n + 1) l = none := by
  match l with
  | [] => rfl
  | x :: t =>
    show (if x > 64 ∨ ((x :: t).length : Int) < 17 + x then none else _) = _
    rw [if_pos (h x rfl)]
theorem i64_decI (l : List Int) : I64 (decI l) := i64_in _
theorem listS_ok : ∀ (n : Nat) (l : List Int) (r : List CntT), Byts l → listS n l = some r → r.length = n ∧ 17 * n ≤ l.length ∧ ∀ c ∈ r, c.1.size ≤ 300 ∧ I64 c.2.1 ∧ I64 c.2.2
  | 0, l, r, _, h => by
    unfold listS at h
    split at h
    · obtain rfl := Option.some.inj h
      exact ⟨rfl, by omega, fun c hc => by simp at hc⟩
    · simp at h
  | n + 1, [], r, _, h => by simp [listS] at h
  | n + 1, k :: t, r, hb, h => by
    have hk := hb k List.mem_cons_self
    by_cases c : k > 64 ∨ ((k :: t).length : Int) < 17 + k
    · have : listS (n + 1) (k :: t) = none := listS_none fun x hx => by
        obtain rfl : k = x := by simpa using hx
        exact c
      rw [this] at h; simp at h
    · rw [listS_step (k := k) rfl (by omega) (by omega), Option.map_eq_some_iff] at h
      obtain ⟨r', hr', rfl⟩ := h
      obtain ⟨e1, e2, e3⟩ := listS_ok n _ r' (fun x hx => hb x (List.mem_of_mem_drop hx)) hr'
      rw [List.length_drop] at e2
      refine ⟨by rw [List.length_cons, e1], by omega, fun c hc => ?_⟩
      rcases List.mem_cons.1 hc with rfl | hc
      · refine ⟨?_, i64_decI _, i64_decI _⟩
        show (bs _).size ≤ 300
        rw [bs_size, List.length_take]; omega
      · exact e3 c hc

set_option maxHeartbeats 2000000 in
theorem list_ok (h : Heap) (ps : Nat) (s : SaidV) (op : h.obj ps = .cells (saidc s (.slice none 0 0)) 36 .fix) (lp : ps < h.next) (v : Value) (l : List Int) (hv : Bys h v l) (byt : Byts l) (hl : l.length ≤ 100000) (n : Nat) (hn : n ≤ 255) {Q : Value → Heap → Prop}
    (hQ1 : ∀ h' r vl b2, listS n l = some r → h.next ≤ h'.next → (∀ z, z < h.next → z ≠ ps → h'.obj z = h.obj z) → h'.obj ps = .cells (saidc s vl) 36 .fix → Vec h' 29 CE vl r b2 → h.next ≤ b2 → Q (.bool true) h')
    (hQ2 : ∀ h', listS n l = none → h.next ≤ h'.next → (∀ z, z < h.next → z ≠ ps → h'.obj z = h.obj z) → Q (.bool false) h')
    (hps : ∀ b o c m, v = .slice (some ⟨b, o, none⟩) m c → b ≠ ps) : CALL cp 27 [.pointer (some ⟨ps, 0, none⟩), v, .int .i64 n] h Q := by
  rw [CALL_enter cp cp27]
  obtain ⟨sop, rule, ver, rem, ret, al, de, ba, ce, we, sl, er⟩ := s
  simp (disch := omega) only [c27, ↓c27_r0_run, ↓c27_r1_run, ↓c27_r2_run, ↓c27_r3_c2_run, ↓c27_r3_c1_run, ↓c27_r3_run, ↓c27_r4_run, ↓c27_r5_run, ↓c27_r6_c4_run, ↓c27_r6_c3_run, ↓c27_r6_c2_run, ↓c27_r6_c1_run, ↓c27_r6_run, ↓c27_r7_run, ↓c27_r8_run, ↓c27_r9_run, ↓RunC_seq, ↓RunC_skip, ↓RunC_ret, ↓RunC_exit, ↓RunC_region, ↓RunC_condQ, condQ_true, condQ_false, ↓RunC_block, ↓RunR_done, ↓RunR_op, ↓RunR_opg, ↓RunR_snap, ↓RunR_chk, Holds, Option.getD_none, Option.getD_some, guardR_true, guardR_false, wantV_bool, wantV_none, callvQ_eq, afterR_some, ↓seqQ_normal, ↓seqQ_ret, ↓seqQ_exit, ↓blockQ_normal, ↓blockQ_ret, ↓blockQ_exit, ↓retQ_ret, ↓retQ_normal, ↓callQ_eq, ↓loopQ_normal, ↓loopQ_ret, ↓loopQ_exit, ↓upd_same, upd_at, sel_t, sel_f, initE_at, obj_upd_same, obj_upd_ne, obj_new_same, obj_updnew_same, obj_updnew_same2, obj_new2_same, obj_new3_same, obj_newupd_same, obj_new_ne, obj_new_ne2, obj_new_ne3, obj_new_ne4, next_upd, next_new, add_plain, cop, bin, binInt, un, shiftInt, flat, read_cells, src_ro, src_fix, src_grow, get_cells, List.getElem?_cons_zero, List.getElem?_cons_succ, write_fix, write_grow, setAt, bound, eqK, elemOk_ro, elemOk_fix, elemOk_grow, stiff_ro, stiff_fix, goInt, resultsV, resV, resL, finQ_some, Option.map_some, Option.map_none, Option.bind_some, Option.bind_none, List.map_cons, List.map_nil, List.getD_cons_zero, List.getD_cons_succ, List.getD_nil, Nat.reduceEqDiff, Nat.reduceAdd, Nat.reduceMul, Nat.reduceSub, Nat.reduceLT, Nat.reduceLeDiff, Nat.reduceBEq, if_true, if_false, ite_true, ite_false, List.length_cons, List.length_nil, Nat.zero_add, Nat.add_zero, List.drop_zero, List.drop_succ_cons, List.take_succ_cons, List.take_zero, List.set_cons_zero, List.set_cons_succ, Int.reduceLT, Int.reduceLE, Bool.not_true, Bool.not_false, Option.isNone_some, Option.isNone_none, decide_true, decide_false, beq_self_eq_true, Bool.false_eq_true, Bool.true_eq_false, if_pos, if_neg, reduceCtorEq, beq_iff_eq, BEq.rfl, wrap_i64, wrap_i32, wrap_i8, wrap_u8, wrap_u32, wrap_u64, Nat.mul_one, Int.toNat_natCast, ints_len, List.length_map, List.length_set, beq_ft, beq_tf, List.all_cons, List.all_nil, scalar, Bool.and_self, Bool.true_and, Bool.and_true, List.size_toArray, List.getElem?_toArray, binStr, fillIn, true_and, and_true, true_or, or_true, bne_self_eq_false, Int.reduceToNat, Int.reduceAdd, Int.reduceSub, Int.reduceMul]
  refine RunC_loop cp c27_l0 _ (fun d e hh => ∃ (i b2 : Nat) (vv v' : Value) (acc : List CntT) (l' : List Int), i + d = n ∧ listS n l = (listS d l').map (acc ++ ·) ∧ Byts l' ∧ l'.length ≤ 100000 ∧ acc.length = i ∧ Bys hh v' l' ∧ (∀ b o c m, v' = .slice (some ⟨b, o, none⟩) m c → b ≠ ps ∧ b < h.next) ∧ h.next ≤ hh.next ∧ (∀ z, z < h.next → z ≠ ps → hh.obj z = h.obj z) ∧
      hh.obj ps = .cells (saidc ⟨sop, rule, ver, rem, ret, al, de, ba, ce, we, sl, er⟩ vv) 36 .fix ∧ Vec hh 29 CE vv acc b2 ∧ h.next ≤ b2 ∧ e 0 = .pointer (some ⟨ps, 0, none⟩) ∧ e 1 = v' ∧ e 8 = .int .i64 n ∧ e 9 = .int .i64 i) ?_ n _ _
    ⟨0, h.next, .slice none 0 0, v, [], l, by omega, by simp, byt, hl, rfl, hv, fun b o c m e => ⟨hps b o c m e, by
      rcases hv with ⟨hv, _⟩ | ⟨b', o', c', hv, _, hb, _⟩
      · rw [e] at hv; simp at hv
      · rw [e] at hv; simp only [Value.slice.injEq, Option.some.injEq, Addr.mk.injEq] at hv; omega⟩, Nat.le_refl _, fun _ _ _ => rfl, op, Vec.nil _ _ _ _, Nat.le_refl _, rfl, rfl, rfl, rfl⟩
  clear hv byt hl hps op
  rintro d e hh ⟨i, b2, vv, v', acc, l', hi, hsp, byt, hl, hacc, hv, hps, nh, oh, op, VV, hb2, e0, e1, e8, e9⟩
  by_cases ci : i < n
  · have b1 : decide ((i : Int) < (n : Int)) = true := decide_eq_true (by omega)
    have nx : (i : Int) + 1 = ((i + 1 : Nat) : Int) := by omega
    obtain ⟨d, rfl⟩ : ∃ d', d = d' + 1 := ⟨d - 1, by omega⟩
    obtain ⟨a, cap, rfl, hcap⟩ := hv.val
    by_cases c0 : (l'.length : Int) < 1
    · have k0 := decide_eq_true c0
      have hno : listS (d + 1) l' = none := listS_none fun k hk => by
        have := (List.getElem?_eq_some_iff.1 hk).1
        omega
      rw [hno] at hsp
      simp (disch := omega) only [c27_l0, c27, ↓c27_r0_run, ↓c27_r1_run, ↓c27_r2_run, ↓c27_r3_c2_run, ↓c27_r3_c1_run, ↓c27_r3_run, ↓c27_r4_run, ↓c27_r5_run, ↓c27_r6_c4_run, ↓c27_r6_c3_run, ↓c27_r6_c2_run, ↓c27_r6_c1_run, ↓c27_r6_run, ↓c27_r7_run, ↓c27_r8_run, ↓c27_r9_run, e0, e1, e8, e9, b1, k0, ↓RunC_seq, ↓RunC_skip, ↓RunC_ret, ↓RunC_exit, ↓RunC_region, ↓RunC_condQ, condQ_true, condQ_false, ↓RunC_block, ↓RunR_done, ↓RunR_op, ↓RunR_opg, ↓RunR_snap, ↓RunR_chk, Holds, Option.getD_none, Option.getD_some, guardR_true, guardR_false, wantV_bool, wantV_none, callvQ_eq, afterR_some, ↓seqQ_normal, ↓seqQ_ret, ↓seqQ_exit, ↓blockQ_normal, ↓blockQ_ret, ↓blockQ_exit, ↓retQ_ret, ↓retQ_normal, ↓callQ_eq, ↓loopQ_normal, ↓loopQ_ret, ↓loopQ_exit, ↓upd_same, upd_at, sel_t, sel_f, initE_at, obj_upd_same, obj_upd_ne, obj_new_same, obj_updnew_same, obj_updnew_same2, obj_new2_same, obj_new3_same, obj_newupd_same, obj_new_ne, obj_new_ne2, obj_new_ne3, obj_new_ne4, next_upd, next_new, add_plain, cop, bin, binInt, un, shiftInt, flat, read_cells, src_ro, src_fix, src_grow, get_cells, List.getElem?_cons_zero, List.getElem?_cons_succ, write_fix, write_grow, setAt, bound, eqK, elemOk_ro, elemOk_fix, elemOk_grow, stiff_ro, stiff_fix, goInt, resultsV, resV, resL, finQ_some, Option.map_some, Option.map_none, Option.bind_some, Option.bind_none, List.map_cons, List.map_nil, List.getD_cons_zero, List.getD_cons_succ, List.getD_nil, Nat.reduceEqDiff, Nat.reduceAdd, Nat.reduceMul, Nat.reduceSub, Nat.reduceLT, Nat.reduceLeDiff, Nat.reduceBEq, if_true, if_false, ite_true, ite_false, List.length_cons, List.length_nil, Nat.zero_add, Nat.add_zero, List.drop_zero, List.drop_succ_cons, List.take_succ_cons, List.take_zero, List.set_cons_zero, List.set_cons_succ, Int.reduceLT, Int.reduceLE, Bool.not_true, Bool.not_false, Option.isNone_some, Option.isNone_none, decide_true, decide_false, beq_self_eq_true, Bool.false_eq_true, Bool.true_eq_false, if_pos, if_neg, reduceCtorEq, beq_iff_eq, BEq.rfl, wrap_i64, wrap_i32, wrap_i8, wrap_u8, wrap_u32, wrap_u64, Nat.mul_one, Int.toNat_natCast, ints_len, List.length_map, List.length_set, beq_ft, beq_tf, List.all_cons, List.all_nil, scalar, Bool.and_self, Bool.true_and, Bool.and_true, List.size_toArray, List.getElem?_toArray, binStr, fillIn, true_and, and_true, true_or, or_true, bne_self_eq_false, Int.reduceToNat, Int.reduceAdd, Int.reduceSub, Int.reduceMul]
      exact hQ2 _ hsp nh oh
    have k0 := decide_eq_false c0
    obtain ⟨b, o, cap', hve, _, hb, hel, hr⟩ := hv.at (by omega)
    simp only [Value.slice.injEq] at hve
    obtain ⟨rfl, _, rfl⟩ := hve
    have hx : l'[0]? = some l'[0] := List.getElem?_eq_getElem (by omega)
    obtain ⟨k, hkk⟩ : ∃ k, k = l'[0]'(by omega) := ⟨_, rfl⟩
    rw [← hkk] at hx
    have hk := byt k (List.mem_of_getElem? hx)
    have g0 := Bys.get (cap := cap) hr hx
    rw [Nat.add_zero] at g0
    by_cases c1 : k > 64
    · have k1 := decide_eq_true c1
      have hno : listS (d + 1) l' = none := listS_none fun x hx' => by
        rw [hx] at hx'
        obtain rfl := Option.some.inj hx'
        exact .inl c1
      rw [hno] at hsp
      simp (disch := omega) only [c27_l0, c27, ↓c27_r0_run, ↓c27_r1_run, ↓c27_r2_run, ↓c27_r3_c2_run, ↓c27_r3_c1_run, ↓c27_r3_run, ↓c27_r4_run, ↓c27_r5_run, ↓c27_r6_c4_run, ↓c27_r6_c3_run, ↓c27_r6_c2_run, ↓c27_r6_c1_run, ↓c27_r6_run, ↓c27_r7_run, ↓c27_r8_run, ↓c27_r9_run, e0, e1, e8, e9, b1, k0, k1, g0, ↓RunC_seq, ↓RunC_skip, ↓RunC_ret, ↓RunC_exit, ↓RunC_region, ↓RunC_condQ, condQ_true, condQ_false, ↓RunC_block, ↓RunR_done, ↓RunR_op, ↓RunR_opg, ↓RunR_snap, ↓RunR_chk, Holds, Option.getD_none, Option.getD_some, guardR_true, guardR_false, wantV_bool, wantV_none, callvQ_eq, afterR_some, ↓seqQ_normal, ↓seqQ_ret, ↓seqQ_exit, ↓blockQ_normal, ↓blockQ_ret, ↓blockQ_exit, ↓retQ_ret, ↓retQ_normal, ↓callQ_eq, ↓loopQ_normal, ↓loopQ_ret, ↓loopQ_exit, ↓upd_same, upd_at, sel_t, sel_f, initE_at, obj_upd_same, obj_upd_ne, obj_new_same, obj_updnew_same, obj_updnew_same2, obj_new2_same, obj_new3_same, obj_newupd_same, obj_new_ne, obj_new_ne2, obj_new_ne3, obj_new_ne4, next_upd, next_new, add_plain, cop, bin, binInt, un, shiftInt, flat, read_cells, src_ro, src_fix, src_grow, get_cells, List.getElem?_cons_zero, List.getElem?_cons_succ, write_fix, write_grow, setAt, bound, eqK, elemOk_ro, elemOk_fix, elemOk_grow, stiff_ro, stiff_fix, goInt, resultsV, resV, resL, finQ_some, Option.map_some, Option.map_none, Option.bind_some, Option.bind_none, List.map_cons, List.map_nil, List.getD_cons_zero, List.getD_cons_succ, List.getD_nil, Nat.reduceEqDiff, Nat.reduceAdd, Nat.reduceMul, Nat.reduceSub, Nat.reduceLT, Nat.reduceLeDiff, Nat.reduceBEq, if_true, if_false, ite_true, ite_false, List.length_cons, List.length_nil, Nat.zero_add, Nat.add_zero, List.drop_zero, List.drop_succ_cons, List.take_succ_cons, List.take_zero, List.set_cons_zero, List.set_cons_succ, Int.reduceLT, Int.reduceLE, Bool.not_true, Bool.not_false, Option.isNone_some, Option.isNone_none, decide_true, decide_false, beq_self_eq_true, Bool.false_eq_true, Bool.true_eq_false, if_pos, if_neg, reduceCtorEq, beq_iff_eq, BEq.rfl, wrap_i64, wrap_i32, wrap_i8, wrap_u8, wrap_u32, wrap_u64, Nat.mul_one, Int.toNat_natCast, ints_len, List.length_map, List.length_set, beq_ft, beq_tf, List.all_cons, List.all_nil, scalar, Bool.and_self, Bool.true_and, Bool.and_true, List.size_toArray, List.getElem?_toArray, binStr, fillIn, true_and, and_true, true_or, or_true, bne_self_eq_false, Int.reduceToNat, Int.reduceAdd, Int.reduceSub, Int.reduceMul]
      exact hQ2 _ hsp nh oh
    have k1 := decide_eq_false c1
    by_cases c2 : (l'.length : Int) < 17 + k
    · have k2 := decide_eq_true c2
      have hno : listS (d + 1) l' = none := listS_none fun x hx' => by
        rw [hx] at hx'
        obtain rfl := Option.some.inj hx'
        exact .inr c2
      rw [hno] at hsp
      simp (disch := omega) only [c27_l0, c27, ↓c27_r0_run, ↓c27_r1_run, ↓c27_r2_run, ↓c27_r3_c2_run, ↓c27_r3_c1_run, ↓c27_r3_run, ↓c27_r4_run, ↓c27_r5_run, ↓c27_r6_c4_run, ↓c27_r6_c3_run, ↓c27_r6_c2_run, ↓c27_r6_c1_run, ↓c27_r6_run, ↓c27_r7_run, ↓c27_r8_run, ↓c27_r9_run, e0, e1, e8, e9, b1, k0, k1, k2, g0, ↓RunC_seq, ↓RunC_skip, ↓RunC_ret, ↓RunC_exit, ↓RunC_region, ↓RunC_condQ, condQ_true, condQ_false, ↓RunC_block, ↓RunR_done, ↓RunR_op, ↓RunR_opg, ↓RunR_snap, ↓RunR_chk, Holds, Option.getD_none, Option.getD_some, guardR_true, guardR_false, wantV_bool, wantV_none, callvQ_eq, afterR_some, ↓seqQ_normal, ↓seqQ_ret, ↓seqQ_exit, ↓blockQ_normal, ↓blockQ_ret, ↓blockQ_exit, ↓retQ_ret, ↓retQ_normal, ↓callQ_eq, ↓loopQ_normal, ↓loopQ_ret, ↓loopQ_exit, ↓upd_same, upd_at, sel_t, sel_f, initE_at, obj_upd_same, obj_upd_ne, obj_new_same, obj_updnew_same, obj_updnew_same2, obj_new2_same, obj_new3_same, obj_newupd_same, obj_new_ne, obj_new_ne2, obj_new_ne3, obj_new_ne4, next_upd, next_new, add_plain, cop, bin, binInt, un, shiftInt, flat, read_cells, src_ro, src_fix, src_grow, get_cells, List.getElem?_cons_zero, List.getElem?_cons_succ, write_fix, write_grow, setAt, bound, eqK, elemOk_ro, elemOk_fix, elemOk_grow, stiff_ro, stiff_fix, goInt, resultsV, resV, resL, finQ_some, Option.map_some, Option.map_none, Option.bind_some, Option.bind_none, List.map_cons, List.map_nil, List.getD_cons_zero, List.getD_cons_succ, List.getD_nil, Nat.reduceEqDiff, Nat.reduceAdd, Nat.reduceMul, Nat.reduceSub, Nat.reduceLT, Nat.reduceLeDiff, Nat.reduceBEq, if_true, if_false, ite_true, ite_false, List.length_cons, List.length_nil, Nat.zero_add, Nat.add_zero, List.drop_zero, List.drop_succ_cons, List.take_succ_cons, List.take_zero, List.set_cons_zero, List.set_cons_succ, Int.reduceLT, Int.reduceLE, Bool.not_true, Bool.not_false, Option.isNone_some, Option.isNone_none, decide_true, decide_false, beq_self_eq_true, Bool.false_eq_true, Bool.true_eq_false, if_pos, if_neg, reduceCtorEq, beq_iff_eq, BEq.rfl, wrap_i64, wrap_i32, wrap_i8, wrap_u8, wrap_u32, wrap_u64, Nat.mul_one, Int.toNat_natCast, ints_len, List.length_map, List.length_set, beq_ft, beq_tf, List.all_cons, List.all_nil, scalar, Bool.and_self, Bool.true_and, Bool.and_true, List.size_toArray, List.getElem?_toArray, binStr, fillIn, true_and, and_true, true_or, or_true, bne_self_eq_false, Int.reduceToNat, Int.reduceAdd, Int.reduceSub, Int.reduceMul]
      exact hQ2 _ hsp nh oh
    have k2 := decide_eq_false c2
    have step := listS_step (n := d) hx (by omega) (by omega)
    obtain ⟨m, rfl⟩ : ∃ m : Nat, k = m := ⟨k.toNat, by omega⟩
    rw [Int.toNat_natCast] at step
    have n1 : (1 : Int) + (m : Int) = ((1 + m : Nat) : Int) := by omega
    have n2 : ((1 + m : Nat) : Int) + 8 = ((1 + m + 8 : Nat) : Int) := by omega
    have n3 : ((1 + m : Nat) : Int) + 16 = ((1 + m + 16 : Nat) : Int) := by omega
    have S1 := Bys.sub hb hel hr hcap 1 (1 + m) (by omega) (by omega)
    have S2 := Bys.sub hb hel hr hcap (1 + m) (1 + m + 8) (by omega) (by omega)
    have S3 := Bys.sub hb hel hr hcap (1 + m + 8) (1 + m + 16) (by omega) (by omega)
    have S4 := Bys.sub hb hel hr hcap (1 + m + 16) l'.length (by omega) (Nat.le_refl _)
    have t1 : (hh.obj b).read (o + 1) (1 + m - 1) = some (B8.all ((l'.drop 1).take m)) := by rw [read_sub hr (by omega), B8_drop, show 1 + m - 1 = m by omega]
    simp (disch := omega) only [c27_l0, c27, ↓c27_r0_run, ↓c27_r1_run, ↓c27_r2_run, ↓c27_r3_c2_run, ↓c27_r3_c1_run, ↓c27_r3_run, ↓c27_r4_run, ↓c27_r5_run, ↓c27_r6_c4_run, ↓c27_r6_c3_run, ↓c27_r6_c2_run, ↓c27_r6_c1_run, ↓c27_r6_run, ↓c27_r7_run, ↓c27_r8_run, ↓c27_r9_run, t1, bytesOf_all, e0, e1, e8, e9, b1, k0, k1, k2, g0, n1, n2, n3, hel, op, Nat.mul_one, ↓RunC_seq, ↓RunC_skip, ↓RunC_ret, ↓RunC_exit, ↓RunC_region, ↓RunC_condQ, condQ_true, condQ_false, ↓RunC_block, ↓RunR_done, ↓RunR_op, ↓RunR_opg, ↓RunR_snap, ↓RunR_chk, Holds, Option.getD_none, Option.getD_some, guardR_true, guardR_false, wantV_bool, wantV_none, callvQ_eq, afterR_some, ↓seqQ_normal, ↓seqQ_ret, ↓seqQ_exit, ↓blockQ_normal, ↓blockQ_ret, ↓blockQ_exit, ↓retQ_ret, ↓retQ_normal, ↓callQ_eq, ↓loopQ_normal, ↓loopQ_ret, ↓loopQ_exit, ↓upd_same, upd_at, sel_t, sel_f, initE_at, obj_upd_same, obj_upd_ne, obj_new_same, obj_updnew_same, obj_updnew_same2, obj_new2_same, obj_new3_same, obj_newupd_same, obj_new_ne, obj_new_ne2, obj_new_ne3, obj_new_ne4, next_upd, next_new, add_plain, cop, bin, binInt, un, shiftInt, flat, read_cells, src_ro, src_fix, src_grow, get_cells, List.getElem?_cons_zero, List.getElem?_cons_succ, write_fix, write_grow, setAt, bound, eqK, elemOk_ro, elemOk_fix, elemOk_grow, stiff_ro, stiff_fix, goInt, resultsV, resV, resL, finQ_some, Option.map_some, Option.map_none, Option.bind_some, Option.bind_none, List.map_cons, List.map_nil, List.getD_cons_zero, List.getD_cons_succ, List.getD_nil, Nat.reduceEqDiff, Nat.reduceAdd, Nat.reduceMul, Nat.reduceSub, Nat.reduceLT, Nat.reduceLeDiff, Nat.reduceBEq, if_true, if_false, ite_true, ite_false, List.length_cons, List.length_nil, Nat.zero_add, Nat.add_zero, List.drop_zero, List.drop_succ_cons, List.take_succ_cons, List.take_zero, List.set_cons_zero, List.set_cons_succ, Int.reduceLT, Int.reduceLE, Bool.not_true, Bool.not_false, Option.isNone_some, Option.isNone_none, decide_true, decide_false, beq_self_eq_true, Bool.false_eq_true, Bool.true_eq_false, if_pos, if_neg, reduceCtorEq, beq_iff_eq, BEq.rfl, wrap_i64, wrap_i32, wrap_i8, wrap_u8, wrap_u32, wrap_u64, Nat.mul_one, Int.toNat_natCast, ints_len, List.length_map, List.length_set, beq_ft, beq_tf, List.all_cons, List.all_nil, scalar, Bool.and_self, Bool.true_and, Bool.and_true, List.size_toArray, List.getElem?_toArray, binStr, fillIn, true_and, and_true, true_or, or_true, bne_self_eq_false, Int.reduceToNat, Int.reduceAdd, Int.reduceSub, Int.reduceMul]
    have L2 : (l'.drop (1 + m)).take (1 + m + 8 - (1 + m)) = (l'.drop (1 + m)).take 8 := by rw [show 1 + m + 8 - (1 + m) = 8 by omega]
    have L3 : (l'.drop (1 + m + 8)).take (1 + m + 16 - (1 + m + 8)) = (l'.drop (9 + m)).take 8 := by rw [show 1 + m + 16 - (1 + m + 8) = 8 by omega, show 1 + m + 8 = 9 + m by omega]
    have L1 : (l'.drop 1).take (1 + m - 1) = (l'.drop 1).take m := by rw [show 1 + m - 1 = m by omega]
    have L4 : (l'.drop (1 + m + 16)).take (l'.length - (1 + m + 16)) = l'.drop (17 + m) := by rw [show 1 + m + 16 = 17 + m by omega, List.take_of_length_le (by rw [List.length_drop]; omega)]
    have bd : ∀ q, Byts ((l'.drop q).take 8) := fun q y hy => byt y (List.mem_of_mem_drop (List.mem_of_mem_take hy))
    rw [L2] at S2
    rw [L3] at S3
    rw [L4] at S4
    have dI : ∀ q : List Int, IntKind.i64.wrap (decN q) = decI q := fun _ => rfl
    refine num_ok hh _ _ S2 (by rw [List.length_take]; omega) (bd _) ?_
    simp (disch := omega) only [c27, ↓c27_r0_run, ↓c27_r1_run, ↓c27_r2_run, ↓c27_r3_c2_run, ↓c27_r3_c1_run, ↓c27_r3_run, ↓c27_r4_run, ↓c27_r5_run, ↓c27_r6_c4_run, ↓c27_r6_c3_run, ↓c27_r6_c2_run, ↓c27_r6_c1_run, ↓c27_r6_run, ↓c27_r7_run, ↓c27_r8_run, ↓c27_r9_run, t1, bytesOf_all, e0, e1, e8, e9, n1, n2, n3, hel, op, dI, Nat.mul_one, ↓RunC_seq, ↓RunC_skip, ↓RunC_ret, ↓RunC_exit, ↓RunC_region, ↓RunC_condQ, condQ_true, condQ_false, ↓RunC_block, ↓RunR_done, ↓RunR_op, ↓RunR_opg, ↓RunR_snap, ↓RunR_chk, Holds, Option.getD_none, Option.getD_some, guardR_true, guardR_false, wantV_bool, wantV_none, callvQ_eq, afterR_some, ↓seqQ_normal, ↓seqQ_ret, ↓seqQ_exit, ↓blockQ_normal, ↓blockQ_ret, ↓blockQ_exit, ↓retQ_ret, ↓retQ_normal, ↓callQ_eq, ↓loopQ_normal, ↓loopQ_ret, ↓loopQ_exit, ↓upd_same, upd_at, sel_t, sel_f, initE_at, obj_upd_same, obj_upd_ne, obj_new_same, obj_updnew_same, obj_updnew_same2, obj_new2_same, obj_new3_same, obj_newupd_same, obj_new_ne, obj_new_ne2, obj_new_ne3, obj_new_ne4, next_upd, next_new, add_plain, cop, bin, binInt, un, shiftInt, flat, read_cells, src_ro, src_fix, src_grow, get_cells, List.getElem?_cons_zero, List.getElem?_cons_succ, write_fix, write_grow, setAt, bound, eqK, elemOk_ro, elemOk_fix, elemOk_grow, stiff_ro, stiff_fix, goInt, resultsV, resV, resL, finQ_some, Option.map_some, Option.map_none, Option.bind_some, Option.bind_none, List.map_cons, List.map_nil, List.getD_cons_zero, List.getD_cons_succ, List.getD_nil, Nat.reduceEqDiff, Nat.reduceAdd, Nat.reduceMul, Nat.reduceSub, Nat.reduceLT, Nat.reduceLeDiff, Nat.reduceBEq, if_true, if_false, ite_true, ite_false, List.length_cons, List.length_nil, Nat.zero_add, Nat.add_zero, List.drop_zero, List.drop_succ_cons, List.take_succ_cons, List.take_zero, List.set_cons_zero, List.set_cons_succ, Int.reduceLT, Int.reduceLE, Bool.not_true, Bool.not_false, Option.isNone_some, Option.isNone_none, decide_true, decide_false, beq_self_eq_true, Bool.false_eq_true, Bool.true_eq_false, if_pos, if_neg, reduceCtorEq, beq_iff_eq, BEq.rfl, wrap_i64, wrap_i32, wrap_i8, wrap_u8, wrap_u32, wrap_u64, Nat.mul_one, Int.toNat_natCast, ints_len, List.length_map, List.length_set, beq_ft, beq_tf, List.all_cons, List.all_nil, scalar, Bool.and_self, Bool.true_and, Bool.and_true, List.size_toArray, List.getElem?_toArray, binStr, fillIn, true_and, and_true, true_or, or_true, bne_self_eq_false, Int.reduceToNat, Int.reduceAdd, Int.reduceSub, Int.reduceMul]
    refine num_ok hh _ _ S3 (by rw [List.length_take]; omega) (bd _) ?_
    simp (disch := omega) only [c27, ↓c27_r0_run, ↓c27_r1_run, ↓c27_r2_run, ↓c27_r3_c2_run, ↓c27_r3_c1_run, ↓c27_r3_run, ↓c27_r4_run, ↓c27_r5_run, ↓c27_r6_c4_run, ↓c27_r6_c3_run, ↓c27_r6_c2_run, ↓c27_r6_c1_run, ↓c27_r6_run, ↓c27_r7_run, ↓c27_r8_run, ↓c27_r9_run, t1, bytesOf_all, e0, e1, e8, e9, n1, n2, n3, hel, op, dI, reps, List.append_nil, Nat.mul_one, ↓RunC_seq, ↓RunC_skip, ↓RunC_ret, ↓RunC_exit, ↓RunC_region, ↓RunC_condQ, condQ_true, condQ_false, ↓RunC_block, ↓RunR_done, ↓RunR_op, ↓RunR_opg, ↓RunR_snap, ↓RunR_chk, Holds, Option.getD_none, Option.getD_some, guardR_true, guardR_false, wantV_bool, wantV_none, callvQ_eq, afterR_some, ↓seqQ_normal, ↓seqQ_ret, ↓seqQ_exit, ↓blockQ_normal, ↓blockQ_ret, ↓blockQ_exit, ↓retQ_ret, ↓retQ_normal, ↓callQ_eq, ↓loopQ_normal, ↓loopQ_ret, ↓loopQ_exit, ↓upd_same, upd_at, sel_t, sel_f, initE_at, obj_upd_same, obj_upd_ne, obj_new_same, obj_updnew_same, obj_updnew_same2, obj_new2_same, obj_new3_same, obj_newupd_same, obj_new_ne, obj_new_ne2, obj_new_ne3, obj_new_ne4, next_upd, next_new, add_plain, cop, bin, binInt, un, shiftInt, flat, read_cells, src_ro, src_fix, src_grow, get_cells, List.getElem?_cons_zero, List.getElem?_cons_succ, write_fix, write_grow, setAt, bound, eqK, elemOk_ro, elemOk_fix, elemOk_grow, stiff_ro, stiff_fix, goInt, resultsV, resV, resL, finQ_some, Option.map_some, Option.map_none, Option.bind_some, Option.bind_none, List.map_cons, List.map_nil, List.getD_cons_zero, List.getD_cons_succ, List.getD_nil, Nat.reduceEqDiff, Nat.reduceAdd, Nat.reduceMul, Nat.reduceSub, Nat.reduceLT, Nat.reduceLeDiff, Nat.reduceBEq, if_true, if_false, ite_true, ite_false, List.length_cons, List.length_nil, Nat.zero_add, Nat.add_zero, List.drop_zero, List.drop_succ_cons, List.take_succ_cons, List.take_zero, List.set_cons_zero, List.set_cons_succ, Int.reduceLT, Int.reduceLE, Bool.not_true, Bool.not_false, Option.isNone_some, Option.isNone_none, decide_true, decide_false, beq_self_eq_true, Bool.false_eq_true, Bool.true_eq_false, if_pos, if_neg, reduceCtorEq, beq_iff_eq, BEq.rfl, wrap_i64, wrap_i32, wrap_i8, wrap_u8, wrap_u32, wrap_u64, Nat.mul_one, Int.toNat_natCast, ints_len, List.length_map, List.length_set, beq_ft, beq_tf, List.all_cons, List.all_nil, scalar, Bool.and_self, Bool.true_and, Bool.and_true, List.size_toArray, List.getElem?_toArray, binStr, fillIn, true_and, and_true, true_or, or_true, bne_self_eq_false, Int.reduceToNat, Int.reduceAdd, Int.reduceSub, Int.reduceMul]
    obtain ⟨x, hxd⟩ : ∃ x : CntT, x = (bs ((l'.drop 1).take m), decI ((l'.drop (1 + m)).take 8), decI ((l'.drop (9 + m)).take 8)) := ⟨_, rfl⟩
    have V1 : Vec (hh.new (.cells (CE.enc x) 29 .grow)) 29 CE vv acc b2 := by
      rcases VV with V | V
      · exact .inl V
      · have V' : Vec hh 29 CE vv acc b2 := .inr V
        obtain ⟨_, _, _, hb2l, _⟩ := V
        exact V'.keep (Nat.le_succ _) fun hb => obj_new_ne _ _ (by omega)
    rw [hxd] at V1
    refine V1.app (m := [(bs ((l'.drop 1).take m), decI ((l'.drop (1 + m)).take 8), decI ((l'.drop (9 + m)).take 8))]) rfl (src_enc CE hh (bs ((l'.drop 1).take m), decI ((l'.drop (1 + m)).take 8), decI ((l'.drop (9 + m)).take 8)) 29 1) (by rw [List.length_singleton]; omega) (by rw [List.length_singleton]; omega) fun v2 h2 b3 V2 hn2 hb3 ho2 => ?_
    simp only [next_new] at hn2 hb3 ho2
    have op2 : h2.obj ps = .cells (saidc ⟨sop, rule, ver, rem, ret, al, de, ba, ce, we, sl, er⟩ vv) 36 .fix := (ho2 ps (by omega) (.inr (by omega))).trans ((obj_new_ne _ _ (by omega)).trans op)
    have bn3 : b3 ≠ ps := by omega
    obtain ⟨av, capv, rfl, _⟩ := V2.val
    have hbl := (hps b o cap l'.length rfl)
    have ob2 : h2.obj b = hh.obj b := (ho2 b (by omega) (.inr (by omega))).trans (obj_new_ne _ _ (by omega))
    have hel2 : (h2.obj b).elemOk 5 = true := by rw [ob2]; exact hel
    simp (disch := omega) only [c27, ↓c27_r0_run, ↓c27_r1_run, ↓c27_r2_run, ↓c27_r3_c2_run, ↓c27_r3_c1_run, ↓c27_r3_run, ↓c27_r4_run, ↓c27_r5_run, ↓c27_r6_c4_run, ↓c27_r6_c3_run, ↓c27_r6_c2_run, ↓c27_r6_c1_run, ↓c27_r6_run, ↓c27_r7_run, ↓c27_r8_run, ↓c27_r9_run, e0, e1, e8, e9, n1, n2, n3, op2, hel2, nx, Nat.mul_one, ↓RunC_seq, ↓RunC_skip, ↓RunC_ret, ↓RunC_exit, ↓RunC_region, ↓RunC_condQ, condQ_true, condQ_false, ↓RunC_block, ↓RunR_done, ↓RunR_op, ↓RunR_opg, ↓RunR_snap, ↓RunR_chk, Holds, Option.getD_none, Option.getD_some, guardR_true, guardR_false, wantV_bool, wantV_none, callvQ_eq, afterR_some, ↓seqQ_normal, ↓seqQ_ret, ↓seqQ_exit, ↓blockQ_normal, ↓blockQ_ret, ↓blockQ_exit, ↓retQ_ret, ↓retQ_normal, ↓callQ_eq, ↓loopQ_normal, ↓loopQ_ret, ↓loopQ_exit, ↓upd_same, upd_at, sel_t, sel_f, initE_at, obj_upd_same, obj_upd_ne, obj_new_same, obj_updnew_same, obj_updnew_same2, obj_new2_same, obj_new3_same, obj_newupd_same, obj_new_ne, obj_new_ne2, obj_new_ne3, obj_new_ne4, next_upd, next_new, add_plain, cop, bin, binInt, un, shiftInt, flat, read_cells, src_ro, src_fix, src_grow, get_cells, List.getElem?_cons_zero, List.getElem?_cons_succ, write_fix, write_grow, setAt, bound, eqK, elemOk_ro, elemOk_fix, elemOk_grow, stiff_ro, stiff_fix, goInt, resultsV, resV, resL, finQ_some, Option.map_some, Option.map_none, Option.bind_some, Option.bind_none, List.map_cons, List.map_nil, List.getD_cons_zero, List.getD_cons_succ, List.getD_nil, Nat.reduceEqDiff, Nat.reduceAdd, Nat.reduceMul, Nat.reduceSub, Nat.reduceLT, Nat.reduceLeDiff, Nat.reduceBEq, if_true, if_false, ite_true, ite_false, List.length_cons, List.length_nil, Nat.zero_add, Nat.add_zero, List.drop_zero, List.drop_succ_cons, List.take_succ_cons, List.take_zero, List.set_cons_zero, List.set_cons_succ, Int.reduceLT, Int.reduceLE, Bool.not_true, Bool.not_false, Option.isNone_some, Option.isNone_none, decide_true, decide_false, beq_self_eq_true, Bool.false_eq_true, Bool.true_eq_false, if_pos, if_neg, reduceCtorEq, beq_iff_eq, BEq.rfl, wrap_i64, wrap_i32, wrap_i8, wrap_u8, wrap_u32, wrap_u64, Nat.mul_one, Int.toNat_natCast, ints_len, List.length_map, List.length_set, beq_ft, beq_tf, List.all_cons, List.all_nil, scalar, Bool.and_self, Bool.true_and, Bool.and_true, List.size_toArray, List.getElem?_toArray, binStr, fillIn, true_and, and_true, true_or, or_true, bne_self_eq_false, Int.reduceToNat, Int.reduceAdd, Int.reduceSub, Int.reduceMul]
    refine ⟨d, by omega, i + 1, b3, _, _, acc ++ [(bs ((l'.drop 1).take m), decI ((l'.drop (1 + m)).take 8), decI ((l'.drop (9 + m)).take 8))], l'.drop (17 + m), by omega, ?_, fun y hy => byt y (List.mem_of_mem_drop hy), by rw [List.length_drop]; omega, by rw [List.length_append, List.length_singleton, hacc], ?_, fun b' o' c' m' he => ?_, by omega, fun z h1 h2' => ?_, rfl, V2.keep (Nat.le_refl _) fun hb => obj_upd_ne _ _ bn3, by omega, rfl, rfl⟩
    · rw [hsp, step, Option.map_map]
      congr 1
      funext r
      simp
    · rcases S4 with ⟨hs, _⟩ | ⟨b', o', c', hs, k1, k2, k3, k4⟩
      · simp at hs
      · have hs' := hs
        simp only [Value.slice.injEq, Option.some.injEq, Addr.mk.injEq] at hs'
        obtain ⟨⟨rfl, rfl, _⟩, _, _⟩ := hs'
        exact .inr ⟨b, o + (1 + m + 16), c', hs, k1, by show b < h2.next; omega, by rw [obj_upd_ne _ _ hbl.1]; exact hel2, by rw [obj_upd_ne _ _ hbl.1, ob2]; exact k4⟩
    · simp only [Value.slice.injEq, Option.some.injEq, Addr.mk.injEq] at he
      obtain ⟨⟨rfl, rfl, _⟩, _, _⟩ := he
      exact hbl
    · rw [obj_upd_ne _ _ h2', ho2 z (by omega) (.inr (by omega)), obj_new_ne _ _ (by omega), oh z h1 h2']
  · have b1 : decide ((i : Int) < (n : Int)) = false := decide_eq_false (by omega)
    obtain rfl : d = 0 := by omega
    obtain rfl : i = n := by omega
    obtain ⟨a, cap, rfl, hcap⟩ := hv.val
    by_cases c : l' = []
    · subst c
      have z : (((0 : Nat) : Int) == 0) = true := rfl
      have hs : listS i l = some acc := by rw [hsp]; simp [listS]
      simp (disch := omega) only [c27_l0, c27, ↓c27_r0_run, ↓c27_r1_run, ↓c27_r2_run, ↓c27_r3_c2_run, ↓c27_r3_c1_run, ↓c27_r3_run, ↓c27_r4_run, ↓c27_r5_run, ↓c27_r6_c4_run, ↓c27_r6_c3_run, ↓c27_r6_c2_run, ↓c27_r6_c1_run, ↓c27_r6_run, ↓c27_r7_run, ↓c27_r8_run, ↓c27_r9_run, e0, e1, e8, e9, b1, List.length_nil, z, ↓RunC_seq, ↓RunC_skip, ↓RunC_ret, ↓RunC_exit, ↓RunC_region, ↓RunC_condQ, condQ_true, condQ_false, ↓RunC_block, ↓RunR_done, ↓RunR_op, ↓RunR_opg, ↓RunR_snap, ↓RunR_chk, Holds, Option.getD_none, Option.getD_some, guardR_true, guardR_false, wantV_bool, wantV_none, callvQ_eq, afterR_some, ↓seqQ_normal, ↓seqQ_ret, ↓seqQ_exit, ↓blockQ_normal, ↓blockQ_ret, ↓blockQ_exit, ↓retQ_ret, ↓retQ_normal, ↓callQ_eq, ↓loopQ_normal, ↓loopQ_ret, ↓loopQ_exit, ↓upd_same, upd_at, sel_t, sel_f, initE_at, obj_upd_same, obj_upd_ne, obj_new_same, obj_updnew_same, obj_updnew_same2, obj_new2_same, obj_new3_same, obj_newupd_same, obj_new_ne, obj_new_ne2, obj_new_ne3, obj_new_ne4, next_upd, next_new, add_plain, cop, bin, binInt, un, shiftInt, flat, read_cells, src_ro, src_fix, src_grow, get_cells, List.getElem?_cons_zero, List.getElem?_cons_succ, write_fix, write_grow, setAt, bound, eqK, elemOk_ro, elemOk_fix, elemOk_grow, stiff_ro, stiff_fix, goInt, resultsV, resV, resL, finQ_some, Option.map_some, Option.map_none, Option.bind_some, Option.bind_none, List.map_cons, List.map_nil, List.getD_cons_zero, List.getD_cons_succ, List.getD_nil, Nat.reduceEqDiff, Nat.reduceAdd, Nat.reduceMul, Nat.reduceSub, Nat.reduceLT, Nat.reduceLeDiff, Nat.reduceBEq, if_true, if_false, ite_true, ite_false, List.length_cons, List.length_nil, Nat.zero_add, Nat.add_zero, List.drop_zero, List.drop_succ_cons, List.take_succ_cons, List.take_zero, List.set_cons_zero, List.set_cons_succ, Int.reduceLT, Int.reduceLE, Bool.not_true, Bool.not_false, Option.isNone_some, Option.isNone_none, decide_true, decide_false, beq_self_eq_true, Bool.false_eq_true, Bool.true_eq_false, if_pos, if_neg, reduceCtorEq, beq_iff_eq, BEq.rfl, wrap_i64, wrap_i32, wrap_i8, wrap_u8, wrap_u32, wrap_u64, Nat.mul_one, Int.toNat_natCast, ints_len, List.length_map, List.length_set, beq_ft, beq_tf, List.all_cons, List.all_nil, scalar, Bool.and_self, Bool.true_and, Bool.and_true, List.size_toArray, List.getElem?_toArray, binStr, fillIn, true_and, and_true, true_or, or_true, bne_self_eq_false, Int.reduceToNat, Int.reduceAdd, Int.reduceSub, Int.reduceMul]
      exact hQ1 _ acc vv b2 hs nh oh op VV hb2
    · have z : ((l'.length : Int) == 0) = false := by
        have := List.length_pos_iff.2 c
        rw [beq_eq_false_iff_ne]; omega
      have hs : listS i l = none := by rw [hsp]; simp [listS, c]
      simp (disch := omega) only [c27_l0, c27, ↓c27_r0_run, ↓c27_r1_run, ↓c27_r2_run, ↓c27_r3_c2_run, ↓c27_r3_c1_run, ↓c27_r3_run, ↓c27_r4_run, ↓c27_r5_run, ↓c27_r6_c4_run, ↓c27_r6_c3_run, ↓c27_r6_c2_run, ↓c27_r6_c1_run, ↓c27_r6_run, ↓c27_r7_run, ↓c27_r8_run, ↓c27_r9_run, e0, e1, e8, e9, b1, z, ↓RunC_seq, ↓RunC_skip, ↓RunC_ret, ↓RunC_exit, ↓RunC_region, ↓RunC_condQ, condQ_true, condQ_false, ↓RunC_block, ↓RunR_done, ↓RunR_op, ↓RunR_opg, ↓RunR_snap, ↓RunR_chk, Holds, Option.getD_none, Option.getD_some, guardR_true, guardR_false, wantV_bool, wantV_none, callvQ_eq, afterR_some, ↓seqQ_normal, ↓seqQ_ret, ↓seqQ_exit, ↓blockQ_normal, ↓blockQ_ret, ↓blockQ_exit, ↓retQ_ret, ↓retQ_normal, ↓callQ_eq, ↓loopQ_normal, ↓loopQ_ret, ↓loopQ_exit, ↓upd_same, upd_at, sel_t, sel_f, initE_at, obj_upd_same, obj_upd_ne, obj_new_same, obj_updnew_same, obj_updnew_same2, obj_new2_same, obj_new3_same, obj_newupd_same, obj_new_ne, obj_new_ne2, obj_new_ne3, obj_new_ne4, next_upd, next_new, add_plain, cop, bin, binInt, un, shiftInt, flat, read_cells, src_ro, src_fix, src_grow, get_cells, List.getElem?_cons_zero, List.getElem?_cons_succ, write_fix, write_grow, setAt, bound, eqK, elemOk_ro, elemOk_fix, elemOk_grow, stiff_ro, stiff_fix, goInt, resultsV, resV, resL, finQ_some, Option.map_some, Option.map_none, Option.bind_some, Option.bind_none, List.map_cons, List.map_nil, List.getD_cons_zero, List.getD_cons_succ, List.getD_nil, Nat.reduceEqDiff, Nat.reduceAdd, Nat.reduceMul, Nat.reduceSub, Nat.reduceLT, Nat.reduceLeDiff, Nat.reduceBEq, if_true, if_false, ite_true, ite_false, List.length_cons, List.length_nil, Nat.zero_add, Nat.add_zero, List.drop_zero, List.drop_succ_cons, List.take_succ_cons, List.take_zero, List.set_cons_zero, List.set_cons_succ, Int.reduceLT, Int.reduceLE, Bool.not_true, Bool.not_false, Option.isNone_some, Option.isNone_none, decide_true, decide_false, beq_self_eq_true, Bool.false_eq_true, Bool.true_eq_false, if_pos, if_neg, reduceCtorEq, beq_iff_eq, BEq.rfl, wrap_i64, wrap_i32, wrap_i8, wrap_u8, wrap_u32, wrap_u64, Nat.mul_one, Int.toNat_natCast, ints_len, List.length_map, List.length_set, beq_ft, beq_tf, List.all_cons, List.all_nil, scalar, Bool.and_self, Bool.true_and, Bool.and_true, List.size_toArray, List.getElem?_toArray, binStr, fillIn, true_and, and_true, true_or, or_true, bne_self_eq_false, Int.reduceToNat, Int.reduceAdd, Int.reduceSub, Int.reduceMul]
      exact hQ2 _ hs nh oh
end Go.Proofs.YtcmanhhpfbinoaaDoor.Can
