/- A new ring, in the canonical machine. No condition. -/
import Derived.Test.YtcmdehfbidgoeaaSRing
namespace Go.Proofs.Ytcmdehfbidgoeaa.Can
open Go
set_option linter.unusedSimpArgs false
set_option linter.unusedVariables false
attribute [local congr] RunR_congr RunC_congr afterR_congr guardR_congr condQ_congr CALL_congr finQ_congr op_congr opg_congr

theorem reps_ptr (n : Nat) : reps n [Value.pointer none] = (List.range n).map fun _ => Value.pointer none := by
  rw [List.map_const', List.length_range]
  induction n with
  | zero => rfl
  | succ n ih => rw [List.replicate_succ]; show [Value.pointer none] ++ reps n [.pointer none] = _; rw [ih]; rfl
/-- The slots that are made so far. -/
def ptrs (N j : Nat) (ps : Nat → Nat) : List Value := (List.range N).map fun i => if i < j then Value.pointer (some ⟨ps i, 0, none⟩) else .pointer none
theorem ptrs_len (N j : Nat) (ps : Nat → Nat) : (ptrs N j ps).length = N := by simp [ptrs]
theorem ptrs_zero (N : Nat) (ps : Nat → Nat) : (List.range N).map (fun _ => Value.pointer none) = ptrs N 0 ps := by simp [ptrs]
theorem ptrs_set (N j : Nat) (ps : Nat → Nat) (hj : j < N) (p : Nat) : (ptrs N j ps).set j (.pointer (some ⟨p, 0, none⟩)) = ptrs N (j + 1) fun i => if i = j then p else ps i := by
  apply List.ext_getElem?
  intro i
  rw [List.getElem?_set]
  unfold ptrs
  by_cases e : j = i
  · subst e
    rw [if_pos rfl, List.length_map, List.length_range, if_pos hj, List.getElem?_map, List.getElem?_range hj]
    simp
  · rw [if_neg e, List.getElem?_map, List.getElem?_map]
    by_cases hi : i < N
    · rw [List.getElem?_range hi]
      simp only [Option.map_some]
      have : (if i = j then p else ps i) = ps i := if_neg (Ne.symm e)
      rw [this]
      by_cases h2 : i < j
      · rw [if_pos h2, if_pos (by omega)]
      · rw [if_neg h2, if_neg (by omega)]
    · rw [List.getElem?_eq_none (by simp; omega)]; rfl
abbrev ruleC (L Wd B S C Rr w T : Int) (sm : Bool) : List Value := [.int .i64 L, .int .i64 Wd, .int .i64 B, .int .i64 S, .int .i64 C, .int .i64 Rr, .int .i64 w, .int .i64 T, .bool sm]
theorem rnew_ok (h : Heap) (rv : Value) (rb : Nat) (rows : List RowT) (V : Vec h 63 RowE rv rows rb) (ok : ∀ r ∈ rows, r.OK) (hr : 1 ≤ rows.length ∧ rows.length ≤ 8)
    (L Wd B C Rr T : Int) (S w : Nat) (sm : Bool) (hS : 1 ≤ S ∧ S ≤ 64) (hw : 1 ≤ w ∧ w ≤ 4096) (hWd : 0 ≤ Wd) (hW : 1 ≤ Wd / (S : Int) ∧ Wd / (S : Int) ≤ 1099511627776) (hL : I64 L) {Q : Value → Heap → Prop}
    (hQ : ∀ h' (r : RP), Old h h' → RingAt h' r 0 (List.replicate (S + 1) 0) (fun _ => List.replicate (rows.length * w) 0) → r.N = S + 1 → r.w = w → r.W = Wd / (S : Int) → r.L = L → r.part = sm → r.rows = rows → h.next ≤ r.x → h.next ≤ r.tb → (∀ i, i < r.N → h.next ≤ r.nbs i) → Q (.pointer (some ⟨r.x, 0, none⟩)) h') :
    CALL cp 12 [.agg (ruleC L Wd B S C Rr w T sm).toArray, rv] h Q := by
  rw [CALL_enter cp cp12]
  obtain ⟨a, cap, rfl, hc⟩ := V.val
  have hb : rb < h.next := by obtain ⟨_, _, _, hl, _⟩ := V.at (by omega); exact hl
  have a1 : decide ((S : Int) < 1) = false := decide_eq_false (by omega)
  have a2 : decide ((S : Int) > 64) = false := decide_eq_false (by omega)
  have n0 : ((S : Int) = 0) = False := by simp; omega
  have t1 : Int.tdiv Wd (S : Int) = Wd / (S : Int) := tdiv_nn _ _ hWd
  have a3 : decide (Wd / (S : Int) < 1) = false := decide_eq_false (by omega)
  have a4 : ((rows.length : Int) == 0) = false := beq_eq_false_iff_ne.2 (by omega)
  have a5 : decide ((w : Int) < 1) = false := decide_eq_false (by omega)
  have k1 : (S : Int) + 1 = ((S + 1 : Nat) : Int) := by omega
  have t4 : ∀ a b c d, ((((h.new a).new b).new c).new d).obj (h.next + 1 + 1 + 1) = d := fun a b c d => obj_new_same _ _
  simp (disch := first | omega | (simp only [next_new, next_upd, ne_eq]; omega)) only [c12, ↓c12_r0_run, ↓c12_r1_c2_run, ↓c12_r1_c1_run, ↓c12_r1_run, ↓c12_r2_run, ↓c12_r3_c2_run, ↓c12_r3_c1_run, ↓c12_r3_run, ↓c12_r4_run, ↓c12_r5_run, ↓c12_r6_run, ↓c12_r7_c1_run, ↓c12_r7_run, ↓c12_r8_run, ↓c12_r9_run, a1, a2, a3, a4, a5, n0, t1, t4, k1, reps_ptr, reps_int, ptrs_zero _ (fun _ => 0), ↓RunC_seq, ↓RunC_skip, ↓RunC_ret, ↓RunC_exit, ↓RunC_region, ↓RunC_condQ, condQ_true, condQ_false, ↓RunC_block, ↓RunR_done, ↓RunR_op, ↓RunR_opg, ↓RunR_snap, ↓RunR_chk, Holds, Option.getD_none, Option.getD_some, guardR_true, guardR_false, wantV_bool, wantV_none, callvQ_eq, afterR_some, ↓seqQ_normal, ↓seqQ_ret, ↓seqQ_exit, ↓blockQ_normal, ↓blockQ_ret, ↓blockQ_exit, ↓retQ_ret, ↓retQ_normal, ↓callQ_eq, ↓loopQ_normal, ↓loopQ_ret, ↓loopQ_exit, ↓upd_same, upd_at, sel_t, sel_f, initE_at, obj_upd_same, obj_upd_ne, obj_new_same, obj_updnew_same, obj_updnew_same2, obj_new2_same, obj_new3_same, obj_newupd_same, obj_new_ne, obj_new_ne2, obj_new_ne3, obj_new_ne4, next_upd, next_new, add_plain, cop, bin, binInt, un, shiftInt, flat, read_cells, src_ro, src_fix, src_grow, get_cells, List.getElem?_cons_zero, List.getElem?_cons_succ, write_fix, write_grow, setAt, bound, eqK, elemOk_ro, elemOk_fix, elemOk_grow, stiff_ro, stiff_fix, goInt, resultsV, resV, resL, finQ_some, Option.map_some, Option.map_none, Option.bind_some, Option.bind_none, List.map_cons, List.map_nil, List.getD_cons_zero, List.getD_cons_succ, List.getD_nil, Nat.reduceEqDiff, Nat.reduceAdd, Nat.reduceMul, Nat.reduceSub, Nat.reduceLT, Nat.reduceLeDiff, Nat.reduceBEq, if_true, if_false, ite_true, ite_false, List.length_cons, List.length_nil, Nat.zero_add, Nat.add_zero, List.drop_zero, List.drop_succ_cons, List.take_succ_cons, List.take_zero, List.set_cons_zero, List.set_cons_succ, Int.reduceLT, Int.reduceLE, Bool.not_true, Bool.not_false, Option.isNone_some, Option.isNone_none, decide_true, decide_false, beq_self_eq_true, Bool.false_eq_true, Bool.true_eq_false, if_pos, if_neg, reduceCtorEq, beq_iff_eq, BEq.rfl, wrap_i64, wrap_i32, wrap_i8, wrap_u8, wrap_u32, wrap_u64, Nat.mul_one, Int.toNat_natCast, ints_len, List.length_map, List.length_set, beq_ft, beq_tf, List.all_cons, List.all_nil, scalar, Bool.and_self, Bool.true_and, Bool.and_true, List.size_toArray, List.getElem?_toArray, binStr, fillIn, true_and, and_true, true_or, or_true, bne_self_eq_false, Int.reduceToNat, Int.reduceAdd, Int.reduceSub, Int.reduceMul]
  obtain ⟨H, hH⟩ : ∃ H, H = ((((h.new (.cells (ruleC L Wd B S C Rr w T sm) 26 .fix)).new (.cells (ptrs (S + 1) 0 fun _ => 0) 57 .grow)).new (.cells (ints .i64 (List.replicate (S + 1) 0)) 2 .grow)).new
    (.cells [.slice (some ⟨h.next + 1, 0, none⟩) (S + 1) (S + 1), .slice (some ⟨h.next + 1 + 1, 0, none⟩) (S + 1) (S + 1), .int .i64 (Wd / (S : Int)), .int .i64 rows.length, .int .i64 L, .bool sm, .int .i64 0] 56 .fix)) := ⟨_, rfl⟩
  have oH : Old h H := by rw [hH]; exact (((((Old.refl h).more _).more _).more _).more _)
  have nH : H.next = h.next + 1 + 1 + 1 + 1 := by rw [hH]; rfl
  have gx : H.obj (h.next + 1 + 1 + 1) = .cells [.slice (some ⟨h.next + 1, 0, none⟩) (S + 1) (S + 1), .slice (some ⟨h.next + 1 + 1, 0, none⟩) (S + 1) (S + 1), .int .i64 (Wd / (S : Int)), .int .i64 rows.length, .int .i64 L, .bool sm, .int .i64 0] 56 .fix := by rw [hH]; exact obj_new_same _ _
  have gt : H.obj (h.next + 1 + 1) = .cells (ints .i64 (List.replicate (S + 1) 0)) 2 .grow := by rw [hH, obj_new_ne _ _ (by simp only [next_new]; omega)]; exact obj_new_same _ _
  have gs : H.obj (h.next + 1) = .cells (ptrs (S + 1) 0 fun _ => 0) 57 .grow := by rw [hH, obj_new_ne _ _ (by simp only [next_new]; omega), obj_new_ne _ _ (by simp only [next_new]; omega)]; exact obj_new_same _ _
  have gr : H.obj h.next = .cells (ruleC L Wd B S C Rr w T sm) 26 .fix := by rw [hH, obj_new_ne _ _ (by simp only [next_new]; omega), obj_new_ne _ _ (by simp only [next_new]; omega), obj_new_ne _ _ (by simp only [next_new]; omega)]; exact obj_new_same _ _
  have VH := V.keep oH.next fun hl => oH.obj rb hl
  rw [← hH]
  clear hH t4
  refine RunC_loop cp c12_l0 _ (fun d e hh => ∃ (j : Nat) (ps nbs : Nat → Nat), j + d = S + 1 ∧ OldX (h.next + 1) H hh ∧ hh.obj (h.next + 1) = .cells (ptrs (S + 1) j ps) 57 .grow ∧
      (∀ i, i < j → SlotAt hh (ps i) (nbs i) (.slice a rows.length cap) rb rows w (List.replicate (rows.length * w) 0) ∧ H.next ≤ ps i ∧ H.next ≤ nbs i) ∧ (∀ i k, i < j → k < j → (i ≠ k → nbs i ≠ nbs k) ∧ ps i ≠ nbs k) ∧
      e 1 = .slice a rows.length cap ∧ e 2 = .pointer (some ⟨h.next, 0, none⟩) ∧ e 5 = .pointer (some ⟨h.next + 1 + 1 + 1, 0, none⟩) ∧ e 58 = .int .i64 ((S + 1 : Nat) : Int) ∧ e 59 = .int .i64 j) ?_ (S + 1) _ _
    ⟨0, fun _ => 0, fun _ => 0, by omega, OldX.refl _ _, gs, fun i hi => by omega, fun i k hi => by omega, rfl, rfl, rfl, rfl, rfl⟩
  rintro d e hh ⟨j, ps, nbs, hj, o, hs, hsl, hap, e1, e2, e5, e58, e59⟩
  have on := o.next
  have gx1 := (o.obj _ (by omega) (by omega)).trans gx
  have gr1 := (o.obj _ (by omega) (by omega)).trans gr
  by_cases c : j < S + 1
  · have b1 : decide ((j : Int) < ((S + 1 : Nat) : Int)) = true := decide_eq_true (by omega)
    have nx : (j : Int) + 1 = ((j + 1 : Nat) : Int) := by omega
    simp (disch := first | omega | (simp only [next_new, next_upd, ne_eq]; omega)) only [c12_l0, c12, ↓c12_r0_run, ↓c12_r1_c2_run, ↓c12_r1_c1_run, ↓c12_r1_run, ↓c12_r2_run, ↓c12_r3_c2_run, ↓c12_r3_c1_run, ↓c12_r3_run, ↓c12_r4_run, ↓c12_r5_run, ↓c12_r6_run, ↓c12_r7_c1_run, ↓c12_r7_run, ↓c12_r8_run, ↓c12_r9_run, e1, e2, e5, e58, e59, b1, gx1, gr1, ↓RunC_seq, ↓RunC_skip, ↓RunC_ret, ↓RunC_exit, ↓RunC_region, ↓RunC_condQ, condQ_true, condQ_false, ↓RunC_block, ↓RunR_done, ↓RunR_op, ↓RunR_opg, ↓RunR_snap, ↓RunR_chk, Holds, Option.getD_none, Option.getD_some, guardR_true, guardR_false, wantV_bool, wantV_none, callvQ_eq, afterR_some, ↓seqQ_normal, ↓seqQ_ret, ↓seqQ_exit, ↓blockQ_normal, ↓blockQ_ret, ↓blockQ_exit, ↓retQ_ret, ↓retQ_normal, ↓callQ_eq, ↓loopQ_normal, ↓loopQ_ret, ↓loopQ_exit, ↓upd_same, upd_at, sel_t, sel_f, initE_at, obj_upd_same, obj_upd_ne, obj_new_same, obj_updnew_same, obj_updnew_same2, obj_new2_same, obj_new3_same, obj_newupd_same, obj_new_ne, obj_new_ne2, obj_new_ne3, obj_new_ne4, next_upd, next_new, add_plain, cop, bin, binInt, un, shiftInt, flat, read_cells, src_ro, src_fix, src_grow, get_cells, List.getElem?_cons_zero, List.getElem?_cons_succ, write_fix, write_grow, setAt, bound, eqK, elemOk_ro, elemOk_fix, elemOk_grow, stiff_ro, stiff_fix, goInt, resultsV, resV, resL, finQ_some, Option.map_some, Option.map_none, Option.bind_some, Option.bind_none, List.map_cons, List.map_nil, List.getD_cons_zero, List.getD_cons_succ, List.getD_nil, Nat.reduceEqDiff, Nat.reduceAdd, Nat.reduceMul, Nat.reduceSub, Nat.reduceLT, Nat.reduceLeDiff, Nat.reduceBEq, if_true, if_false, ite_true, ite_false, List.length_cons, List.length_nil, Nat.zero_add, Nat.add_zero, List.drop_zero, List.drop_succ_cons, List.take_succ_cons, List.take_zero, List.set_cons_zero, List.set_cons_succ, Int.reduceLT, Int.reduceLE, Bool.not_true, Bool.not_false, Option.isNone_some, Option.isNone_none, decide_true, decide_false, beq_self_eq_true, Bool.false_eq_true, Bool.true_eq_false, if_pos, if_neg, reduceCtorEq, beq_iff_eq, BEq.rfl, wrap_i64, wrap_i32, wrap_i8, wrap_u8, wrap_u32, wrap_u64, Nat.mul_one, Int.toNat_natCast, ints_len, List.length_map, List.length_set, beq_ft, beq_tf, List.all_cons, List.all_nil, scalar, Bool.and_self, Bool.true_and, Bool.and_true, List.size_toArray, List.getElem?_toArray, binStr, fillIn, true_and, and_true, true_or, or_true, bne_self_eq_false, Int.reduceToNat, Int.reduceAdd, Int.reduceSub, Int.reduceMul]
    refine new_ok hh _ rb rows w (VH.keep on fun hl => o.obj rb hl (by omega)) ok hr hw fun h2 p nb o2 S2 hp hn => ?_
    have gx2 := (o2.obj _ (by omega)).trans gx1
    have hs2 := (o2.obj (h.next + 1) (by omega)).trans hs
    have hle := o2.next
    have lnb := S2.ln
    have lp := S2.lp
    simp (disch := first | omega | (simp only [next_new, next_upd, ne_eq]; omega)) only [c12, ↓c12_r0_run, ↓c12_r1_c2_run, ↓c12_r1_c1_run, ↓c12_r1_run, ↓c12_r2_run, ↓c12_r3_c2_run, ↓c12_r3_c1_run, ↓c12_r3_run, ↓c12_r4_run, ↓c12_r5_run, ↓c12_r6_run, ↓c12_r7_c1_run, ↓c12_r7_run, ↓c12_r8_run, ↓c12_r9_run, e1, e2, e5, e58, e59, gx2, hs2, nx, setAt_one, ptrs_len, ptrs_set _ _ _ c, ↓RunC_seq, ↓RunC_skip, ↓RunC_ret, ↓RunC_exit, ↓RunC_region, ↓RunC_condQ, condQ_true, condQ_false, ↓RunC_block, ↓RunR_done, ↓RunR_op, ↓RunR_opg, ↓RunR_snap, ↓RunR_chk, Holds, Option.getD_none, Option.getD_some, guardR_true, guardR_false, wantV_bool, wantV_none, callvQ_eq, afterR_some, ↓seqQ_normal, ↓seqQ_ret, ↓seqQ_exit, ↓blockQ_normal, ↓blockQ_ret, ↓blockQ_exit, ↓retQ_ret, ↓retQ_normal, ↓callQ_eq, ↓loopQ_normal, ↓loopQ_ret, ↓loopQ_exit, ↓upd_same, upd_at, sel_t, sel_f, initE_at, obj_upd_same, obj_upd_ne, obj_new_same, obj_updnew_same, obj_updnew_same2, obj_new2_same, obj_new3_same, obj_newupd_same, obj_new_ne, obj_new_ne2, obj_new_ne3, obj_new_ne4, next_upd, next_new, add_plain, cop, bin, binInt, un, shiftInt, flat, read_cells, src_ro, src_fix, src_grow, get_cells, List.getElem?_cons_zero, List.getElem?_cons_succ, write_fix, write_grow, setAt, bound, eqK, elemOk_ro, elemOk_fix, elemOk_grow, stiff_ro, stiff_fix, goInt, resultsV, resV, resL, finQ_some, Option.map_some, Option.map_none, Option.bind_some, Option.bind_none, List.map_cons, List.map_nil, List.getD_cons_zero, List.getD_cons_succ, List.getD_nil, Nat.reduceEqDiff, Nat.reduceAdd, Nat.reduceMul, Nat.reduceSub, Nat.reduceLT, Nat.reduceLeDiff, Nat.reduceBEq, if_true, if_false, ite_true, ite_false, List.length_cons, List.length_nil, Nat.zero_add, Nat.add_zero, List.drop_zero, List.drop_succ_cons, List.take_succ_cons, List.take_zero, List.set_cons_zero, List.set_cons_succ, Int.reduceLT, Int.reduceLE, Bool.not_true, Bool.not_false, Option.isNone_some, Option.isNone_none, decide_true, decide_false, beq_self_eq_true, Bool.false_eq_true, Bool.true_eq_false, if_pos, if_neg, reduceCtorEq, beq_iff_eq, BEq.rfl, wrap_i64, wrap_i32, wrap_i8, wrap_u8, wrap_u32, wrap_u64, Nat.mul_one, Int.toNat_natCast, ints_len, List.length_map, List.length_set, beq_ft, beq_tf, List.all_cons, List.all_nil, scalar, Bool.and_self, Bool.true_and, Bool.and_true, List.size_toArray, List.getElem?_toArray, binStr, fillIn, true_and, and_true, true_or, or_true, bne_self_eq_false, Int.reduceToNat, Int.reduceAdd, Int.reduceSub, Int.reduceMul]
    have oX : OldX (h.next + 1) h2 (h2.upd (h.next + 1) (.cells (ptrs (S + 1) (j + 1) fun i => if i = j then p else ps i) 57 .grow)) := ⟨Nat.le_refl _, fun b _ hb => obj_upd_ne _ _ hb⟩
    refine ⟨d - 1, by omega, j + 1, fun i => if i = j then p else ps i, fun i => if i = j then nb else nbs i, by omega, (o.trans (o2.x _)).trans oX, ?_, fun i hi => ?_, fun i k hi hk => ?_, ?_⟩
    · first | rfl | exact obj_upd_same _ _ _
    · by_cases e : i = j
      · subst e
        simp only [if_true]
        exact ⟨S2.oldx oX (by omega) (by omega) (by omega), by omega, by omega⟩
      · simp only [if_neg e]
        obtain ⟨s1, s2, s3⟩ := hsl i (by omega)
        exact ⟨(s1.old o2).oldx oX (by omega) (by omega) (by omega), s2, s3⟩
    · by_cases ei : i = j
      · by_cases ek : k = j
        · subst ei; subst ek
          simp only [if_true]
          exact ⟨fun h => absurd rfl h, S2.pn⟩
        · obtain ⟨s1, s2, s3⟩ := hsl k (by omega)
          have := s1.ln
          simp only [if_pos ei, if_neg ek]
          exact ⟨fun _ => by omega, by omega⟩
      · by_cases ek : k = j
        · obtain ⟨s1, s2, s3⟩ := hsl i (by omega)
          have := s1.ln
          have := s1.lp
          simp only [if_neg ei, if_pos ek]
          exact ⟨fun _ => by omega, by omega⟩
        · simp only [if_neg ei, if_neg ek]
          exact hap i k (by omega) (by omega)
    · repeat' first | assumption | rfl | apply And.intro
  · have b1 : decide ((j : Int) < ((S + 1 : Nat) : Int)) = false := decide_eq_false (by omega)
    obtain rfl : j = S + 1 := by omega
    simp (disch := first | omega | (simp only [next_new, next_upd, ne_eq]; omega)) only [c12_l0, c12, ↓c12_r0_run, ↓c12_r1_c2_run, ↓c12_r1_c1_run, ↓c12_r1_run, ↓c12_r2_run, ↓c12_r3_c2_run, ↓c12_r3_c1_run, ↓c12_r3_run, ↓c12_r4_run, ↓c12_r5_run, ↓c12_r6_run, ↓c12_r7_c1_run, ↓c12_r7_run, ↓c12_r8_run, ↓c12_r9_run, e1, e2, e5, e58, e59, b1, ↓RunC_seq, ↓RunC_skip, ↓RunC_ret, ↓RunC_exit, ↓RunC_region, ↓RunC_condQ, condQ_true, condQ_false, ↓RunC_block, ↓RunR_done, ↓RunR_op, ↓RunR_opg, ↓RunR_snap, ↓RunR_chk, Holds, Option.getD_none, Option.getD_some, guardR_true, guardR_false, wantV_bool, wantV_none, callvQ_eq, afterR_some, ↓seqQ_normal, ↓seqQ_ret, ↓seqQ_exit, ↓blockQ_normal, ↓blockQ_ret, ↓blockQ_exit, ↓retQ_ret, ↓retQ_normal, ↓callQ_eq, ↓loopQ_normal, ↓loopQ_ret, ↓loopQ_exit, ↓upd_same, upd_at, sel_t, sel_f, initE_at, obj_upd_same, obj_upd_ne, obj_new_same, obj_updnew_same, obj_updnew_same2, obj_new2_same, obj_new3_same, obj_newupd_same, obj_new_ne, obj_new_ne2, obj_new_ne3, obj_new_ne4, next_upd, next_new, add_plain, cop, bin, binInt, un, shiftInt, flat, read_cells, src_ro, src_fix, src_grow, get_cells, List.getElem?_cons_zero, List.getElem?_cons_succ, write_fix, write_grow, setAt, bound, eqK, elemOk_ro, elemOk_fix, elemOk_grow, stiff_ro, stiff_fix, goInt, resultsV, resV, resL, finQ_some, Option.map_some, Option.map_none, Option.bind_some, Option.bind_none, List.map_cons, List.map_nil, List.getD_cons_zero, List.getD_cons_succ, List.getD_nil, Nat.reduceEqDiff, Nat.reduceAdd, Nat.reduceMul, Nat.reduceSub, Nat.reduceLT, Nat.reduceLeDiff, Nat.reduceBEq, if_true, if_false, ite_true, ite_false, List.length_cons, List.length_nil, Nat.zero_add, Nat.add_zero, List.drop_zero, List.drop_succ_cons, List.take_succ_cons, List.take_zero, List.set_cons_zero, List.set_cons_succ, Int.reduceLT, Int.reduceLE, Bool.not_true, Bool.not_false, Option.isNone_some, Option.isNone_none, decide_true, decide_false, beq_self_eq_true, Bool.false_eq_true, Bool.true_eq_false, if_pos, if_neg, reduceCtorEq, beq_iff_eq, BEq.rfl, wrap_i64, wrap_i32, wrap_i8, wrap_u8, wrap_u32, wrap_u64, Nat.mul_one, Int.toNat_natCast, ints_len, List.length_map, List.length_set, beq_ft, beq_tf, List.all_cons, List.all_nil, scalar, Bool.and_self, Bool.true_and, Bool.and_true, List.size_toArray, List.getElem?_toArray, binStr, fillIn, true_and, and_true, true_or, or_true, bne_self_eq_false, Int.reduceToNat, Int.reduceAdd, Int.reduceSub, Int.reduceMul]
    have gt1 := (o.obj _ (by omega) (by omega)).trans gt
    refine hQ hh ⟨h.next + 1 + 1 + 1, h.next + 1, h.next + 1 + 1, ps, nbs, .slice a rows.length cap, rb, rows, S + 1, w, Wd / (S : Int), L, sm⟩ ((oH.x _).trans o |>.fresh (Nat.le_succ _)) ?_ rfl rfl rfl rfl rfl rfl (by show h.next ≤ h.next + 1 + 1 + 1; omega) (by show h.next ≤ h.next + 1 + 1; omega) fun i hi => by have := (hsl i hi).2.2; show h.next ≤ nbs i; omega
    refine ⟨gx1, by show h.next + 1 + 1 + 1 < hh.next; omega, ?_, by show h.next + 1 < hh.next; omega, gt1, by show h.next + 1 + 1 < hh.next; omega, by simp, fun x hx => by rw [(List.mem_replicate.1 hx).2]; unfold I64; omega, by show 2 ≤ S + 1 ∧ S + 1 ≤ 65; omega, hW, hL, fun i hi => (hsl i hi).1, fun i k hi hk => (hap i k hi hk).1, fun i k hi hk => (hap i k hi hk).2, fun i hi => ?_, fun i hi => ?_, ?_, ?_⟩
    · show hh.obj (h.next + 1) = _
      rw [hs]
      congr 1
      unfold ptrs
      apply List.map_congr_left
      intro i hi
      rw [if_pos (List.mem_range.1 hi)]
    · obtain ⟨_, s2, s3⟩ := hsl i hi
      show h.next + 1 + 1 + 1 ≠ nbs i ∧ h.next + 1 ≠ nbs i ∧ h.next + 1 + 1 ≠ nbs i
      omega
    · obtain ⟨_, s2, s3⟩ := hsl i hi
      show ps i ≠ h.next + 1 + 1 + 1 ∧ ps i ≠ h.next + 1 + 1
      omega
    · show h.next + 1 + 1 + 1 ≠ h.next + 1 ∧ h.next + 1 + 1 + 1 ≠ h.next + 1 + 1 ∧ h.next + 1 ≠ h.next + 1 + 1
      omega
    · show rb ≠ h.next + 1 + 1 + 1 ∧ rb ≠ h.next + 1 + 1
      omega
end Go.Proofs.Ytcmdehfbidgoeaa.Can
