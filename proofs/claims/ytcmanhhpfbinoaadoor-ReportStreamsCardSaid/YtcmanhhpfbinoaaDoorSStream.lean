/- report.Stream, in the canonical machine. No condition. -/
import Derived.Test.YtcmanhhpfbinoaaDoorSReadF
namespace Go.Proofs.YtcmanhhpfbinoaaDoor.Can
open Go
set_option linter.unusedSimpArgs false
set_option linter.unusedVariables false
attribute [local congr] RunR_congr RunC_congr afterR_congr guardR_congr condQ_congr CALL_congr finQ_congr op_congr opg_congr

theorem byts_getD {l : List Int} (h : Byts l) (i : Nat) : 0 ≤ l.getD i 0 ∧ l.getD i 0 < 256 := by
  rw [List.getD_eq_getElem?_getD]
  cases e : l[i]? with
  | none => exact ⟨Int.le_refl _, by decide⟩
  | some x => exact h x (List.mem_of_getElem? e)
theorem g8_i64 (l : List Int) (i : Nat) : I64 (g8 l i) := i64_decI _
theorem i64_small {x : Int} (h : 0 ≤ x ∧ x < 256) : I64 x := by unfold I64; omega
theorem i64_0 : I64 0 := by unfold I64; omega
theorem rdS_ok {op : Int} {l : List Int} {s : SaidV} (hb : Byts l) (hl : l.length ≤ 5000) (h : rdS op l = some s) : s.OK := by
  have m := byts_getD hb
  unfold rdS at h
  split at h
  · obtain rfl := Option.some.inj h
    exact ⟨by simp [i64_0, g8_i64], by simp, by simp⟩
  split at h
  · obtain rfl := Option.some.inj h
    exact ⟨by simp [i64_0, g8_i64, i64_small (m 0), -List.getD_eq_getElem?_getD], by simp, by simp⟩
  split at h
  · obtain ⟨r, hr, rfl⟩ := Option.map_eq_some_iff.1 h
    obtain ⟨e1, e2, e3⟩ := listS_ok _ _ r (fun x hx => hb x (List.mem_of_mem_drop hx)) hr
    rw [List.length_drop] at e2
    exact ⟨by simp [i64_0, i64_small (m 0), -List.getD_eq_getElem?_getD], by show r.length ≤ 300; omega, e3⟩
  split at h
  · obtain rfl := Option.some.inj h
    exact ⟨by simp [i64_0, i64_small (m 0), -List.getD_eq_getElem?_getD], by simp, by simp⟩
  · simp at h
theorem rdS_len {op : Int} {l : List Int} {s : SaidV} (hb : Byts l) (hl : l.length ≤ 5000) (h : rdS op l = some s) : s.line.length + 1 ≤ 40 * (l.length + 5) := by
  have ok := rdS_ok hb hl h
  have nb := ok.nums
  have n1 := fun (ns : List Int) (hn : ∀ x ∈ ns, I64 x) => nums_len ns hn
  have v4 := verd_len
  unfold rdS at h
  split at h
  · rename_i c
    obtain rfl := Option.some.inj h
    have := n1 [g8 l 1, g8 l 9] (by simp [g8_i64])
    have v := v4 (l.getD 0 0 % 4).toNat
    simp only [List.length_cons, List.length_nil] at this
    unfold SaidV.line
    obtain ⟨c | c, _⟩ := c
    · simp only [c, if_true, List.length_append, List.length_cons, List.length_nil]; omega
    · simp only [c, if_true, List.length_append, List.length_cons, List.length_nil, Int.reduceEq, if_false]; omega
  split at h
  · rename_i c
    obtain rfl := Option.some.inj h
    have := n1 [l.getD 0 0, g8 l 1, g8 l 9, g8 l 17, g8 l 25, g8 l 33] (by simp [g8_i64, i64_small (byts_getD hb 0), -List.getD_eq_getElem?_getD])
    simp only [List.length_cons, List.length_nil] at this
    unfold SaidV.line
    simp only [c.1, if_true, List.length_append, List.length_cons, List.length_nil, Int.reduceEq, if_false]; omega
  split at h
  · rename_i c
    obtain ⟨r, hr, rfl⟩ := Option.map_eq_some_iff.1 h
    obtain ⟨e1, e2, e3⟩ := listS_ok _ _ r (fun x hx => hb x (List.mem_of_mem_drop hx)) hr
    rw [List.length_drop] at e2
    have := n1 [l.getD 0 0] (by simp [g8_i64, i64_small (byts_getD hb 0), -List.getD_eq_getElem?_getD])
    have el := ents_len r e3
    simp only [List.length_cons, List.length_nil] at this
    unfold SaidV.line
    simp only [c.1, if_true, List.length_append, List.length_cons, List.length_nil, Int.reduceEq, if_false]; omega
  split at h
  · rename_i c
    obtain rfl := Option.some.inj h
    have := n1 [l.getD 0 0] (by simp [g8_i64, i64_small (byts_getD hb 0), -List.getD_eq_getElem?_getD])
    simp only [List.length_cons, List.length_nil] at this
    unfold SaidV.line
    simp only [c.1, if_true, List.length_append, List.length_cons, List.length_nil, Int.reduceEq, if_false]; omega
  · simp at h
theorem readS_some {l : List Int} {s : SaidV} {n : Nat} (h : readS l = some (s, n)) : n = nS l ∧ 6 ≤ n ∧ n ≤ l.length ∧ l.getD 0 0 = 168 ∧ l.getD 1 0 = 1 ∧ 128 ≤ l.getD 4 0 ∧ rdS (l.getD 4 0 % 128) ((l.drop 5).take (n - 5)) = some s := by
  unfold readS at h
  split at h
  · simp at h
  split at h
  · simp at h
  · rename_i c1 c2
    obtain ⟨s', hs, he⟩ := Option.map_eq_some_iff.1 h
    simp only [Prod.mk.injEq] at he
    obtain ⟨rfl, rfl⟩ := he
    exact ⟨rfl, by omega, by omega, by omega, by omega, by omega, hs⟩
theorem readS_ok {l : List Int} {s : SaidV} {n : Nat} (hb : Byts l) (hl : l.length ≤ 5000) (h : readS l = some (s, n)) : s.OK ∧ s.line.length + 1 ≤ 40 * n := by
  obtain ⟨_, h1, h2, _, _, _, h3⟩ := readS_some h
  have hb' : Byts ((l.drop 5).take (n - 5)) := fun y hy => hb y (List.mem_of_mem_drop (List.mem_of_mem_take hy))
  have e : ((l.drop 5).take (n - 5)).length = n - 5 := by rw [List.length_take, List.length_drop]; omega
  have := rdS_len hb' (by omega) h3
  exact ⟨rdS_ok hb' (by omega) h3, by omega⟩
theorem getD_app {l t : List Int} {i : Nat} (h : i < l.length) : (l ++ t).getD i 0 = l.getD i 0 := by
  rw [List.getD_eq_getElem?_getD, List.getD_eq_getElem?_getD, List.getElem?_append_left h]
theorem nS_app {l t : List Int} (h : 4 ≤ l.length) : nS (l ++ t) = nS l := by
  unfold nS
  rw [List.drop_append_of_le_length (by omega), List.take_append_of_le_length (by rw [List.length_drop]; omega)]
theorem readS_app {l : List Int} {s : SaidV} {n : Nat} (h : readS l = some (s, n)) (t : List Int) : readS (l ++ t) = some (s, n) := by
  obtain ⟨hn, h1, h2, h3, h4, h5, h6⟩ := readS_some h
  unfold readS
  rw [nS_app (by omega), ← hn, getD_app (by omega), getD_app (by omega), getD_app (by omega), List.length_append, if_neg (by omega), if_neg (by omega), List.drop_append_of_le_length (by omega), List.take_append_of_le_length (by rw [List.length_drop]; omega), h6]
  rfl
/-- What does not reach its end is none. -/
theorem readS_short {l : List Int} (h : l.length < nS l) : readS l = none := by
  unfold readS
  split
  · rfl
  · rw [if_pos (.inr (.inl h))]
/-- The answers of a stream. -/
def strm : Nat → List Int → List SaidV × Nat
  | 0, _ => ([], 0)
  | d + 1, l => match readS l with
    | none => ([], 0)
    | some (s, n) => (s :: (strm d (l.drop n)).1, n + (strm d (l.drop n)).2)
theorem strm_none {d : Nat} {l : List Int} (h : readS l = none) : strm d l = ([], 0) := by
  cases d with
  | zero => rfl
  | succ d => show (match readS l with | none => _ | some (s, n) => _) = _; rw [h]
theorem strm_some {d : Nat} {l : List Int} {s : SaidV} {n : Nat} (h : readS l = some (s, n)) : strm (d + 1) l = (s :: (strm d (l.drop n)).1, n + (strm d (l.drop n)).2) := by
  show (match readS l with | none => _ | some (s, n) => _) = _; rw [h]
/-- Fuel plays no part. -/
theorem strm_fuel : ∀ (d d' : Nat) (l : List Int), l.length < d → l.length < d' → strm d l = strm d' l := by
  intro d
  induction d with
  | zero => intro d' l h; omega
  | succ d ih =>
    intro d' l h h'
    obtain ⟨d', rfl⟩ : ∃ k, d' = k + 1 := ⟨d' - 1, by omega⟩
    cases e : readS l with
    | none => rw [strm_none e, strm_none e]
    | some p =>
      obtain ⟨s, n⟩ := p
      have k := readS_some e
      rw [strm_some e, strm_some e, ih d' (l.drop n) (by rw [List.length_drop]; omega) (by rw [List.length_drop]; omega)]
def stream (l : List Int) : List SaidV × Nat := strm (l.length + 1) l
theorem stream_none {l : List Int} (h : readS l = none) : stream l = ([], 0) := strm_none h
theorem stream_some {l : List Int} {s : SaidV} {n : Nat} (h : readS l = some (s, n)) : stream l = (s :: (stream (l.drop n)).1, n + (stream (l.drop n)).2) := by
  have k := readS_some h
  unfold stream
  rw [strm_some h, strm_fuel l.length ((l.drop n).length + 1) (l.drop n) (by rw [List.length_drop]; omega) (Nat.lt_succ_self _)]
theorem stream_le : ∀ (k : Nat) (l : List Int), l.length ≤ k → (stream l).2 ≤ l.length := by
  intro k
  induction k with
  | zero =>
    intro l h
    have : readS l = none := by unfold readS; rw [if_pos (.inl (by omega))]
    rw [stream_none this]; exact Nat.zero_le _
  | succ k ih =>
    intro l h
    cases e : readS l with
    | none => rw [stream_none e]; exact Nat.zero_le _
    | some p =>
      obtain ⟨s, n⟩ := p
      have q := readS_some e
      rw [stream_some e]
      have := ih (l.drop n) (by rw [List.length_drop]; omega)
      rw [List.length_drop] at this
      show n + _ ≤ _
      omega
/-- The lines. -/
def txt (l : List SaidV) : List Int := l.flatMap fun s => s.line ++ [10]
theorem txt_nil : txt [] = [] := rfl
theorem txt_cons (s : SaidV) (l : List SaidV) : txt (s :: l) = s.line ++ [10] ++ txt l := rfl
theorem txt_app (a b : List SaidV) : txt (a ++ b) = txt a ++ txt b := List.flatMap_append
theorem SaidV.line_pos (s : SaidV) : 0 < s.line.length := by
  unfold SaidV.line
  split
  · simp
  · split
    · simp
    · split
      · simp
      · split
        · simp
        · simp
theorem slice_bys {h : Heap} {v : Value} {l : List Int} (s : Bys h v l) {i : Nat} (hi : i ≤ l.length) : ∃ w, cop (.slice 5 1 v (some (.int .i64 i)) none) h = some (w, h) ∧ Bys h w (l.drop i) := by
  rcases s with ⟨rfl, rfl⟩ | ⟨b, o, cap, rfl, h2, h3, h4, h5⟩
  · obtain rfl : i = 0 := by simpa using hi
    exact ⟨.slice none 0 0, rfl, .inl ⟨rfl, rfl⟩⟩
  · have S := Bys.sub h3 h4 h5 h2 i l.length hi (Nat.le_refl _)
    rw [List.take_of_length_le (by rw [List.length_drop]; exact Nat.le_refl _)] at S
    refine ⟨_, ?_, S⟩
    simp (disch := omega) only [h4, ↓RunC_seq, ↓RunC_skip, ↓RunC_ret, ↓RunC_exit, ↓RunC_region, ↓RunC_condQ, condQ_true, condQ_false, ↓RunC_block, ↓RunR_done, ↓RunR_op, ↓RunR_opg, ↓RunR_snap, ↓RunR_chk, Holds, Option.getD_none, Option.getD_some, guardR_true, guardR_false, wantV_bool, wantV_none, callvQ_eq, afterR_some, ↓seqQ_normal, ↓seqQ_ret, ↓seqQ_exit, ↓blockQ_normal, ↓blockQ_ret, ↓blockQ_exit, ↓retQ_ret, ↓retQ_normal, ↓callQ_eq, ↓loopQ_normal, ↓loopQ_ret, ↓loopQ_exit, ↓upd_same, upd_at, sel_t, sel_f, initE_at, obj_upd_same, obj_upd_ne, obj_new_same, obj_updnew_same, obj_updnew_same2, obj_new2_same, obj_new3_same, obj_newupd_same, obj_new_ne, obj_new_ne2, obj_new_ne3, obj_new_ne4, next_upd, next_new, add_plain, cop, bin, binInt, un, shiftInt, flat, read_cells, src_ro, src_fix, src_grow, get_cells, List.getElem?_cons_zero, List.getElem?_cons_succ, write_fix, write_grow, setAt, bound, eqK, elemOk_ro, elemOk_fix, elemOk_grow, stiff_ro, stiff_fix, goInt, resultsV, resV, resL, finQ_some, Option.map_some, Option.map_none, Option.bind_some, Option.bind_none, List.map_cons, List.map_nil, List.getD_cons_zero, List.getD_cons_succ, List.getD_nil, Nat.reduceEqDiff, Nat.reduceAdd, Nat.reduceMul, Nat.reduceSub, Nat.reduceLT, Nat.reduceLeDiff, Nat.reduceBEq, if_true, if_false, ite_true, ite_false, List.length_cons, List.length_nil, Nat.zero_add, Nat.add_zero, List.drop_zero, List.drop_succ_cons, List.take_succ_cons, List.take_zero, List.set_cons_zero, List.set_cons_succ, Int.reduceLT, Int.reduceLE, Bool.not_true, Bool.not_false, Option.isNone_some, Option.isNone_none, decide_true, decide_false, beq_self_eq_true, Bool.false_eq_true, Bool.true_eq_false, if_pos, if_neg, reduceCtorEq, beq_iff_eq, BEq.rfl, wrap_i64, wrap_i32, wrap_i8, wrap_u8, wrap_u32, wrap_u64, Nat.mul_one, Int.toNat_natCast, ints_len, List.length_map, List.length_set, beq_ft, beq_tf, List.all_cons, List.all_nil, scalar, Bool.and_self, Bool.true_and, Bool.and_true, List.size_toArray, List.getElem?_toArray, binStr, fillIn, true_and, and_true, true_or, or_true, bne_self_eq_false, Int.reduceToNat, Int.reduceAdd, Int.reduceSub, Int.reduceMul]

set_option maxHeartbeats 2000000 in
theorem stream_ok (h : Heap) (hT : HasPows h) (v : Value) (l : List Int) (hv : Bys h v l) (byt : Byts l) (hl : l.length ≤ 5000) {Q : Value → Heap → Prop}
    (hQ : ∀ h', Old h h' → Q (.tuple #[.string (bs (txt (stream l).1)), .int .i64 ((stream l).2 : Nat)]) h') :
    CALL cp 11 [v] h Q := by
  rw [CALL_enter cp cp11]
  simp (disch := omega) only [c11, ↓c11_r0_run, ↓c11_r1_run, ↓c11_r2_run, ↓c11_r3_c1_run, ↓c11_r3_run, ↓c11_r4_run, ↓c11_r5_run, ↓c11_r6_run, ↓c11_r7_run, ↓c11_r8_run, ↓RunC_seq, ↓RunC_skip, ↓RunC_ret, ↓RunC_exit, ↓RunC_region, ↓RunC_condQ, condQ_true, condQ_false, ↓RunC_block, ↓RunR_done, ↓RunR_op, ↓RunR_opg, ↓RunR_snap, ↓RunR_chk, Holds, Option.getD_none, Option.getD_some, guardR_true, guardR_false, wantV_bool, wantV_none, callvQ_eq, afterR_some, ↓seqQ_normal, ↓seqQ_ret, ↓seqQ_exit, ↓blockQ_normal, ↓blockQ_ret, ↓blockQ_exit, ↓retQ_ret, ↓retQ_normal, ↓callQ_eq, ↓loopQ_normal, ↓loopQ_ret, ↓loopQ_exit, ↓upd_same, upd_at, sel_t, sel_f, initE_at, obj_upd_same, obj_upd_ne, obj_new_same, obj_updnew_same, obj_updnew_same2, obj_new2_same, obj_new3_same, obj_newupd_same, obj_new_ne, obj_new_ne2, obj_new_ne3, obj_new_ne4, next_upd, next_new, add_plain, cop, bin, binInt, un, shiftInt, flat, read_cells, src_ro, src_fix, src_grow, get_cells, List.getElem?_cons_zero, List.getElem?_cons_succ, write_fix, write_grow, setAt, bound, eqK, elemOk_ro, elemOk_fix, elemOk_grow, stiff_ro, stiff_fix, goInt, resultsV, resV, resL, finQ_some, Option.map_some, Option.map_none, Option.bind_some, Option.bind_none, List.map_cons, List.map_nil, List.getD_cons_zero, List.getD_cons_succ, List.getD_nil, Nat.reduceEqDiff, Nat.reduceAdd, Nat.reduceMul, Nat.reduceSub, Nat.reduceLT, Nat.reduceLeDiff, Nat.reduceBEq, if_true, if_false, ite_true, ite_false, List.length_cons, List.length_nil, Nat.zero_add, Nat.add_zero, List.drop_zero, List.drop_succ_cons, List.take_succ_cons, List.take_zero, List.set_cons_zero, List.set_cons_succ, Int.reduceLT, Int.reduceLE, Bool.not_true, Bool.not_false, Option.isNone_some, Option.isNone_none, decide_true, decide_false, beq_self_eq_true, Bool.false_eq_true, Bool.true_eq_false, if_pos, if_neg, reduceCtorEq, beq_iff_eq, BEq.rfl, wrap_i64, wrap_i32, wrap_i8, wrap_u8, wrap_u32, wrap_u64, Nat.mul_one, Int.toNat_natCast, ints_len, List.length_map, List.length_set, beq_ft, beq_tf, List.all_cons, List.all_nil, scalar, Bool.and_self, Bool.true_and, Bool.and_true, List.size_toArray, List.getElem?_toArray, binStr, fillIn, true_and, and_true, true_or, or_true, bne_self_eq_false, Int.reduceToNat, Int.reduceAdd, Int.reduceSub, Int.reduceMul]
  refine RunC_loop cp c11_l0 _ (fun d e hh => ∃ (i bb : Nat) (acc : List SaidV), Old h hh ∧ h.next < bb ∧ i ≤ l.length ∧ l.length - i < d ∧ stream l = (acc ++ (strm d (l.drop i)).1, i + (strm d (l.drop i)).2) ∧ BdAt hh h.next bb (txt acc) ∧ (txt acc).length ≤ 40 * i ∧ e 0 = v ∧ e 4 = .pointer (some ⟨h.next, 0, none⟩) ∧ e 5 = .int .i64 i) ?_ (l.length + 1) _ _
    ⟨0, h.next + 1, [], (Old.refl h).more _, Nat.lt_succ_self _, Nat.zero_le _, by omega, by simp [stream], ⟨⟨_, _, obj_new_same _ _, .inl rfl, Vec.nil _ _ _ _, fun _ => rfl⟩, Nat.lt_succ_self _, by omega⟩, Nat.zero_le _, rfl, rfl, rfl⟩
  rintro d e hh ⟨i, bb, acc, o, hbb, hi, hd, hst, B, ht, e0, e4, e5⟩
  obtain ⟨d, rfl⟩ : ∃ k, d = k + 1 := ⟨d - 1, by omega⟩
  obtain ⟨w, sl, hw⟩ := slice_bys (hv.old o) hi
  have ln := B.lb
  have bd : Byts (l.drop i) := fun y hy => byt y (List.mem_of_mem_drop hy)
  simp (disch := omega) only [c11_l0, c11, ↓c11_r0_run, ↓c11_r1_run, ↓c11_r2_run, ↓c11_r3_c1_run, ↓c11_r3_run, ↓c11_r4_run, ↓c11_r5_run, ↓c11_r6_run, ↓c11_r7_run, ↓c11_r8_run, e0, e4, e5, ↓sl, ↓RunC_seq, ↓RunC_skip, ↓RunC_ret, ↓RunC_exit, ↓RunC_region, ↓RunC_condQ, condQ_true, condQ_false, ↓RunC_block, ↓RunR_done, ↓RunR_op, ↓RunR_opg, ↓RunR_snap, ↓RunR_chk, Holds, Option.getD_none, Option.getD_some, guardR_true, guardR_false, wantV_bool, wantV_none, callvQ_eq, afterR_some, ↓seqQ_normal, ↓seqQ_ret, ↓seqQ_exit, ↓blockQ_normal, ↓blockQ_ret, ↓blockQ_exit, ↓retQ_ret, ↓retQ_normal, ↓callQ_eq, ↓loopQ_normal, ↓loopQ_ret, ↓loopQ_exit, ↓upd_same, upd_at, sel_t, sel_f, initE_at, obj_upd_same, obj_upd_ne, obj_new_same, obj_updnew_same, obj_updnew_same2, obj_new2_same, obj_new3_same, obj_newupd_same, obj_new_ne, obj_new_ne2, obj_new_ne3, obj_new_ne4, next_upd, next_new, add_plain, cop, bin, binInt, un, shiftInt, flat, read_cells, src_ro, src_fix, src_grow, get_cells, List.getElem?_cons_zero, List.getElem?_cons_succ, write_fix, write_grow, setAt, bound, eqK, elemOk_ro, elemOk_fix, elemOk_grow, stiff_ro, stiff_fix, goInt, resultsV, resV, resL, finQ_some, Option.map_some, Option.map_none, Option.bind_some, Option.bind_none, List.map_cons, List.map_nil, List.getD_cons_zero, List.getD_cons_succ, List.getD_nil, Nat.reduceEqDiff, Nat.reduceAdd, Nat.reduceMul, Nat.reduceSub, Nat.reduceLT, Nat.reduceLeDiff, Nat.reduceBEq, if_true, if_false, ite_true, ite_false, List.length_cons, List.length_nil, Nat.zero_add, Nat.add_zero, List.drop_zero, List.drop_succ_cons, List.take_succ_cons, List.take_zero, List.set_cons_zero, List.set_cons_succ, Int.reduceLT, Int.reduceLE, Bool.not_true, Bool.not_false, Option.isNone_some, Option.isNone_none, decide_true, decide_false, beq_self_eq_true, Bool.false_eq_true, Bool.true_eq_false, if_pos, if_neg, reduceCtorEq, beq_iff_eq, BEq.rfl, wrap_i64, wrap_i32, wrap_i8, wrap_u8, wrap_u32, wrap_u64, Nat.mul_one, Int.toNat_natCast, ints_len, List.length_map, List.length_set, beq_ft, beq_tf, List.all_cons, List.all_nil, scalar, Bool.and_self, Bool.true_and, Bool.and_true, List.size_toArray, List.getElem?_toArray, binStr, fillIn, true_and, and_true, true_or, or_true, bne_self_eq_false, Int.reduceToNat, Int.reduceAdd, Int.reduceSub, Int.reduceMul]
  refine read_f hh w (l.drop i) hw bd (by rw [List.length_drop]; omega) (fun h' s n vl hr o' hL => ?_) (fun h' hr o' => ?_)
  · have q := readS_some hr
    obtain ⟨ok, ll⟩ := readS_ok bd (by rw [List.length_drop]; omega) hr
    rw [List.length_drop] at q
    have ac : ∀ z, (acc ++ s :: z) = (acc ++ [s]) ++ z := fun z => by simp
    rw [strm_some hr, List.drop_drop, ac, ← Nat.add_assoc] at hst
    obtain ⟨op, rule, ver, rem, ret, al, de, ba, ce, we, sl', er⟩ := s
    obtain ⟨av, capv, rfl, _⟩ := id hL
    obtain ⟨h2, h2d⟩ : ∃ h2, h2 = (h'.new (.cells [.int .i64 0, .int .i64 0, .int .i64 0, .int .i64 0, .int .i64 0, .int .i64 0, .int .i64 0, .int .i64 0, .int .i64 0, .int .i64 0, .slice none 0 0, .int .i64 0] 36 .fix)).upd h'.next (.cells [.int .i64 op, .int .i64 rule, .int .i64 ver, .int .i64 rem, .int .i64 ret, .int .i64 al, .int .i64 de, .int .i64 ba, .int .i64 ce, .int .i64 we, .slice av sl'.length capv, .int .i64 er] 36 .fix) := ⟨_, rfl⟩
    have o2 : Old h' h2 := by rw [h2d]; exact (Old.refl h').put _ _
    have n2 : h2.next = h'.next + 1 := by rw [h2d]; rfl
    have on := o'.next
    have gp : h2.obj h'.next = .cells [.int .i64 op, .int .i64 rule, .int .i64 ver, .int .i64 rem, .int .i64 ret, .int .i64 al, .int .i64 de, .int .i64 ba, .int .i64 ce, .int .i64 we, .slice av sl'.length capv, .int .i64 er] 36 .fix := by rw [h2d]; exact obj_upd_same _ _ _
    have oo := (o.trans o').trans o2
    simp (disch := omega) only [c11_l0, c11, ↓c11_r0_run, ↓c11_r1_run, ↓c11_r2_run, ↓c11_r3_c1_run, ↓c11_r3_run, ↓c11_r4_run, ↓c11_r5_run, ↓c11_r6_run, ↓c11_r7_run, ↓c11_r8_run, saidc, List.size_toArray, List.getElem?_toArray, ← h2d, gp, e0, e4, e5, ↓RunC_seq, ↓RunC_skip, ↓RunC_ret, ↓RunC_exit, ↓RunC_region, ↓RunC_condQ, condQ_true, condQ_false, ↓RunC_block, ↓RunR_done, ↓RunR_op, ↓RunR_opg, ↓RunR_snap, ↓RunR_chk, Holds, Option.getD_none, Option.getD_some, guardR_true, guardR_false, wantV_bool, wantV_none, callvQ_eq, afterR_some, ↓seqQ_normal, ↓seqQ_ret, ↓seqQ_exit, ↓blockQ_normal, ↓blockQ_ret, ↓blockQ_exit, ↓retQ_ret, ↓retQ_normal, ↓callQ_eq, ↓loopQ_normal, ↓loopQ_ret, ↓loopQ_exit, ↓upd_same, upd_at, sel_t, sel_f, initE_at, obj_upd_same, obj_upd_ne, obj_new_same, obj_updnew_same, obj_updnew_same2, obj_new2_same, obj_new3_same, obj_newupd_same, obj_new_ne, obj_new_ne2, obj_new_ne3, obj_new_ne4, next_upd, next_new, add_plain, cop, bin, binInt, un, shiftInt, flat, read_cells, src_ro, src_fix, src_grow, get_cells, List.getElem?_cons_zero, List.getElem?_cons_succ, write_fix, write_grow, setAt, bound, eqK, elemOk_ro, elemOk_fix, elemOk_grow, stiff_ro, stiff_fix, goInt, resultsV, resV, resL, finQ_some, Option.map_some, Option.map_none, Option.bind_some, Option.bind_none, List.map_cons, List.map_nil, List.getD_cons_zero, List.getD_cons_succ, List.getD_nil, Nat.reduceEqDiff, Nat.reduceAdd, Nat.reduceMul, Nat.reduceSub, Nat.reduceLT, Nat.reduceLeDiff, Nat.reduceBEq, if_true, if_false, ite_true, ite_false, List.length_cons, List.length_nil, Nat.zero_add, Nat.add_zero, List.drop_zero, List.drop_succ_cons, List.take_succ_cons, List.take_zero, List.set_cons_zero, List.set_cons_succ, Int.reduceLT, Int.reduceLE, Bool.not_true, Bool.not_false, Option.isNone_some, Option.isNone_none, decide_true, decide_false, beq_self_eq_true, Bool.false_eq_true, Bool.true_eq_false, if_pos, if_neg, reduceCtorEq, beq_iff_eq, BEq.rfl, wrap_i64, wrap_i32, wrap_i8, wrap_u8, wrap_u32, wrap_u64, Nat.mul_one, Int.toNat_natCast, ints_len, List.length_map, List.length_set, beq_ft, beq_tf, List.all_cons, List.all_nil, scalar, Bool.and_self, Bool.true_and, Bool.and_true, List.size_toArray, List.getElem?_toArray, binStr, fillIn, true_and, and_true, true_or, or_true, bne_self_eq_false, Int.reduceToNat, Int.reduceAdd, Int.reduceSub, Int.reduceMul]
    refine said_ok h2 (hT.old oo) ⟨op, rule, ver, rem, ret, al, de, ba, ce, we, sl', er⟩ _ (hL.old o2) ok fun h3 o3 => ?_
    have o23 := (o'.trans o2).trans o3
    have o3n := o3.next
    have B3 : BdAt h3 h.next bb (txt acc) := B.old o23.next fun z _ hz => o23.obj z hz
    have lp := SaidV.line_prn ⟨op, rule, ver, rem, ret, al, de, ba, ce, we, sl', er⟩
    obtain ⟨s, hsd⟩ : ∃ s : SaidV, s = ⟨op, rule, ver, rem, ret, al, de, ba, ce, we, sl', er⟩ := ⟨_, rfl⟩
    rw [← hsd] at lp ll hst ⊢
    have lpos := SaidV.line_pos s
    simp (disch := omega) only [c11_l0, c11, ↓c11_r0_run, ↓c11_r1_run, ↓c11_r2_run, ↓c11_r3_c1_run, ↓c11_r3_run, ↓c11_r4_run, ↓c11_r5_run, ↓c11_r6_run, ↓c11_r7_run, ↓c11_r8_run, e0, e4, e5, ↓RunC_seq, ↓RunC_skip, ↓RunC_ret, ↓RunC_exit, ↓RunC_region, ↓RunC_condQ, condQ_true, condQ_false, ↓RunC_block, ↓RunR_done, ↓RunR_op, ↓RunR_opg, ↓RunR_snap, ↓RunR_chk, Holds, Option.getD_none, Option.getD_some, guardR_true, guardR_false, wantV_bool, wantV_none, callvQ_eq, afterR_some, ↓seqQ_normal, ↓seqQ_ret, ↓seqQ_exit, ↓blockQ_normal, ↓blockQ_ret, ↓blockQ_exit, ↓retQ_ret, ↓retQ_normal, ↓callQ_eq, ↓loopQ_normal, ↓loopQ_ret, ↓loopQ_exit, ↓upd_same, upd_at, sel_t, sel_f, initE_at, obj_upd_same, obj_upd_ne, obj_new_same, obj_updnew_same, obj_updnew_same2, obj_new2_same, obj_new3_same, obj_newupd_same, obj_new_ne, obj_new_ne2, obj_new_ne3, obj_new_ne4, next_upd, next_new, add_plain, cop, bin, binInt, un, shiftInt, flat, read_cells, src_ro, src_fix, src_grow, get_cells, List.getElem?_cons_zero, List.getElem?_cons_succ, write_fix, write_grow, setAt, bound, eqK, elemOk_ro, elemOk_fix, elemOk_grow, stiff_ro, stiff_fix, goInt, resultsV, resV, resL, finQ_some, Option.map_some, Option.map_none, Option.bind_some, Option.bind_none, List.map_cons, List.map_nil, List.getD_cons_zero, List.getD_cons_succ, List.getD_nil, Nat.reduceEqDiff, Nat.reduceAdd, Nat.reduceMul, Nat.reduceSub, Nat.reduceLT, Nat.reduceLeDiff, Nat.reduceBEq, if_true, if_false, ite_true, ite_false, List.length_cons, List.length_nil, Nat.zero_add, Nat.add_zero, List.drop_zero, List.drop_succ_cons, List.take_succ_cons, List.take_zero, List.set_cons_zero, List.set_cons_succ, Int.reduceLT, Int.reduceLE, Bool.not_true, Bool.not_false, Option.isNone_some, Option.isNone_none, decide_true, decide_false, beq_self_eq_true, Bool.false_eq_true, Bool.true_eq_false, if_pos, if_neg, reduceCtorEq, beq_iff_eq, BEq.rfl, wrap_i64, wrap_i32, wrap_i8, wrap_u8, wrap_u32, wrap_u64, Nat.mul_one, Int.toNat_natCast, ints_len, List.length_map, List.length_set, beq_ft, beq_tf, List.all_cons, List.all_nil, scalar, Bool.and_self, Bool.true_and, Bool.and_true, List.size_toArray, List.getElem?_toArray, binStr, fillIn, true_and, and_true, true_or, or_true, bne_self_eq_false, Int.reduceToNat, Int.reduceAdd, Int.reduceSub, Int.reduceMul]
    refine writeString_ok h3 h.next bb (txt acc) s.line B3 lp.byts lpos (by omega) fun _ h4 b4 B4 n4 k4 o4 => ?_
    simp (disch := omega) only [c11_l0, c11, ↓c11_r0_run, ↓c11_r1_run, ↓c11_r2_run, ↓c11_r3_c1_run, ↓c11_r3_run, ↓c11_r4_run, ↓c11_r5_run, ↓c11_r6_run, ↓c11_r7_run, ↓c11_r8_run, e0, e4, e5, ↓RunC_seq, ↓RunC_skip, ↓RunC_ret, ↓RunC_exit, ↓RunC_region, ↓RunC_condQ, condQ_true, condQ_false, ↓RunC_block, ↓RunR_done, ↓RunR_op, ↓RunR_opg, ↓RunR_snap, ↓RunR_chk, Holds, Option.getD_none, Option.getD_some, guardR_true, guardR_false, wantV_bool, wantV_none, callvQ_eq, afterR_some, ↓seqQ_normal, ↓seqQ_ret, ↓seqQ_exit, ↓blockQ_normal, ↓blockQ_ret, ↓blockQ_exit, ↓retQ_ret, ↓retQ_normal, ↓callQ_eq, ↓loopQ_normal, ↓loopQ_ret, ↓loopQ_exit, ↓upd_same, upd_at, sel_t, sel_f, initE_at, obj_upd_same, obj_upd_ne, obj_new_same, obj_updnew_same, obj_updnew_same2, obj_new2_same, obj_new3_same, obj_newupd_same, obj_new_ne, obj_new_ne2, obj_new_ne3, obj_new_ne4, next_upd, next_new, add_plain, cop, bin, binInt, un, shiftInt, flat, read_cells, src_ro, src_fix, src_grow, get_cells, List.getElem?_cons_zero, List.getElem?_cons_succ, write_fix, write_grow, setAt, bound, eqK, elemOk_ro, elemOk_fix, elemOk_grow, stiff_ro, stiff_fix, goInt, resultsV, resV, resL, finQ_some, Option.map_some, Option.map_none, Option.bind_some, Option.bind_none, List.map_cons, List.map_nil, List.getD_cons_zero, List.getD_cons_succ, List.getD_nil, Nat.reduceEqDiff, Nat.reduceAdd, Nat.reduceMul, Nat.reduceSub, Nat.reduceLT, Nat.reduceLeDiff, Nat.reduceBEq, if_true, if_false, ite_true, ite_false, List.length_cons, List.length_nil, Nat.zero_add, Nat.add_zero, List.drop_zero, List.drop_succ_cons, List.take_succ_cons, List.take_zero, List.set_cons_zero, List.set_cons_succ, Int.reduceLT, Int.reduceLE, Bool.not_true, Bool.not_false, Option.isNone_some, Option.isNone_none, decide_true, decide_false, beq_self_eq_true, Bool.false_eq_true, Bool.true_eq_false, if_pos, if_neg, reduceCtorEq, beq_iff_eq, BEq.rfl, wrap_i64, wrap_i32, wrap_i8, wrap_u8, wrap_u32, wrap_u64, Nat.mul_one, Int.toNat_natCast, ints_len, List.length_map, List.length_set, beq_ft, beq_tf, List.all_cons, List.all_nil, scalar, Bool.and_self, Bool.true_and, Bool.and_true, List.size_toArray, List.getElem?_toArray, binStr, fillIn, true_and, and_true, true_or, or_true, bne_self_eq_false, Int.reduceToNat, Int.reduceAdd, Int.reduceSub, Int.reduceMul]
    refine writeByte_ok h4 h.next b4 _ 10 B4 (by rw [List.length_append]; omega) fun _ h5 b5 B5 n5 k5 o5 => ?_
    have nx : (i : Int) + (n : Int) = ((i + n : Nat) : Int) := by omega
    have oN := oo.next
    simp (disch := omega) only [c11_l0, c11, ↓c11_r0_run, ↓c11_r1_run, ↓c11_r2_run, ↓c11_r3_c1_run, ↓c11_r3_run, ↓c11_r4_run, ↓c11_r5_run, ↓c11_r6_run, ↓c11_r7_run, ↓c11_r8_run, e0, e4, e5, nx, ↓RunC_seq, ↓RunC_skip, ↓RunC_ret, ↓RunC_exit, ↓RunC_region, ↓RunC_condQ, condQ_true, condQ_false, ↓RunC_block, ↓RunR_done, ↓RunR_op, ↓RunR_opg, ↓RunR_snap, ↓RunR_chk, Holds, Option.getD_none, Option.getD_some, guardR_true, guardR_false, wantV_bool, wantV_none, callvQ_eq, afterR_some, ↓seqQ_normal, ↓seqQ_ret, ↓seqQ_exit, ↓blockQ_normal, ↓blockQ_ret, ↓blockQ_exit, ↓retQ_ret, ↓retQ_normal, ↓callQ_eq, ↓loopQ_normal, ↓loopQ_ret, ↓loopQ_exit, ↓upd_same, upd_at, sel_t, sel_f, initE_at, obj_upd_same, obj_upd_ne, obj_new_same, obj_updnew_same, obj_updnew_same2, obj_new2_same, obj_new3_same, obj_newupd_same, obj_new_ne, obj_new_ne2, obj_new_ne3, obj_new_ne4, next_upd, next_new, add_plain, cop, bin, binInt, un, shiftInt, flat, read_cells, src_ro, src_fix, src_grow, get_cells, List.getElem?_cons_zero, List.getElem?_cons_succ, write_fix, write_grow, setAt, bound, eqK, elemOk_ro, elemOk_fix, elemOk_grow, stiff_ro, stiff_fix, goInt, resultsV, resV, resL, finQ_some, Option.map_some, Option.map_none, Option.bind_some, Option.bind_none, List.map_cons, List.map_nil, List.getD_cons_zero, List.getD_cons_succ, List.getD_nil, Nat.reduceEqDiff, Nat.reduceAdd, Nat.reduceMul, Nat.reduceSub, Nat.reduceLT, Nat.reduceLeDiff, Nat.reduceBEq, if_true, if_false, ite_true, ite_false, List.length_cons, List.length_nil, Nat.zero_add, Nat.add_zero, List.drop_zero, List.drop_succ_cons, List.take_succ_cons, List.take_zero, List.set_cons_zero, List.set_cons_succ, Int.reduceLT, Int.reduceLE, Bool.not_true, Bool.not_false, Option.isNone_some, Option.isNone_none, decide_true, decide_false, beq_self_eq_true, Bool.false_eq_true, Bool.true_eq_false, if_pos, if_neg, reduceCtorEq, beq_iff_eq, BEq.rfl, wrap_i64, wrap_i32, wrap_i8, wrap_u8, wrap_u32, wrap_u64, Nat.mul_one, Int.toNat_natCast, ints_len, List.length_map, List.length_set, beq_ft, beq_tf, List.all_cons, List.all_nil, scalar, Bool.and_self, Bool.true_and, Bool.and_true, List.size_toArray, List.getElem?_toArray, binStr, fillIn, true_and, and_true, true_or, or_true, bne_self_eq_false, Int.reduceToNat, Int.reduceAdd, Int.reduceSub, Int.reduceMul]
    have te : txt (acc ++ [s]) = txt acc ++ s.line ++ [10] := by rw [txt_app, txt_cons, txt_nil]; simp
    refine ⟨d, by omega, i + n, b5, acc ++ [s], ⟨by omega, fun z hz => ?_⟩, by omega, by omega, by omega, hst, by rw [te]; exact B5, by rw [te, List.length_append, List.length_append, List.length_singleton]; omega, rfl⟩
    rw [o5 z (by omega) (by omega) (by omega), o4 z (by omega) (by omega) (by omega), o3.obj z (by omega), oo.obj z hz]
  · rw [strm_none hr, List.append_nil, Nat.add_zero] at hst
    rw [hst] at hQ
    have oo := o.trans o'
    have on := o'.next
    obtain ⟨h2, h2d⟩ : ∃ h2, h2 = (h'.new (.cells [.int .i64 0, .int .i64 0, .int .i64 0, .int .i64 0, .int .i64 0, .int .i64 0, .int .i64 0, .int .i64 0, .int .i64 0, .int .i64 0, .slice none 0 0, .int .i64 0] 36 .fix)).upd h'.next (.cells [.int .i64 0, .int .i64 0, .int .i64 0, .int .i64 0, .int .i64 0, .int .i64 0, .int .i64 0, .int .i64 0, .int .i64 0, .int .i64 0, .slice none 0 0, .int .i64 0] 36 .fix) := ⟨_, rfl⟩
    have o2 : Old h' h2 := by rw [h2d]; exact (Old.refl h').put _ _
    have B2 : BdAt h2 h.next bb (txt acc) := B.old (o'.trans o2).next fun z _ hz => (o'.trans o2).obj z hz
    simp (disch := omega) only [c11_l0, c11, ↓c11_r0_run, ↓c11_r1_run, ↓c11_r2_run, ↓c11_r3_c1_run, ↓c11_r3_run, ↓c11_r4_run, ↓c11_r5_run, ↓c11_r6_run, ↓c11_r7_run, ↓c11_r8_run, saidZv, saidZ, saidc, List.size_toArray, List.getElem?_toArray, ← h2d, e0, e4, e5, ↓RunC_seq, ↓RunC_skip, ↓RunC_ret, ↓RunC_exit, ↓RunC_region, ↓RunC_condQ, condQ_true, condQ_false, ↓RunC_block, ↓RunR_done, ↓RunR_op, ↓RunR_opg, ↓RunR_snap, ↓RunR_chk, Holds, Option.getD_none, Option.getD_some, guardR_true, guardR_false, wantV_bool, wantV_none, callvQ_eq, afterR_some, ↓seqQ_normal, ↓seqQ_ret, ↓seqQ_exit, ↓blockQ_normal, ↓blockQ_ret, ↓blockQ_exit, ↓retQ_ret, ↓retQ_normal, ↓callQ_eq, ↓loopQ_normal, ↓loopQ_ret, ↓loopQ_exit, ↓upd_same, upd_at, sel_t, sel_f, initE_at, obj_upd_same, obj_upd_ne, obj_new_same, obj_updnew_same, obj_updnew_same2, obj_new2_same, obj_new3_same, obj_newupd_same, obj_new_ne, obj_new_ne2, obj_new_ne3, obj_new_ne4, next_upd, next_new, add_plain, cop, bin, binInt, un, shiftInt, flat, read_cells, src_ro, src_fix, src_grow, get_cells, List.getElem?_cons_zero, List.getElem?_cons_succ, write_fix, write_grow, setAt, bound, eqK, elemOk_ro, elemOk_fix, elemOk_grow, stiff_ro, stiff_fix, goInt, resultsV, resV, resL, finQ_some, Option.map_some, Option.map_none, Option.bind_some, Option.bind_none, List.map_cons, List.map_nil, List.getD_cons_zero, List.getD_cons_succ, List.getD_nil, Nat.reduceEqDiff, Nat.reduceAdd, Nat.reduceMul, Nat.reduceSub, Nat.reduceLT, Nat.reduceLeDiff, Nat.reduceBEq, if_true, if_false, ite_true, ite_false, List.length_cons, List.length_nil, Nat.zero_add, Nat.add_zero, List.drop_zero, List.drop_succ_cons, List.take_succ_cons, List.take_zero, List.set_cons_zero, List.set_cons_succ, Int.reduceLT, Int.reduceLE, Bool.not_true, Bool.not_false, Option.isNone_some, Option.isNone_none, decide_true, decide_false, beq_self_eq_true, Bool.false_eq_true, Bool.true_eq_false, if_pos, if_neg, reduceCtorEq, beq_iff_eq, BEq.rfl, wrap_i64, wrap_i32, wrap_i8, wrap_u8, wrap_u32, wrap_u64, Nat.mul_one, Int.toNat_natCast, ints_len, List.length_map, List.length_set, beq_ft, beq_tf, List.all_cons, List.all_nil, scalar, Bool.and_self, Bool.true_and, Bool.and_true, List.size_toArray, List.getElem?_toArray, binStr, fillIn, true_and, and_true, true_or, or_true, bne_self_eq_false, Int.reduceToNat, Int.reduceAdd, Int.reduceSub, Int.reduceMul]
    have on2 := o2.next
    refine string_ok h2 h.next bb (txt acc) B2 (by omega) fun h3 n3 o3 => ?_
    simp (disch := omega) only [c11_l0, c11, ↓c11_r0_run, ↓c11_r1_run, ↓c11_r2_run, ↓c11_r3_c1_run, ↓c11_r3_run, ↓c11_r4_run, ↓c11_r5_run, ↓c11_r6_run, ↓c11_r7_run, ↓c11_r8_run, e0, e4, e5, ↓RunC_seq, ↓RunC_skip, ↓RunC_ret, ↓RunC_exit, ↓RunC_region, ↓RunC_condQ, condQ_true, condQ_false, ↓RunC_block, ↓RunR_done, ↓RunR_op, ↓RunR_opg, ↓RunR_snap, ↓RunR_chk, Holds, Option.getD_none, Option.getD_some, guardR_true, guardR_false, wantV_bool, wantV_none, callvQ_eq, afterR_some, ↓seqQ_normal, ↓seqQ_ret, ↓seqQ_exit, ↓blockQ_normal, ↓blockQ_ret, ↓blockQ_exit, ↓retQ_ret, ↓retQ_normal, ↓callQ_eq, ↓loopQ_normal, ↓loopQ_ret, ↓loopQ_exit, ↓upd_same, upd_at, sel_t, sel_f, initE_at, obj_upd_same, obj_upd_ne, obj_new_same, obj_updnew_same, obj_updnew_same2, obj_new2_same, obj_new3_same, obj_newupd_same, obj_new_ne, obj_new_ne2, obj_new_ne3, obj_new_ne4, next_upd, next_new, add_plain, cop, bin, binInt, un, shiftInt, flat, read_cells, src_ro, src_fix, src_grow, get_cells, List.getElem?_cons_zero, List.getElem?_cons_succ, write_fix, write_grow, setAt, bound, eqK, elemOk_ro, elemOk_fix, elemOk_grow, stiff_ro, stiff_fix, goInt, resultsV, resV, resL, finQ_some, Option.map_some, Option.map_none, Option.bind_some, Option.bind_none, List.map_cons, List.map_nil, List.getD_cons_zero, List.getD_cons_succ, List.getD_nil, Nat.reduceEqDiff, Nat.reduceAdd, Nat.reduceMul, Nat.reduceSub, Nat.reduceLT, Nat.reduceLeDiff, Nat.reduceBEq, if_true, if_false, ite_true, ite_false, List.length_cons, List.length_nil, Nat.zero_add, Nat.add_zero, List.drop_zero, List.drop_succ_cons, List.take_succ_cons, List.take_zero, List.set_cons_zero, List.set_cons_succ, Int.reduceLT, Int.reduceLE, Bool.not_true, Bool.not_false, Option.isNone_some, Option.isNone_none, decide_true, decide_false, beq_self_eq_true, Bool.false_eq_true, Bool.true_eq_false, if_pos, if_neg, reduceCtorEq, beq_iff_eq, BEq.rfl, wrap_i64, wrap_i32, wrap_i8, wrap_u8, wrap_u32, wrap_u64, Nat.mul_one, Int.toNat_natCast, ints_len, List.length_map, List.length_set, beq_ft, beq_tf, List.all_cons, List.all_nil, scalar, Bool.and_self, Bool.true_and, Bool.and_true, List.size_toArray, List.getElem?_toArray, binStr, fillIn, true_and, and_true, true_or, or_true, bne_self_eq_false, Int.reduceToNat, Int.reduceAdd, Int.reduceSub, Int.reduceMul]
    exact hQ _ ⟨by omega, fun z hz => by rw [o3 z (by omega), o2.obj z (by have := oo.next; omega), oo.obj z hz]⟩
end Go.Proofs.YtcmanhhpfbinoaaDoor.Can
