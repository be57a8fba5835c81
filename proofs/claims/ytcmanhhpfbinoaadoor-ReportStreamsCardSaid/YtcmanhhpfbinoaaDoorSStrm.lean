/- Streams of answers, in plain Lean. No condition. -/
import Derived.Test.YtcmanhhpfbinoaaDoorLReportAny
namespace Go.Proofs.YtcmanhhpfbinoaaDoor.Can
open Go
set_option linter.unusedSimpArgs false
set_option linter.unusedVariables false
attribute [local congr] RunR_congr RunC_congr afterR_congr guardR_congr condQ_congr CALL_congr finQ_congr op_congr opg_congr

abbrev AnsT := Int × Int × Int
def vrOf (v : Int) : Nat := (Int.tmod (Int.tmod v 3 + 3) 3).toNat + 1
theorem vrOf_le (v : Int) : 1 ≤ vrOf v ∧ vrOf v ≤ 3 := by
  have := Int.tmod_lt_of_pos (Int.tmod v 3 + 3) (show (0 : Int) < 3 by omega)
  unfold vrOf; omega
def opOf (i : Nat) : Nat := i % 2 + 1
theorem opOf_or (i : Nat) : opOf i = 1 ∨ opOf i = 2 := by unfold opOf; omega
def sdOf (i : Nat) (x : AnsT) : SaidV := ⟨(opOf i : Nat), 0, (vrOf x.1 : Nat), x.2.1, x.2.2, 0, 0, 0, 0, 0, [], 0⟩
def frOf (i : Nat) (x : AnsT) : List Int := frm (opOf i : Nat) (vrOf x.1 : Nat) x.2.1 x.2.2
theorem frm_len (op ver rem ret : Int) : (frm op ver rem ret).length = 22 := by
  unfold frm; simp only [List.length_append, List.length_cons, List.length_nil, encN_len]
theorem frm_byts {op ver : Int} (rem ret : Int) (ho : 0 ≤ op ∧ op < 128) (hv : 0 ≤ ver ∧ ver < 256) : Byts (frm op ver rem ret) := by
  unfold frm
  refine Byts.app (fun x hx => ?_) (Byts.app (Byts.app (fun x hx => ?_) (encN_byts 8 _)) (encN_byts 8 _))
  · simp only [List.mem_cons, List.not_mem_nil, or_false] at hx; omega
  · simp only [List.mem_cons, List.not_mem_nil, or_false] at hx; omega
theorem decN2 : decN [0, 18] = 18 := rfl
theorem readS_frm (op : Nat) (ho : op = 1 ∨ op = 2) (ver : Nat) (hv : 1 ≤ ver ∧ ver ≤ 3) (rem ret : Int) (h1 : I64 rem) (h2 : I64 ret) :
    readS (frm op ver rem ret) = some (⟨op, 0, ver, rem, ret, 0, 0, 0, 0, 0, [], 0⟩, 22) := by
  obtain ⟨e1, he1⟩ : ∃ e, e = encN 8 (rem % 18446744073709551616) := ⟨_, rfl⟩
  obtain ⟨e2, he2⟩ : ∃ e, e = encN 8 (ret % 18446744073709551616) := ⟨_, rfl⟩
  have l1 : e1.length = 8 := by rw [he1, encN_len]
  have l2 : e2.length = 8 := by rw [he2, encN_len]
  have d1 : decI e1 = rem := by rw [he1]; exact decI_encI h1
  have d2 : decI e2 = ret := by rw [he2]; exact decI_encI h2
  have hf : frm op ver rem ret = 168 :: 1 :: 0 :: 18 :: ((op : Int) + 128) :: (ver : Int) :: (e1 ++ e2) := by rw [he1, he2]; rfl
  have fl := frm_len op ver rem ret
  have hn : nS (frm op ver rem ret) = 22 := by unfold nS; rw [hf]; rfl
  have g0 : (frm op ver rem ret).getD 0 0 = 168 := by rw [hf]; rfl
  have g1 : (frm op ver rem ret).getD 1 0 = 1 := by rw [hf]; rfl
  have g4 : (frm op ver rem ret).getD 4 0 = (op : Int) + 128 := by rw [hf]; rfl
  have dr : ((frm op ver rem ret).drop 5).take (22 - 5) = (ver : Int) :: (e1 ++ e2) := by
    rw [hf]
    show List.take 17 ((ver : Int) :: (e1 ++ e2)) = _
    rw [List.take_of_length_le (by rw [List.length_cons, List.length_append]; omega)]
  unfold readS
  rw [hn, g0, g1, g4, dr, if_neg (by omega), if_neg (by omega), show ((op : Int) + 128) % 128 = op by omega]
  unfold rdS
  rw [if_pos ⟨by omega, by rw [List.length_cons, List.length_append]; omega, by show (1 : Int) ≤ ver; omega, by show (ver : Int) ≤ 3; omega⟩]
  have q1 : g8 ((ver : Int) :: (e1 ++ e2)) 1 = rem := by
    show decI ((e1 ++ e2).take 8) = rem
    rw [List.take_append_of_le_length (by omega), List.take_of_length_le (by omega), d1]
  have q2 : g8 ((ver : Int) :: (e1 ++ e2)) 9 = ret := by
    show decI (((e1 ++ e2).drop 8).take 8) = ret
    rw [List.drop_append_of_le_length (by omega), List.drop_eq_nil_of_le (by omega), List.nil_append, List.take_of_length_le (by omega), d2]
  rw [q1, q2]
  rfl
theorem readS_frm21 (op : Nat) (ver : Nat) (rem ret : Int) : readS ((frm op ver rem ret).take 21) = none := by
  refine readS_short ?_
  have hn : nS ((frm op ver rem ret).take 21) = 22 := rfl
  rw [hn, List.length_take]; omega
/-- The first j answers' bytes. -/
def FR (l : List AnsT) : Nat → List Int
  | 0 => []
  | j + 1 => FR l j ++ frOf j (l.getD j (0, 0, 0))
def SD (l : List AnsT) : Nat → List SaidV
  | 0 => []
  | j + 1 => SD l j ++ [sdOf j (l.getD j (0, 0, 0))]
theorem FR_len (l : List AnsT) : ∀ j, (FR l j).length = 22 * j
  | 0 => rfl
  | j + 1 => by
    rw [FR, List.length_append, FR_len l j]
    unfold frOf
    rw [frm_len]; omega
theorem frOf_byts (j : Nat) (x : AnsT) : Byts (frOf j x) := by
  have := vrOf_le x.1
  have := opOf_or j
  exact frm_byts _ _ (by omega) (by omega)
theorem FR_byts (l : List AnsT) : ∀ j, Byts (FR l j)
  | 0 => fun x hx => by simp [FR] at hx
  | j + 1 => (FR_byts l j).app (frOf_byts _ _)
theorem readS_frOf (j : Nat) (x : AnsT) (h1 : I64 x.2.1) (h2 : I64 x.2.2) : readS (frOf j x) = some (sdOf j x, 22) :=
  readS_frm _ (opOf_or j) _ (vrOf_le x.1) _ _ h1 h2
theorem sd_ok (j : Nat) (x : AnsT) (h1 : I64 x.2.1) (h2 : I64 x.2.2) : (sdOf j x).OK ∧ (sdOf j x).line.length + 1 ≤ 880 := by
  have := readS_ok (frOf_byts j x) (by unfold frOf; rw [frm_len]; omega) (readS_frOf j x h1 h2)
  omega
theorem SD_len (l : List AnsT) (hl : ∀ j, I64 (l.getD j (0, 0, 0)).2.1 ∧ I64 (l.getD j (0, 0, 0)).2.2) : ∀ j, (txt (SD l j)).length ≤ 880 * j
  | 0 => Nat.le_refl _
  | j + 1 => by
    have := SD_len l hl j
    have k := (sd_ok j _ (hl j).1 (hl j).2).2
    rw [SD, txt_app, txt_cons, txt_nil, List.append_nil, List.length_append, List.length_append, List.length_singleton]
    omega
theorem stream_FR (l : List AnsT) (hl : ∀ j, I64 (l.getD j (0, 0, 0)).2.1 ∧ I64 (l.getD j (0, 0, 0)).2.2) : ∀ (j : Nat) (r : List Int), stream (FR l j ++ r) = (SD l j ++ (stream r).1, 22 * j + (stream r).2)
  | 0, r => by simp [FR, SD]
  | j + 1, r => by
    have e := readS_app (readS_frOf j _ (hl j).1 (hl j).2) r
    have q := stream_some e
    rw [List.drop_append_of_le_length (by unfold frOf; rw [frm_len]; exact Nat.le_refl _), List.drop_eq_nil_of_le (by unfold frOf; rw [frm_len]; exact Nat.le_refl _), List.nil_append] at q
    rw [FR, List.append_assoc, stream_FR l hl j, q, SD, List.append_assoc]
    simp only [Prod.mk.injEq]
    exact ⟨rfl, by omega⟩
theorem FR_cut (l : List AnsT) (j : Nat) : (FR l (j + 1)).take (22 * (j + 1) - 1) = FR l j ++ (frOf j (l.getD j (0, 0, 0))).take 21 := by
  have := FR_len l j
  rw [FR, List.take_append, this, List.take_of_length_le (by omega), show 22 * (j + 1) - 1 - 22 * j = 21 by omega]
theorem stream_cut (l : List AnsT) (hl : ∀ j, I64 (l.getD j (0, 0, 0)).2.1 ∧ I64 (l.getD j (0, 0, 0)).2.2) (j : Nat) : stream ((FR l (j + 1)).take (22 * (j + 1) - 1)) = (SD l j, 22 * j) := by
  have k : readS ((frOf j (l.getD j (0, 0, 0))).take 21) = none := readS_frm21 _ _ _ _
  rw [FR_cut, stream_FR l hl, stream_none k, List.append_nil]
  rfl
theorem readS_not {r : List Int} (h : ∀ x, r[0]? = some x → x ≠ 168) : readS r = none := by
  unfold readS
  by_cases c : r.length < 6
  · rw [if_pos (.inl c)]
  · have hx : r[0]? = some r[0] := List.getElem?_eq_getElem (by omega)
    rw [if_pos (.inr (.inl (by rw [getD_of hx]; exact h _ hx)))]
theorem slice_hi {h : Heap} {v : Value} {l : List Int} (s : Bys h v l) {i : Nat} (hi : i ≤ l.length) : ∃ w, cop (.slice 5 1 v none (some (.int .i64 i))) h = some (w, h) ∧ Bys h w (l.take i) := by
  rcases s with ⟨rfl, rfl⟩ | ⟨b, o, cap, rfl, h2, h3, h4, h5⟩
  · obtain rfl : i = 0 := by simpa using hi
    exact ⟨.slice none 0 0, rfl, .inl ⟨rfl, rfl⟩⟩
  · have S := Bys.sub h3 h4 h5 h2 0 i (Nat.zero_le _) hi
    rw [List.drop_zero] at S
    refine ⟨_, ?_, S⟩
    simp (disch := omega) only [h4, Nat.zero_mul, Nat.sub_zero, ↓RunC_seq, ↓RunC_skip, ↓RunC_ret, ↓RunC_exit, ↓RunC_region, ↓RunC_condQ, condQ_true, condQ_false, ↓RunC_block, ↓RunR_done, ↓RunR_op, ↓RunR_opg, ↓RunR_snap, ↓RunR_chk, Holds, Option.getD_none, Option.getD_some, guardR_true, guardR_false, wantV_bool, wantV_none, callvQ_eq, afterR_some, ↓seqQ_normal, ↓seqQ_ret, ↓seqQ_exit, ↓blockQ_normal, ↓blockQ_ret, ↓blockQ_exit, ↓retQ_ret, ↓retQ_normal, ↓callQ_eq, ↓loopQ_normal, ↓loopQ_ret, ↓loopQ_exit, ↓upd_same, upd_at, sel_t, sel_f, initE_at, obj_upd_same, obj_upd_ne, obj_new_same, obj_updnew_same, obj_updnew_same2, obj_new2_same, obj_new3_same, obj_newupd_same, obj_new_ne, obj_new_ne2, obj_new_ne3, obj_new_ne4, next_upd, next_new, add_plain, cop, bin, binInt, un, shiftInt, flat, read_cells, src_ro, src_fix, src_grow, get_cells, List.getElem?_cons_zero, List.getElem?_cons_succ, write_fix, write_grow, setAt, bound, eqK, elemOk_ro, elemOk_fix, elemOk_grow, stiff_ro, stiff_fix, goInt, resultsV, resV, resL, finQ_some, Option.map_some, Option.map_none, Option.bind_some, Option.bind_none, List.map_cons, List.map_nil, List.getD_cons_zero, List.getD_cons_succ, List.getD_nil, Nat.reduceEqDiff, Nat.reduceAdd, Nat.reduceMul, Nat.reduceSub, Nat.reduceLT, Nat.reduceLeDiff, Nat.reduceBEq, if_true, if_false, ite_true, ite_false, List.length_cons, List.length_nil, Nat.zero_add, Nat.add_zero, List.drop_zero, List.drop_succ_cons, List.take_succ_cons, List.take_zero, List.set_cons_zero, List.set_cons_succ, Int.reduceLT, Int.reduceLE, Bool.not_true, Bool.not_false, Option.isNone_some, Option.isNone_none, decide_true, decide_false, beq_self_eq_true, Bool.false_eq_true, Bool.true_eq_false, if_pos, if_neg, reduceCtorEq, beq_iff_eq, BEq.rfl, wrap_i64, wrap_i32, wrap_i8, wrap_u8, wrap_u32, wrap_u64, Nat.mul_one, Int.toNat_natCast, ints_len, List.length_map, List.length_set, beq_ft, beq_tf, List.all_cons, List.all_nil, scalar, Bool.and_self, Bool.true_and, Bool.and_true, List.size_toArray, List.getElem?_toArray, binStr, fillIn, true_and, and_true, true_or, or_true, bne_self_eq_false, Int.reduceToNat, Int.reduceAdd, Int.reduceSub, Int.reduceMul]
end Go.Proofs.YtcmanhhpfbinoaaDoor.Can
