/- The report's line of an answer, in the canonical machine. No condition. -/
import Derived.Test.YtcmanhhpfbinoaaDoorSKey
namespace Go.Proofs.YtcmanhhpfbinoaaDoor.Can
open Go
set_option linter.unusedSimpArgs false
set_option linter.unusedVariables false
attribute [local congr] RunR_congr RunC_congr afterR_congr guardR_congr condQ_congr CALL_congr finQ_congr op_congr opg_congr

/-- A string's bytes. -/
def byL (s : ByteArray) : List Int := s.data.toList.map fun b => (b.toNat : Int)
theorem byL_byts (s : ByteArray) : Byts (byL s) := fun x hx => by
  obtain ⟨b, _, rfl⟩ := List.mem_map.1 hx
  have := b.toNat_lt
  omega
theorem bs_byL (s : ByteArray) : bs (byL s) = s := by
  apply ByteArray.ext
  have e : ((fun n : Int => UInt8.ofNat n.toNat) ∘ fun b : UInt8 => (b.toNat : Int)) = id := by
    funext b
    simp
  simp [bs, byL, e]
theorem byL_bs {l : List Int} (h : Byts l) : byL (bs l) = l := bs_inj (byL_byts _) h (bs_byL _)
theorem byL_len (s : ByteArray) : (byL s).length = s.size := by
  have := bs_size (byL s)
  rw [bs_byL] at this
  exact this.symm
abbrev CntT := ByteArray × Int × Int
abbrev CE : Enc CntT := Enc.pair Enc.str (Enc.pair (Enc.int .i64) (Enc.int .i64))
structure SaidV where
  op : Int
  rule : Int
  ver : Int
  rem : Int
  ret : Int
  al : Int
  de : Int
  ba : Int
  ce : Int
  we : Int
  l : List CntT
  er : Int
def ent (c : CntT) : List Int := 32 :: (hexL (byL c.1) ++ nums [c.2.1, c.2.2])
def SaidV.line (s : SaidV) : List Int :=
  if s.op = 1 then [99, 104, 101, 99, 107, 32] ++ verd (s.ver % 4).toNat ++ nums [s.rem, s.ret]
  else if s.op = 2 then [112, 101, 101, 107, 32] ++ verd (s.ver % 4).toNat ++ nums [s.rem, s.ret]
  else if s.op = 3 then [115, 116, 97, 116, 115] ++ nums [s.rule, s.al, s.de, s.ba, s.ce, s.we]
  else if s.op = 4 then [116, 111, 112] ++ nums [s.rule] ++ s.l.flatMap ent
  else [102, 97, 117, 108, 116] ++ nums [s.er]
structure SaidV.OK (s : SaidV) : Prop where
  nums : ∀ x ∈ [s.rule, s.rem, s.ret, s.al, s.de, s.ba, s.ce, s.we, s.er], I64 x
  len : s.l.length ≤ 300
  cnt : ∀ c ∈ s.l, c.1.size ≤ 300 ∧ I64 c.2.1 ∧ I64 c.2.2
theorem ent_prn (c : CntT) : Prn (ent c) := fun x hx => by
  unfold ent at hx
  rcases List.mem_cons.1 hx with rfl | hx
  · omega
  · exact ((hexL_prn (byL_byts c.1)).app (nums_prn _)) x hx
theorem SaidV.line_prn (s : SaidV) : Prn s.line := by
  have lit : ∀ l : List Int, (l.all fun x => decide (11 ≤ x) && decide (x < 128)) = true → Prn l := fun l h x hx => by
    have := List.all_eq_true.1 h x hx
    simpa using this
  unfold SaidV.line
  split
  · exact ((lit _ rfl).app (verd_prn _)).app (nums_prn _)
  · split
    · exact ((lit _ rfl).app (verd_prn _)).app (nums_prn _)
    · split
      · exact (lit _ rfl).app (nums_prn _)
      · split
        · refine ((lit _ rfl).app (nums_prn _)).app fun x hx => ?_
          obtain ⟨c, _, hx⟩ := List.mem_flatMap.1 hx
          exact ent_prn c x hx
        · exact (lit _ rfl).app (nums_prn _)
theorem ent_len {c : CntT} (h : c.1.size ≤ 300 ∧ I64 c.2.1 ∧ I64 c.2.2) : (ent c).length ≤ 644 := by
  have h1 := (hexL_len (byL c.1)).1
  rw [byL_len] at h1
  have h2 := nums_len [c.2.1, c.2.2] (fun x hx => by
    simp only [List.mem_cons, List.not_mem_nil, or_false] at hx
    rcases hx with rfl | rfl
    · exact h.2.1
    · exact h.2.2)
  simp only [List.length_cons, List.length_nil] at h2
  unfold ent
  rw [List.length_cons, List.length_append]
  omega
theorem ents_len : ∀ (l : List CntT), (∀ c ∈ l, c.1.size ≤ 300 ∧ I64 c.2.1 ∧ I64 c.2.2) → (l.flatMap ent).length ≤ 644 * l.length
  | [], _ => Nat.le_refl _
  | c :: t, h => by
    have h1 := ents_len t fun x hx => h x (List.mem_cons_of_mem _ hx)
    have h2 := ent_len (h c List.mem_cons_self)
    rw [List.flatMap_cons, List.length_append, List.length_cons]
    omega
abbrev saidc (s : SaidV) (v : Value) : List Value := [.int .i64 s.op, .int .i64 s.rule, .int .i64 s.ver, .int .i64 s.rem, .int .i64 s.ret, .int .i64 s.al, .int .i64 s.de, .int .i64 s.ba, .int .i64 s.ce, .int .i64 s.we, v, .int .i64 s.er]
theorem bn (a b : Int) : (a == b) = decide (a = b) := by
  by_cases h : a = b
  · rw [h]; simp
  · rw [decide_eq_false h]; simpa using h

set_option maxHeartbeats 2000000 in
theorem said_ok (h : Heap) (hT : HasPows h) (s : SaidV) (v : Value) (hs : Lst h CE v s.l) (ok : s.OK) {Q : Value → Heap → Prop} (hQ : ∀ h', Old h h' → Q (.string (bs s.line)) h') :
    CALL cp 10 [.agg (saidc s v).toArray] h Q := by
  obtain ⟨nm, lenl, cnt⟩ := ok
  have i1 := nm s.rule (by simp)
  have i2 := nm s.rem (by simp)
  have i3 := nm s.ret (by simp)
  have i4 := nm s.al (by simp)
  have i5 := nm s.de (by simp)
  have i6 := nm s.ba (by simp)
  have i7 := nm s.ce (by simp)
  have i8 := nm s.we (by simp)
  have i9 := nm s.er (by simp)
  obtain ⟨op, rule, ver, rem, ret, al, de, ba, ce, we, l, er⟩ := s
  simp only at i1 i2 i3 i4 i5 i6 i7 i8 i9 lenl cnt hs
  obtain ⟨a, cap, rfl, hrd⟩ := hs
  show CALL cp 10 [.agg #[.int .i64 op, .int .i64 rule, .int .i64 ver, .int .i64 rem, .int .i64 ret, .int .i64 al, .int .i64 de, .int .i64 ba, .int .i64 ce, .int .i64 we, .slice a l.length cap, .int .i64 er]] h Q
  rw [CALL_enter cp cp10]
  obtain ⟨h0, h0d⟩ : ∃ h0, h0 = h.new (.cells [.int .i64 op, .int .i64 rule, .int .i64 ver, .int .i64 rem, .int .i64 ret, .int .i64 al, .int .i64 de, .int .i64 ba, .int .i64 ce, .int .i64 we, .slice a l.length cap, .int .i64 er] 36 .fix) := ⟨_, rfl⟩
  have o0 : Old h h0 := by rw [h0d]; exact (Old.refl h).more _
  have n0 : h0.next = h.next + 1 := by rw [h0d]; rfl
  have g0 : h0.obj h.next = .cells [.int .i64 op, .int .i64 rule, .int .i64 ver, .int .i64 rem, .int .i64 ret, .int .i64 al, .int .i64 de, .int .i64 ba, .int .i64 ce, .int .i64 we, .slice a l.length cap, .int .i64 er] 36 .fix := by rw [h0d]; exact obj_new_same _ _
  have T0 := hT.old o0
  have two : ∀ (w : List Int), 2 ≤ w.length → w.length ≤ 10 → True := fun _ _ _ => trivial
  have an : IntKind.i64.wrap ((BitVec.ofInt IntKind.i64.bits ver &&& BitVec.ofInt IntKind.i64.bits 3).toNat : Int) = ((ver % 4).toNat : Int) := by
    rw [and_i64 2 (by decide) ver 3 (by decide), Int.toNat_of_nonneg (Int.emod_nonneg _ (by decide))]; rfl
  have cs1 : (⟨#[99, 104, 101, 99, 107, 32]⟩ : ByteArray) = bs [99, 104, 101, 99, 107, 32] := rfl
  have cs2 : (⟨#[112, 101, 101, 107, 32]⟩ : ByteArray) = bs [112, 101, 101, 107, 32] := rfl
  have cs3 : (⟨#[115, 116, 97, 116, 115]⟩ : ByteArray) = bs [115, 116, 97, 116, 115] := rfl
  have cs4 : (⟨#[116, 111, 112]⟩ : ByteArray) = bs [116, 111, 112] := rfl
  have cs5 : (⟨#[102, 97, 117, 108, 116]⟩ : ByteArray) = bs [102, 97, 117, 108, 116] := rfl
  have cs6 : (⟨#[32]⟩ : ByteArray) = bs [32] := rfl
  have v3 : (ver % 4).toNat ≤ 3 := by omega
  have vl := verd_len (ver % 4).toNat
  by_cases c1 : op = 1
  · subst c1
    have e11 : ((1 : Int) == 1) = true := rfl
    have e12 : ((1 : Int) == 2) = false := rfl
    simp (disch := omega) only [c10, ↓c10_r0_run, ↓c10_r1_run, ↓c10_r2_run, ↓c10_r3_run, ↓c10_r4_run, ↓c10_r5_run, ↓c10_r6_run, ↓c10_r7_c2_run, ↓c10_r7_c1_run, ↓c10_r7_run, ↓c10_r8_run, ↓c10_r9_c2_run, ↓c10_r9_c1_run, ↓c10_r9_run, ↓c10_r10_run, ↓c10_r11_run, ↓c10_r12_run, ↓c10_r13_run, ↓c10_r14_run, ↓c10_r15_c1_run, ↓c10_r15_run, ↓c10_r16_run, ↓c10_r17_run, ↓c10_r18_run, ← h0d, g0, e11, e12, an, cs1, ↓RunC_seq, ↓RunC_skip, ↓RunC_ret, ↓RunC_exit, ↓RunC_region, ↓RunC_condQ, condQ_true, condQ_false, ↓RunC_block, ↓RunR_done, ↓RunR_op, ↓RunR_opg, ↓RunR_snap, ↓RunR_chk, Holds, Option.getD_none, Option.getD_some, guardR_true, guardR_false, wantV_bool, wantV_none, callvQ_eq, afterR_some, ↓seqQ_normal, ↓seqQ_ret, ↓seqQ_exit, ↓blockQ_normal, ↓blockQ_ret, ↓blockQ_exit, ↓retQ_ret, ↓retQ_normal, ↓callQ_eq, ↓loopQ_normal, ↓loopQ_ret, ↓loopQ_exit, ↓upd_same, upd_at, sel_t, sel_f, initE_at, obj_upd_same, obj_upd_ne, obj_new_same, obj_updnew_same, obj_updnew_same2, obj_new2_same, obj_new3_same, obj_newupd_same, obj_new_ne, obj_new_ne2, obj_new_ne3, obj_new_ne4, next_upd, next_new, add_plain, cop, bin, binInt, un, shiftInt, flat, read_cells, src_ro, src_fix, src_grow, get_cells, List.getElem?_cons_zero, List.getElem?_cons_succ, write_fix, write_grow, setAt, bound, eqK, elemOk_ro, elemOk_fix, elemOk_grow, stiff_ro, stiff_fix, goInt, resultsV, resV, resL, finQ_some, Option.map_some, Option.map_none, Option.bind_some, Option.bind_none, List.map_cons, List.map_nil, List.getD_cons_zero, List.getD_cons_succ, List.getD_nil, Nat.reduceEqDiff, Nat.reduceAdd, Nat.reduceMul, Nat.reduceSub, Nat.reduceLT, Nat.reduceLeDiff, Nat.reduceBEq, if_true, if_false, ite_true, ite_false, List.length_cons, List.length_nil, Nat.zero_add, Nat.add_zero, List.drop_zero, List.drop_succ_cons, List.take_succ_cons, List.take_zero, List.set_cons_zero, List.set_cons_succ, Int.reduceLT, Int.reduceLE, Bool.not_true, Bool.not_false, Option.isNone_some, Option.isNone_none, decide_true, decide_false, beq_self_eq_true, Bool.false_eq_true, Bool.true_eq_false, if_pos, if_neg, reduceCtorEq, beq_iff_eq, BEq.rfl, wrap_i64, wrap_i32, wrap_i8, wrap_u8, wrap_u32, wrap_u64, Nat.mul_one, Int.toNat_natCast, ints_len, List.length_map, List.length_set, beq_ft, beq_tf, List.all_cons, List.all_nil, scalar, Bool.and_self, Bool.true_and, Bool.and_true, List.size_toArray, List.getElem?_toArray, binStr, fillIn, true_and, and_true, true_or, or_true, bne_self_eq_false, Int.reduceToNat, Int.reduceAdd, Int.reduceSub, Int.reduceMul]
    refine verdict_ok h0 (ver % 4).toNat v3 fun h1 o1 => ?_
    have g1 := (o1.obj h.next (by omega)).trans g0
    have T1 := T0.old o1
    simp (disch := omega) only [c10, ↓c10_r0_run, ↓c10_r1_run, ↓c10_r2_run, ↓c10_r3_run, ↓c10_r4_run, ↓c10_r5_run, ↓c10_r6_run, ↓c10_r7_c2_run, ↓c10_r7_c1_run, ↓c10_r7_run, ↓c10_r8_run, ↓c10_r9_c2_run, ↓c10_r9_c1_run, ↓c10_r9_run, ↓c10_r10_run, ↓c10_r11_run, ↓c10_r12_run, ↓c10_r13_run, ↓c10_r14_run, ↓c10_r15_c1_run, ↓c10_r15_run, ↓c10_r16_run, ↓c10_r17_run, ↓c10_r18_run, g0, g1, bs_size, bs_app, List.length_cons, List.length_nil, reps, List.append_nil, List.nil_append, List.cons_append, ↓RunC_seq, ↓RunC_skip, ↓RunC_ret, ↓RunC_exit, ↓RunC_region, ↓RunC_condQ, condQ_true, condQ_false, ↓RunC_block, ↓RunR_done, ↓RunR_op, ↓RunR_opg, ↓RunR_snap, ↓RunR_chk, Holds, Option.getD_none, Option.getD_some, guardR_true, guardR_false, wantV_bool, wantV_none, callvQ_eq, afterR_some, ↓seqQ_normal, ↓seqQ_ret, ↓seqQ_exit, ↓blockQ_normal, ↓blockQ_ret, ↓blockQ_exit, ↓retQ_ret, ↓retQ_normal, ↓callQ_eq, ↓loopQ_normal, ↓loopQ_ret, ↓loopQ_exit, ↓upd_same, upd_at, sel_t, sel_f, initE_at, obj_upd_same, obj_upd_ne, obj_new_same, obj_updnew_same, obj_updnew_same2, obj_new2_same, obj_new3_same, obj_newupd_same, obj_new_ne, obj_new_ne2, obj_new_ne3, obj_new_ne4, next_upd, next_new, add_plain, cop, bin, binInt, un, shiftInt, flat, read_cells, src_ro, src_fix, src_grow, get_cells, List.getElem?_cons_zero, List.getElem?_cons_succ, write_fix, write_grow, setAt, bound, eqK, elemOk_ro, elemOk_fix, elemOk_grow, stiff_ro, stiff_fix, goInt, resultsV, resV, resL, finQ_some, Option.map_some, Option.map_none, Option.bind_some, Option.bind_none, List.map_cons, List.map_nil, List.getD_cons_zero, List.getD_cons_succ, List.getD_nil, Nat.reduceEqDiff, Nat.reduceAdd, Nat.reduceMul, Nat.reduceSub, Nat.reduceLT, Nat.reduceLeDiff, Nat.reduceBEq, if_true, if_false, ite_true, ite_false, List.length_cons, List.length_nil, Nat.zero_add, Nat.add_zero, List.drop_zero, List.drop_succ_cons, List.take_succ_cons, List.take_zero, List.set_cons_zero, List.set_cons_succ, Int.reduceLT, Int.reduceLE, Bool.not_true, Bool.not_false, Option.isNone_some, Option.isNone_none, decide_true, decide_false, beq_self_eq_true, Bool.false_eq_true, Bool.true_eq_false, if_pos, if_neg, reduceCtorEq, beq_iff_eq, BEq.rfl, wrap_i64, wrap_i32, wrap_i8, wrap_u8, wrap_u32, wrap_u64, Nat.mul_one, Int.toNat_natCast, ints_len, List.length_map, List.length_set, beq_ft, beq_tf, List.all_cons, List.all_nil, scalar, Bool.and_self, Bool.true_and, Bool.and_true, List.size_toArray, List.getElem?_toArray, binStr, fillIn, true_and, and_true, true_or, or_true, bne_self_eq_false, Int.reduceToNat, Int.reduceAdd, Int.reduceSub, Int.reduceMul]
    have T1' : HasPows (h1.new (.cells (ints .i64 [rem, ret]) 2 .grow)) := T1.old ((Old.refl h1).more _)
    have n64 : ∀ x ∈ [rem, ret], I64 x := fun x hx => by
      simp only [List.mem_cons, List.not_mem_nil, or_false] at hx
      rcases hx with rfl | rfl
      · exact i2
      · exact i3
    have nlen := nums_len [rem, ret] n64
    refine nums_ok (h1.new (.cells (ints .i64 [rem, ret]) 2 .grow)) h1.next [rem, ret] (obj_new_same _ _) (Nat.lt_succ_self _) T1' (by simp) n64 fun h2 o2 => ?_
    simp only [List.length_cons, List.length_nil] at nlen
    simp (disch := omega) only [c10, ↓c10_r0_run, ↓c10_r1_run, ↓c10_r2_run, ↓c10_r3_run, ↓c10_r4_run, ↓c10_r5_run, ↓c10_r6_run, ↓c10_r7_c2_run, ↓c10_r7_c1_run, ↓c10_r7_run, ↓c10_r8_run, ↓c10_r9_c2_run, ↓c10_r9_c1_run, ↓c10_r9_run, ↓c10_r10_run, ↓c10_r11_run, ↓c10_r12_run, ↓c10_r13_run, ↓c10_r14_run, ↓c10_r15_c1_run, ↓c10_r15_run, ↓c10_r16_run, ↓c10_r17_run, ↓c10_r18_run, bs_size, bs_app, List.length_cons, List.length_nil, List.cons_append, ↓RunC_seq, ↓RunC_skip, ↓RunC_ret, ↓RunC_exit, ↓RunC_region, ↓RunC_condQ, condQ_true, condQ_false, ↓RunC_block, ↓RunR_done, ↓RunR_op, ↓RunR_opg, ↓RunR_snap, ↓RunR_chk, Holds, Option.getD_none, Option.getD_some, guardR_true, guardR_false, wantV_bool, wantV_none, callvQ_eq, afterR_some, ↓seqQ_normal, ↓seqQ_ret, ↓seqQ_exit, ↓blockQ_normal, ↓blockQ_ret, ↓blockQ_exit, ↓retQ_ret, ↓retQ_normal, ↓callQ_eq, ↓loopQ_normal, ↓loopQ_ret, ↓loopQ_exit, ↓upd_same, upd_at, sel_t, sel_f, initE_at, obj_upd_same, obj_upd_ne, obj_new_same, obj_updnew_same, obj_updnew_same2, obj_new2_same, obj_new3_same, obj_newupd_same, obj_new_ne, obj_new_ne2, obj_new_ne3, obj_new_ne4, next_upd, next_new, add_plain, cop, bin, binInt, un, shiftInt, flat, read_cells, src_ro, src_fix, src_grow, get_cells, List.getElem?_cons_zero, List.getElem?_cons_succ, write_fix, write_grow, setAt, bound, eqK, elemOk_ro, elemOk_fix, elemOk_grow, stiff_ro, stiff_fix, goInt, resultsV, resV, resL, finQ_some, Option.map_some, Option.map_none, Option.bind_some, Option.bind_none, List.map_cons, List.map_nil, List.getD_cons_zero, List.getD_cons_succ, List.getD_nil, Nat.reduceEqDiff, Nat.reduceAdd, Nat.reduceMul, Nat.reduceSub, Nat.reduceLT, Nat.reduceLeDiff, Nat.reduceBEq, if_true, if_false, ite_true, ite_false, List.length_cons, List.length_nil, Nat.zero_add, Nat.add_zero, List.drop_zero, List.drop_succ_cons, List.take_succ_cons, List.take_zero, List.set_cons_zero, List.set_cons_succ, Int.reduceLT, Int.reduceLE, Bool.not_true, Bool.not_false, Option.isNone_some, Option.isNone_none, decide_true, decide_false, beq_self_eq_true, Bool.false_eq_true, Bool.true_eq_false, if_pos, if_neg, reduceCtorEq, beq_iff_eq, BEq.rfl, wrap_i64, wrap_i32, wrap_i8, wrap_u8, wrap_u32, wrap_u64, Nat.mul_one, Int.toNat_natCast, ints_len, List.length_map, List.length_set, beq_ft, beq_tf, List.all_cons, List.all_nil, scalar, Bool.and_self, Bool.true_and, Bool.and_true, List.size_toArray, List.getElem?_toArray, binStr, fillIn, true_and, and_true, true_or, or_true, bne_self_eq_false, Int.reduceToNat, Int.reduceAdd, Int.reduceSub, Int.reduceMul]
    have := hQ h2 (((o0.trans o1).trans ((Old.refl h1).more _)).trans o2)
    unfold SaidV.line at this
    rw [if_pos rfl] at this
    exact this
  by_cases c2 : op = 2
  · subst c2
    have e11 : ((2 : Int) == 1) = false := rfl
    have e12 : ((2 : Int) == 2) = true := rfl
    simp (disch := omega) only [c10, ↓c10_r0_run, ↓c10_r1_run, ↓c10_r2_run, ↓c10_r3_run, ↓c10_r4_run, ↓c10_r5_run, ↓c10_r6_run, ↓c10_r7_c2_run, ↓c10_r7_c1_run, ↓c10_r7_run, ↓c10_r8_run, ↓c10_r9_c2_run, ↓c10_r9_c1_run, ↓c10_r9_run, ↓c10_r10_run, ↓c10_r11_run, ↓c10_r12_run, ↓c10_r13_run, ↓c10_r14_run, ↓c10_r15_c1_run, ↓c10_r15_run, ↓c10_r16_run, ↓c10_r17_run, ↓c10_r18_run, ← h0d, g0, e11, e12, an, cs2, ↓RunC_seq, ↓RunC_skip, ↓RunC_ret, ↓RunC_exit, ↓RunC_region, ↓RunC_condQ, condQ_true, condQ_false, ↓RunC_block, ↓RunR_done, ↓RunR_op, ↓RunR_opg, ↓RunR_snap, ↓RunR_chk, Holds, Option.getD_none, Option.getD_some, guardR_true, guardR_false, wantV_bool, wantV_none, callvQ_eq, afterR_some, ↓seqQ_normal, ↓seqQ_ret, ↓seqQ_exit, ↓blockQ_normal, ↓blockQ_ret, ↓blockQ_exit, ↓retQ_ret, ↓retQ_normal, ↓callQ_eq, ↓loopQ_normal, ↓loopQ_ret, ↓loopQ_exit, ↓upd_same, upd_at, sel_t, sel_f, initE_at, obj_upd_same, obj_upd_ne, obj_new_same, obj_updnew_same, obj_updnew_same2, obj_new2_same, obj_new3_same, obj_newupd_same, obj_new_ne, obj_new_ne2, obj_new_ne3, obj_new_ne4, next_upd, next_new, add_plain, cop, bin, binInt, un, shiftInt, flat, read_cells, src_ro, src_fix, src_grow, get_cells, List.getElem?_cons_zero, List.getElem?_cons_succ, write_fix, write_grow, setAt, bound, eqK, elemOk_ro, elemOk_fix, elemOk_grow, stiff_ro, stiff_fix, goInt, resultsV, resV, resL, finQ_some, Option.map_some, Option.map_none, Option.bind_some, Option.bind_none, List.map_cons, List.map_nil, List.getD_cons_zero, List.getD_cons_succ, List.getD_nil, Nat.reduceEqDiff, Nat.reduceAdd, Nat.reduceMul, Nat.reduceSub, Nat.reduceLT, Nat.reduceLeDiff, Nat.reduceBEq, if_true, if_false, ite_true, ite_false, List.length_cons, List.length_nil, Nat.zero_add, Nat.add_zero, List.drop_zero, List.drop_succ_cons, List.take_succ_cons, List.take_zero, List.set_cons_zero, List.set_cons_succ, Int.reduceLT, Int.reduceLE, Bool.not_true, Bool.not_false, Option.isNone_some, Option.isNone_none, decide_true, decide_false, beq_self_eq_true, Bool.false_eq_true, Bool.true_eq_false, if_pos, if_neg, reduceCtorEq, beq_iff_eq, BEq.rfl, wrap_i64, wrap_i32, wrap_i8, wrap_u8, wrap_u32, wrap_u64, Nat.mul_one, Int.toNat_natCast, ints_len, List.length_map, List.length_set, beq_ft, beq_tf, List.all_cons, List.all_nil, scalar, Bool.and_self, Bool.true_and, Bool.and_true, List.size_toArray, List.getElem?_toArray, binStr, fillIn, true_and, and_true, true_or, or_true, bne_self_eq_false, Int.reduceToNat, Int.reduceAdd, Int.reduceSub, Int.reduceMul]
    refine verdict_ok h0 (ver % 4).toNat v3 fun h1 o1 => ?_
    have g1 := (o1.obj h.next (by omega)).trans g0
    have T1 := T0.old o1
    simp (disch := omega) only [c10, ↓c10_r0_run, ↓c10_r1_run, ↓c10_r2_run, ↓c10_r3_run, ↓c10_r4_run, ↓c10_r5_run, ↓c10_r6_run, ↓c10_r7_c2_run, ↓c10_r7_c1_run, ↓c10_r7_run, ↓c10_r8_run, ↓c10_r9_c2_run, ↓c10_r9_c1_run, ↓c10_r9_run, ↓c10_r10_run, ↓c10_r11_run, ↓c10_r12_run, ↓c10_r13_run, ↓c10_r14_run, ↓c10_r15_c1_run, ↓c10_r15_run, ↓c10_r16_run, ↓c10_r17_run, ↓c10_r18_run, g0, g1, bs_size, bs_app, List.length_cons, List.length_nil, reps, List.append_nil, List.nil_append, List.cons_append, ↓RunC_seq, ↓RunC_skip, ↓RunC_ret, ↓RunC_exit, ↓RunC_region, ↓RunC_condQ, condQ_true, condQ_false, ↓RunC_block, ↓RunR_done, ↓RunR_op, ↓RunR_opg, ↓RunR_snap, ↓RunR_chk, Holds, Option.getD_none, Option.getD_some, guardR_true, guardR_false, wantV_bool, wantV_none, callvQ_eq, afterR_some, ↓seqQ_normal, ↓seqQ_ret, ↓seqQ_exit, ↓blockQ_normal, ↓blockQ_ret, ↓blockQ_exit, ↓retQ_ret, ↓retQ_normal, ↓callQ_eq, ↓loopQ_normal, ↓loopQ_ret, ↓loopQ_exit, ↓upd_same, upd_at, sel_t, sel_f, initE_at, obj_upd_same, obj_upd_ne, obj_new_same, obj_updnew_same, obj_updnew_same2, obj_new2_same, obj_new3_same, obj_newupd_same, obj_new_ne, obj_new_ne2, obj_new_ne3, obj_new_ne4, next_upd, next_new, add_plain, cop, bin, binInt, un, shiftInt, flat, read_cells, src_ro, src_fix, src_grow, get_cells, List.getElem?_cons_zero, List.getElem?_cons_succ, write_fix, write_grow, setAt, bound, eqK, elemOk_ro, elemOk_fix, elemOk_grow, stiff_ro, stiff_fix, goInt, resultsV, resV, resL, finQ_some, Option.map_some, Option.map_none, Option.bind_some, Option.bind_none, List.map_cons, List.map_nil, List.getD_cons_zero, List.getD_cons_succ, List.getD_nil, Nat.reduceEqDiff, Nat.reduceAdd, Nat.reduceMul, Nat.reduceSub, Nat.reduceLT, Nat.reduceLeDiff, Nat.reduceBEq, if_true, if_false, ite_true, ite_false, List.length_cons, List.length_nil, Nat.zero_add, Nat.add_zero, List.drop_zero, List.drop_succ_cons, List.take_succ_cons, List.take_zero, List.set_cons_zero, List.set_cons_succ, Int.reduceLT, Int.reduceLE, Bool.not_true, Bool.not_false, Option.isNone_some, Option.isNone_none, decide_true, decide_false, beq_self_eq_true, Bool.false_eq_true, Bool.true_eq_false, if_pos, if_neg, reduceCtorEq, beq_iff_eq, BEq.rfl, wrap_i64, wrap_i32, wrap_i8, wrap_u8, wrap_u32, wrap_u64, Nat.mul_one, Int.toNat_natCast, ints_len, List.length_map, List.length_set, beq_ft, beq_tf, List.all_cons, List.all_nil, scalar, Bool.and_self, Bool.true_and, Bool.and_true, List.size_toArray, List.getElem?_toArray, binStr, fillIn, true_and, and_true, true_or, or_true, bne_self_eq_false, Int.reduceToNat, Int.reduceAdd, Int.reduceSub, Int.reduceMul]
    have T1' : HasPows (h1.new (.cells (ints .i64 [rem, ret]) 2 .grow)) := T1.old ((Old.refl h1).more _)
    have n64 : ∀ x ∈ [rem, ret], I64 x := fun x hx => by
      simp only [List.mem_cons, List.not_mem_nil, or_false] at hx
      rcases hx with rfl | rfl
      · exact i2
      · exact i3
    have nlen := nums_len [rem, ret] n64
    refine nums_ok (h1.new (.cells (ints .i64 [rem, ret]) 2 .grow)) h1.next [rem, ret] (obj_new_same _ _) (Nat.lt_succ_self _) T1' (by simp) n64 fun h2 o2 => ?_
    simp only [List.length_cons, List.length_nil] at nlen
    simp (disch := omega) only [c10, ↓c10_r0_run, ↓c10_r1_run, ↓c10_r2_run, ↓c10_r3_run, ↓c10_r4_run, ↓c10_r5_run, ↓c10_r6_run, ↓c10_r7_c2_run, ↓c10_r7_c1_run, ↓c10_r7_run, ↓c10_r8_run, ↓c10_r9_c2_run, ↓c10_r9_c1_run, ↓c10_r9_run, ↓c10_r10_run, ↓c10_r11_run, ↓c10_r12_run, ↓c10_r13_run, ↓c10_r14_run, ↓c10_r15_c1_run, ↓c10_r15_run, ↓c10_r16_run, ↓c10_r17_run, ↓c10_r18_run, bs_size, bs_app, List.length_cons, List.length_nil, List.cons_append, ↓RunC_seq, ↓RunC_skip, ↓RunC_ret, ↓RunC_exit, ↓RunC_region, ↓RunC_condQ, condQ_true, condQ_false, ↓RunC_block, ↓RunR_done, ↓RunR_op, ↓RunR_opg, ↓RunR_snap, ↓RunR_chk, Holds, Option.getD_none, Option.getD_some, guardR_true, guardR_false, wantV_bool, wantV_none, callvQ_eq, afterR_some, ↓seqQ_normal, ↓seqQ_ret, ↓seqQ_exit, ↓blockQ_normal, ↓blockQ_ret, ↓blockQ_exit, ↓retQ_ret, ↓retQ_normal, ↓callQ_eq, ↓loopQ_normal, ↓loopQ_ret, ↓loopQ_exit, ↓upd_same, upd_at, sel_t, sel_f, initE_at, obj_upd_same, obj_upd_ne, obj_new_same, obj_updnew_same, obj_updnew_same2, obj_new2_same, obj_new3_same, obj_newupd_same, obj_new_ne, obj_new_ne2, obj_new_ne3, obj_new_ne4, next_upd, next_new, add_plain, cop, bin, binInt, un, shiftInt, flat, read_cells, src_ro, src_fix, src_grow, get_cells, List.getElem?_cons_zero, List.getElem?_cons_succ, write_fix, write_grow, setAt, bound, eqK, elemOk_ro, elemOk_fix, elemOk_grow, stiff_ro, stiff_fix, goInt, resultsV, resV, resL, finQ_some, Option.map_some, Option.map_none, Option.bind_some, Option.bind_none, List.map_cons, List.map_nil, List.getD_cons_zero, List.getD_cons_succ, List.getD_nil, Nat.reduceEqDiff, Nat.reduceAdd, Nat.reduceMul, Nat.reduceSub, Nat.reduceLT, Nat.reduceLeDiff, Nat.reduceBEq, if_true, if_false, ite_true, ite_false, List.length_cons, List.length_nil, Nat.zero_add, Nat.add_zero, List.drop_zero, List.drop_succ_cons, List.take_succ_cons, List.take_zero, List.set_cons_zero, List.set_cons_succ, Int.reduceLT, Int.reduceLE, Bool.not_true, Bool.not_false, Option.isNone_some, Option.isNone_none, decide_true, decide_false, beq_self_eq_true, Bool.false_eq_true, Bool.true_eq_false, if_pos, if_neg, reduceCtorEq, beq_iff_eq, BEq.rfl, wrap_i64, wrap_i32, wrap_i8, wrap_u8, wrap_u32, wrap_u64, Nat.mul_one, Int.toNat_natCast, ints_len, List.length_map, List.length_set, beq_ft, beq_tf, List.all_cons, List.all_nil, scalar, Bool.and_self, Bool.true_and, Bool.and_true, List.size_toArray, List.getElem?_toArray, binStr, fillIn, true_and, and_true, true_or, or_true, bne_self_eq_false, Int.reduceToNat, Int.reduceAdd, Int.reduceSub, Int.reduceMul]
    have := hQ h2 (((o0.trans o1).trans ((Old.refl h1).more _)).trans o2)
    unfold SaidV.line at this
    rw [if_neg (show ¬ (2 : Int) = 1 by decide), if_pos rfl] at this
    exact this
  have q1 : (op == 1) = false := by rw [bn, decide_eq_false c1]
  have q2 : (op == 2) = false := by rw [bn, decide_eq_false c2]
  by_cases c3 : op = 3
  · subst c3
    have e3 : ((3 : Int) == 3) = true := rfl
    simp (disch := omega) only [c10, ↓c10_r0_run, ↓c10_r1_run, ↓c10_r2_run, ↓c10_r3_run, ↓c10_r4_run, ↓c10_r5_run, ↓c10_r6_run, ↓c10_r7_c2_run, ↓c10_r7_c1_run, ↓c10_r7_run, ↓c10_r8_run, ↓c10_r9_c2_run, ↓c10_r9_c1_run, ↓c10_r9_run, ↓c10_r10_run, ↓c10_r11_run, ↓c10_r12_run, ↓c10_r13_run, ↓c10_r14_run, ↓c10_r15_c1_run, ↓c10_r15_run, ↓c10_r16_run, ↓c10_r17_run, ↓c10_r18_run, ← h0d, g0, q1, q2, e3, reps, List.append_nil, List.nil_append, List.cons_append, ↓RunC_seq, ↓RunC_skip, ↓RunC_ret, ↓RunC_exit, ↓RunC_region, ↓RunC_condQ, condQ_true, condQ_false, ↓RunC_block, ↓RunR_done, ↓RunR_op, ↓RunR_opg, ↓RunR_snap, ↓RunR_chk, Holds, Option.getD_none, Option.getD_some, guardR_true, guardR_false, wantV_bool, wantV_none, callvQ_eq, afterR_some, ↓seqQ_normal, ↓seqQ_ret, ↓seqQ_exit, ↓blockQ_normal, ↓blockQ_ret, ↓blockQ_exit, ↓retQ_ret, ↓retQ_normal, ↓callQ_eq, ↓loopQ_normal, ↓loopQ_ret, ↓loopQ_exit, ↓upd_same, upd_at, sel_t, sel_f, initE_at, obj_upd_same, obj_upd_ne, obj_new_same, obj_updnew_same, obj_updnew_same2, obj_new2_same, obj_new3_same, obj_newupd_same, obj_new_ne, obj_new_ne2, obj_new_ne3, obj_new_ne4, next_upd, next_new, add_plain, cop, bin, binInt, un, shiftInt, flat, read_cells, src_ro, src_fix, src_grow, get_cells, List.getElem?_cons_zero, List.getElem?_cons_succ, write_fix, write_grow, setAt, bound, eqK, elemOk_ro, elemOk_fix, elemOk_grow, stiff_ro, stiff_fix, goInt, resultsV, resV, resL, finQ_some, Option.map_some, Option.map_none, Option.bind_some, Option.bind_none, List.map_cons, List.map_nil, List.getD_cons_zero, List.getD_cons_succ, List.getD_nil, Nat.reduceEqDiff, Nat.reduceAdd, Nat.reduceMul, Nat.reduceSub, Nat.reduceLT, Nat.reduceLeDiff, Nat.reduceBEq, if_true, if_false, ite_true, ite_false, List.length_cons, List.length_nil, Nat.zero_add, Nat.add_zero, List.drop_zero, List.drop_succ_cons, List.take_succ_cons, List.take_zero, List.set_cons_zero, List.set_cons_succ, Int.reduceLT, Int.reduceLE, Bool.not_true, Bool.not_false, Option.isNone_some, Option.isNone_none, decide_true, decide_false, beq_self_eq_true, Bool.false_eq_true, Bool.true_eq_false, if_pos, if_neg, reduceCtorEq, beq_iff_eq, BEq.rfl, wrap_i64, wrap_i32, wrap_i8, wrap_u8, wrap_u32, wrap_u64, Nat.mul_one, Int.toNat_natCast, ints_len, List.length_map, List.length_set, beq_ft, beq_tf, List.all_cons, List.all_nil, scalar, Bool.and_self, Bool.true_and, Bool.and_true, List.size_toArray, List.getElem?_toArray, binStr, fillIn, true_and, and_true, true_or, or_true, bne_self_eq_false, Int.reduceToNat, Int.reduceAdd, Int.reduceSub, Int.reduceMul]
    have n64 : ∀ x ∈ [rule, al, de, ba, ce, we], I64 x := fun x hx => nm x (by
      simp only [List.mem_cons, List.not_mem_nil, or_false] at hx ⊢
      rcases hx with rfl | rfl | rfl | rfl | rfl | rfl <;> simp)
    have nlen := nums_len [rule, al, de, ba, ce, we] n64
    refine nums_ok (h0.new (.cells (ints .i64 [rule, al, de, ba, ce, we]) 2 .grow)) h0.next [rule, al, de, ba, ce, we] (obj_new_same _ _) (Nat.lt_succ_self _) (T0.old ((Old.refl h0).more _)) (by simp) n64 fun h2 o2 => ?_
    simp only [List.length_cons, List.length_nil] at nlen
    simp (disch := omega) only [c10, ↓c10_r0_run, ↓c10_r1_run, ↓c10_r2_run, ↓c10_r3_run, ↓c10_r4_run, ↓c10_r5_run, ↓c10_r6_run, ↓c10_r7_c2_run, ↓c10_r7_c1_run, ↓c10_r7_run, ↓c10_r8_run, ↓c10_r9_c2_run, ↓c10_r9_c1_run, ↓c10_r9_run, ↓c10_r10_run, ↓c10_r11_run, ↓c10_r12_run, ↓c10_r13_run, ↓c10_r14_run, ↓c10_r15_c1_run, ↓c10_r15_run, ↓c10_r16_run, ↓c10_r17_run, ↓c10_r18_run, cs3, bs_size, bs_app, List.length_cons, List.length_nil, List.cons_append, ↓RunC_seq, ↓RunC_skip, ↓RunC_ret, ↓RunC_exit, ↓RunC_region, ↓RunC_condQ, condQ_true, condQ_false, ↓RunC_block, ↓RunR_done, ↓RunR_op, ↓RunR_opg, ↓RunR_snap, ↓RunR_chk, Holds, Option.getD_none, Option.getD_some, guardR_true, guardR_false, wantV_bool, wantV_none, callvQ_eq, afterR_some, ↓seqQ_normal, ↓seqQ_ret, ↓seqQ_exit, ↓blockQ_normal, ↓blockQ_ret, ↓blockQ_exit, ↓retQ_ret, ↓retQ_normal, ↓callQ_eq, ↓loopQ_normal, ↓loopQ_ret, ↓loopQ_exit, ↓upd_same, upd_at, sel_t, sel_f, initE_at, obj_upd_same, obj_upd_ne, obj_new_same, obj_updnew_same, obj_updnew_same2, obj_new2_same, obj_new3_same, obj_newupd_same, obj_new_ne, obj_new_ne2, obj_new_ne3, obj_new_ne4, next_upd, next_new, add_plain, cop, bin, binInt, un, shiftInt, flat, read_cells, src_ro, src_fix, src_grow, get_cells, List.getElem?_cons_zero, List.getElem?_cons_succ, write_fix, write_grow, setAt, bound, eqK, elemOk_ro, elemOk_fix, elemOk_grow, stiff_ro, stiff_fix, goInt, resultsV, resV, resL, finQ_some, Option.map_some, Option.map_none, Option.bind_some, Option.bind_none, List.map_cons, List.map_nil, List.getD_cons_zero, List.getD_cons_succ, List.getD_nil, Nat.reduceEqDiff, Nat.reduceAdd, Nat.reduceMul, Nat.reduceSub, Nat.reduceLT, Nat.reduceLeDiff, Nat.reduceBEq, if_true, if_false, ite_true, ite_false, List.length_cons, List.length_nil, Nat.zero_add, Nat.add_zero, List.drop_zero, List.drop_succ_cons, List.take_succ_cons, List.take_zero, List.set_cons_zero, List.set_cons_succ, Int.reduceLT, Int.reduceLE, Bool.not_true, Bool.not_false, Option.isNone_some, Option.isNone_none, decide_true, decide_false, beq_self_eq_true, Bool.false_eq_true, Bool.true_eq_false, if_pos, if_neg, reduceCtorEq, beq_iff_eq, BEq.rfl, wrap_i64, wrap_i32, wrap_i8, wrap_u8, wrap_u32, wrap_u64, Nat.mul_one, Int.toNat_natCast, ints_len, List.length_map, List.length_set, beq_ft, beq_tf, List.all_cons, List.all_nil, scalar, Bool.and_self, Bool.true_and, Bool.and_true, List.size_toArray, List.getElem?_toArray, binStr, fillIn, true_and, and_true, true_or, or_true, bne_self_eq_false, Int.reduceToNat, Int.reduceAdd, Int.reduceSub, Int.reduceMul]
    have := hQ h2 ((o0.trans ((Old.refl h0).more _)).trans o2)
    unfold SaidV.line at this
    rw [if_neg (show ¬ (3 : Int) = 1 by decide), if_neg (show ¬ (3 : Int) = 2 by decide), if_pos rfl] at this
    exact this
  have q3 : (op == 3) = false := by rw [bn, decide_eq_false c3]
  by_cases c4 : op = 4
  rotate_left
  · have q4 : (op == 4) = false := by rw [bn, decide_eq_false c4]
    simp (disch := omega) only [c10, ↓c10_r0_run, ↓c10_r1_run, ↓c10_r2_run, ↓c10_r3_run, ↓c10_r4_run, ↓c10_r5_run, ↓c10_r6_run, ↓c10_r7_c2_run, ↓c10_r7_c1_run, ↓c10_r7_run, ↓c10_r8_run, ↓c10_r9_c2_run, ↓c10_r9_c1_run, ↓c10_r9_run, ↓c10_r10_run, ↓c10_r11_run, ↓c10_r12_run, ↓c10_r13_run, ↓c10_r14_run, ↓c10_r15_c1_run, ↓c10_r15_run, ↓c10_r16_run, ↓c10_r17_run, ↓c10_r18_run, ← h0d, g0, q1, q2, q3, q4, reps, List.append_nil, List.nil_append, List.cons_append, ↓RunC_seq, ↓RunC_skip, ↓RunC_ret, ↓RunC_exit, ↓RunC_region, ↓RunC_condQ, condQ_true, condQ_false, ↓RunC_block, ↓RunR_done, ↓RunR_op, ↓RunR_opg, ↓RunR_snap, ↓RunR_chk, Holds, Option.getD_none, Option.getD_some, guardR_true, guardR_false, wantV_bool, wantV_none, callvQ_eq, afterR_some, ↓seqQ_normal, ↓seqQ_ret, ↓seqQ_exit, ↓blockQ_normal, ↓blockQ_ret, ↓blockQ_exit, ↓retQ_ret, ↓retQ_normal, ↓callQ_eq, ↓loopQ_normal, ↓loopQ_ret, ↓loopQ_exit, ↓upd_same, upd_at, sel_t, sel_f, initE_at, obj_upd_same, obj_upd_ne, obj_new_same, obj_updnew_same, obj_updnew_same2, obj_new2_same, obj_new3_same, obj_newupd_same, obj_new_ne, obj_new_ne2, obj_new_ne3, obj_new_ne4, next_upd, next_new, add_plain, cop, bin, binInt, un, shiftInt, flat, read_cells, src_ro, src_fix, src_grow, get_cells, List.getElem?_cons_zero, List.getElem?_cons_succ, write_fix, write_grow, setAt, bound, eqK, elemOk_ro, elemOk_fix, elemOk_grow, stiff_ro, stiff_fix, goInt, resultsV, resV, resL, finQ_some, Option.map_some, Option.map_none, Option.bind_some, Option.bind_none, List.map_cons, List.map_nil, List.getD_cons_zero, List.getD_cons_succ, List.getD_nil, Nat.reduceEqDiff, Nat.reduceAdd, Nat.reduceMul, Nat.reduceSub, Nat.reduceLT, Nat.reduceLeDiff, Nat.reduceBEq, if_true, if_false, ite_true, ite_false, List.length_cons, List.length_nil, Nat.zero_add, Nat.add_zero, List.drop_zero, List.drop_succ_cons, List.take_succ_cons, List.take_zero, List.set_cons_zero, List.set_cons_succ, Int.reduceLT, Int.reduceLE, Bool.not_true, Bool.not_false, Option.isNone_some, Option.isNone_none, decide_true, decide_false, beq_self_eq_true, Bool.false_eq_true, Bool.true_eq_false, if_pos, if_neg, reduceCtorEq, beq_iff_eq, BEq.rfl, wrap_i64, wrap_i32, wrap_i8, wrap_u8, wrap_u32, wrap_u64, Nat.mul_one, Int.toNat_natCast, ints_len, List.length_map, List.length_set, beq_ft, beq_tf, List.all_cons, List.all_nil, scalar, Bool.and_self, Bool.true_and, Bool.and_true, List.size_toArray, List.getElem?_toArray, binStr, fillIn, true_and, and_true, true_or, or_true, bne_self_eq_false, Int.reduceToNat, Int.reduceAdd, Int.reduceSub, Int.reduceMul]
    have n64 : ∀ x ∈ [er], I64 x := fun x hx => by rw [List.mem_singleton.1 hx]; exact i9
    have nlen := nums_len [er] n64
    refine nums_ok (h0.new (.cells (ints .i64 [er]) 2 .grow)) h0.next [er] (obj_new_same _ _) (Nat.lt_succ_self _) (T0.old ((Old.refl h0).more _)) (by simp) n64 fun h2 o2 => ?_
    simp only [List.length_cons, List.length_nil] at nlen
    simp (disch := omega) only [c10, ↓c10_r0_run, ↓c10_r1_run, ↓c10_r2_run, ↓c10_r3_run, ↓c10_r4_run, ↓c10_r5_run, ↓c10_r6_run, ↓c10_r7_c2_run, ↓c10_r7_c1_run, ↓c10_r7_run, ↓c10_r8_run, ↓c10_r9_c2_run, ↓c10_r9_c1_run, ↓c10_r9_run, ↓c10_r10_run, ↓c10_r11_run, ↓c10_r12_run, ↓c10_r13_run, ↓c10_r14_run, ↓c10_r15_c1_run, ↓c10_r15_run, ↓c10_r16_run, ↓c10_r17_run, ↓c10_r18_run, cs5, bs_size, bs_app, List.length_cons, List.length_nil, List.cons_append, ↓RunC_seq, ↓RunC_skip, ↓RunC_ret, ↓RunC_exit, ↓RunC_region, ↓RunC_condQ, condQ_true, condQ_false, ↓RunC_block, ↓RunR_done, ↓RunR_op, ↓RunR_opg, ↓RunR_snap, ↓RunR_chk, Holds, Option.getD_none, Option.getD_some, guardR_true, guardR_false, wantV_bool, wantV_none, callvQ_eq, afterR_some, ↓seqQ_normal, ↓seqQ_ret, ↓seqQ_exit, ↓blockQ_normal, ↓blockQ_ret, ↓blockQ_exit, ↓retQ_ret, ↓retQ_normal, ↓callQ_eq, ↓loopQ_normal, ↓loopQ_ret, ↓loopQ_exit, ↓upd_same, upd_at, sel_t, sel_f, initE_at, obj_upd_same, obj_upd_ne, obj_new_same, obj_updnew_same, obj_updnew_same2, obj_new2_same, obj_new3_same, obj_newupd_same, obj_new_ne, obj_new_ne2, obj_new_ne3, obj_new_ne4, next_upd, next_new, add_plain, cop, bin, binInt, un, shiftInt, flat, read_cells, src_ro, src_fix, src_grow, get_cells, List.getElem?_cons_zero, List.getElem?_cons_succ, write_fix, write_grow, setAt, bound, eqK, elemOk_ro, elemOk_fix, elemOk_grow, stiff_ro, stiff_fix, goInt, resultsV, resV, resL, finQ_some, Option.map_some, Option.map_none, Option.bind_some, Option.bind_none, List.map_cons, List.map_nil, List.getD_cons_zero, List.getD_cons_succ, List.getD_nil, Nat.reduceEqDiff, Nat.reduceAdd, Nat.reduceMul, Nat.reduceSub, Nat.reduceLT, Nat.reduceLeDiff, Nat.reduceBEq, if_true, if_false, ite_true, ite_false, List.length_cons, List.length_nil, Nat.zero_add, Nat.add_zero, List.drop_zero, List.drop_succ_cons, List.take_succ_cons, List.take_zero, List.set_cons_zero, List.set_cons_succ, Int.reduceLT, Int.reduceLE, Bool.not_true, Bool.not_false, Option.isNone_some, Option.isNone_none, decide_true, decide_false, beq_self_eq_true, Bool.false_eq_true, Bool.true_eq_false, if_pos, if_neg, reduceCtorEq, beq_iff_eq, BEq.rfl, wrap_i64, wrap_i32, wrap_i8, wrap_u8, wrap_u32, wrap_u64, Nat.mul_one, Int.toNat_natCast, ints_len, List.length_map, List.length_set, beq_ft, beq_tf, List.all_cons, List.all_nil, scalar, Bool.and_self, Bool.true_and, Bool.and_true, List.size_toArray, List.getElem?_toArray, binStr, fillIn, true_and, and_true, true_or, or_true, bne_self_eq_false, Int.reduceToNat, Int.reduceAdd, Int.reduceSub, Int.reduceMul]
    have := hQ h2 ((o0.trans ((Old.refl h0).more _)).trans o2)
    unfold SaidV.line at this
    rw [if_neg c1, if_neg c2, if_neg c3, if_neg c4] at this
    exact this
  subst c4
  have e4 : ((4 : Int) == 4) = true := rfl
  simp (disch := omega) only [c10, ↓c10_r0_run, ↓c10_r1_run, ↓c10_r2_run, ↓c10_r3_run, ↓c10_r4_run, ↓c10_r5_run, ↓c10_r6_run, ↓c10_r7_c2_run, ↓c10_r7_c1_run, ↓c10_r7_run, ↓c10_r8_run, ↓c10_r9_c2_run, ↓c10_r9_c1_run, ↓c10_r9_run, ↓c10_r10_run, ↓c10_r11_run, ↓c10_r12_run, ↓c10_r13_run, ↓c10_r14_run, ↓c10_r15_c1_run, ↓c10_r15_run, ↓c10_r16_run, ↓c10_r17_run, ↓c10_r18_run, ← h0d, g0, q1, q2, q3, e4, reps, List.append_nil, List.nil_append, List.cons_append, ↓RunC_seq, ↓RunC_skip, ↓RunC_ret, ↓RunC_exit, ↓RunC_region, ↓RunC_condQ, condQ_true, condQ_false, ↓RunC_block, ↓RunR_done, ↓RunR_op, ↓RunR_opg, ↓RunR_snap, ↓RunR_chk, Holds, Option.getD_none, Option.getD_some, guardR_true, guardR_false, wantV_bool, wantV_none, callvQ_eq, afterR_some, ↓seqQ_normal, ↓seqQ_ret, ↓seqQ_exit, ↓blockQ_normal, ↓blockQ_ret, ↓blockQ_exit, ↓retQ_ret, ↓retQ_normal, ↓callQ_eq, ↓loopQ_normal, ↓loopQ_ret, ↓loopQ_exit, ↓upd_same, upd_at, sel_t, sel_f, initE_at, obj_upd_same, obj_upd_ne, obj_new_same, obj_updnew_same, obj_updnew_same2, obj_new2_same, obj_new3_same, obj_newupd_same, obj_new_ne, obj_new_ne2, obj_new_ne3, obj_new_ne4, next_upd, next_new, add_plain, cop, bin, binInt, un, shiftInt, flat, read_cells, src_ro, src_fix, src_grow, get_cells, List.getElem?_cons_zero, List.getElem?_cons_succ, write_fix, write_grow, setAt, bound, eqK, elemOk_ro, elemOk_fix, elemOk_grow, stiff_ro, stiff_fix, goInt, resultsV, resV, resL, finQ_some, Option.map_some, Option.map_none, Option.bind_some, Option.bind_none, List.map_cons, List.map_nil, List.getD_cons_zero, List.getD_cons_succ, List.getD_nil, Nat.reduceEqDiff, Nat.reduceAdd, Nat.reduceMul, Nat.reduceSub, Nat.reduceLT, Nat.reduceLeDiff, Nat.reduceBEq, if_true, if_false, ite_true, ite_false, List.length_cons, List.length_nil, Nat.zero_add, Nat.add_zero, List.drop_zero, List.drop_succ_cons, List.take_succ_cons, List.take_zero, List.set_cons_zero, List.set_cons_succ, Int.reduceLT, Int.reduceLE, Bool.not_true, Bool.not_false, Option.isNone_some, Option.isNone_none, decide_true, decide_false, beq_self_eq_true, Bool.false_eq_true, Bool.true_eq_false, if_pos, if_neg, reduceCtorEq, beq_iff_eq, BEq.rfl, wrap_i64, wrap_i32, wrap_i8, wrap_u8, wrap_u32, wrap_u64, Nat.mul_one, Int.toNat_natCast, ints_len, List.length_map, List.length_set, beq_ft, beq_tf, List.all_cons, List.all_nil, scalar, Bool.and_self, Bool.true_and, Bool.and_true, List.size_toArray, List.getElem?_toArray, binStr, fillIn, true_and, and_true, true_or, or_true, bne_self_eq_false, Int.reduceToNat, Int.reduceAdd, Int.reduceSub, Int.reduceMul]
  have n64 : ∀ x ∈ [rule], I64 x := fun x hx => by rw [List.mem_singleton.1 hx]; exact i1
  have nlen := nums_len [rule] n64
  refine nums_ok (h0.new (.cells (ints .i64 [rule]) 2 .grow)) h0.next [rule] (obj_new_same _ _) (Nat.lt_succ_self _) (T0.old ((Old.refl h0).more _)) (by simp) n64 fun h1 o1 => ?_
  simp only [List.length_cons, List.length_nil] at nlen
  have o1 := ((Old.refl h0).more _).trans o1
  have g1 := (o1.obj h.next (by omega)).trans g0
  simp (disch := omega) only [c10, ↓c10_r0_run, ↓c10_r1_run, ↓c10_r2_run, ↓c10_r3_run, ↓c10_r4_run, ↓c10_r5_run, ↓c10_r6_run, ↓c10_r7_c2_run, ↓c10_r7_c1_run, ↓c10_r7_run, ↓c10_r8_run, ↓c10_r9_c2_run, ↓c10_r9_c1_run, ↓c10_r9_run, ↓c10_r10_run, ↓c10_r11_run, ↓c10_r12_run, ↓c10_r13_run, ↓c10_r14_run, ↓c10_r15_c1_run, ↓c10_r15_run, ↓c10_r16_run, ↓c10_r17_run, ↓c10_r18_run, cs4, g1, bs_size, bs_app, List.length_cons, List.length_nil, List.cons_append, ↓RunC_seq, ↓RunC_skip, ↓RunC_ret, ↓RunC_exit, ↓RunC_region, ↓RunC_condQ, condQ_true, condQ_false, ↓RunC_block, ↓RunR_done, ↓RunR_op, ↓RunR_opg, ↓RunR_snap, ↓RunR_chk, Holds, Option.getD_none, Option.getD_some, guardR_true, guardR_false, wantV_bool, wantV_none, callvQ_eq, afterR_some, ↓seqQ_normal, ↓seqQ_ret, ↓seqQ_exit, ↓blockQ_normal, ↓blockQ_ret, ↓blockQ_exit, ↓retQ_ret, ↓retQ_normal, ↓callQ_eq, ↓loopQ_normal, ↓loopQ_ret, ↓loopQ_exit, ↓upd_same, upd_at, sel_t, sel_f, initE_at, obj_upd_same, obj_upd_ne, obj_new_same, obj_updnew_same, obj_updnew_same2, obj_new2_same, obj_new3_same, obj_newupd_same, obj_new_ne, obj_new_ne2, obj_new_ne3, obj_new_ne4, next_upd, next_new, add_plain, cop, bin, binInt, un, shiftInt, flat, read_cells, src_ro, src_fix, src_grow, get_cells, List.getElem?_cons_zero, List.getElem?_cons_succ, write_fix, write_grow, setAt, bound, eqK, elemOk_ro, elemOk_fix, elemOk_grow, stiff_ro, stiff_fix, goInt, resultsV, resV, resL, finQ_some, Option.map_some, Option.map_none, Option.bind_some, Option.bind_none, List.map_cons, List.map_nil, List.getD_cons_zero, List.getD_cons_succ, List.getD_nil, Nat.reduceEqDiff, Nat.reduceAdd, Nat.reduceMul, Nat.reduceSub, Nat.reduceLT, Nat.reduceLeDiff, Nat.reduceBEq, if_true, if_false, ite_true, ite_false, List.length_cons, List.length_nil, Nat.zero_add, Nat.add_zero, List.drop_zero, List.drop_succ_cons, List.take_succ_cons, List.take_zero, List.set_cons_zero, List.set_cons_succ, Int.reduceLT, Int.reduceLE, Bool.not_true, Bool.not_false, Option.isNone_some, Option.isNone_none, decide_true, decide_false, beq_self_eq_true, Bool.false_eq_true, Bool.true_eq_false, if_pos, if_neg, reduceCtorEq, beq_iff_eq, BEq.rfl, wrap_i64, wrap_i32, wrap_i8, wrap_u8, wrap_u32, wrap_u64, Nat.mul_one, Int.toNat_natCast, ints_len, List.length_map, List.length_set, beq_ft, beq_tf, List.all_cons, List.all_nil, scalar, Bool.and_self, Bool.true_and, Bool.and_true, List.size_toArray, List.getElem?_toArray, binStr, fillIn, true_and, and_true, true_or, or_true, bne_self_eq_false, Int.reduceToNat, Int.reduceAdd, Int.reduceSub, Int.reduceMul]
  have old1 := o0.trans o1
  have n1 : h0.next ≤ h1.next := o1.next
  obtain ⟨H, hH⟩ : ∃ H, H = [116, 111, 112] ++ nums [rule] := ⟨_, rfl⟩
  have hH' : 116 :: 111 :: 112 :: ([] ++ nums [rule]) = H := hH.symm
  have hHl : H.length ≤ 30 := by rw [hH, List.length_append]; simp only [List.length_cons, List.length_nil]; omega
  try rw [hH']
  refine RunC_loop cp c10_l0 _ (fun d e hh => ∃ j : Nat, j + d = l.length ∧ Old h hh ∧ HasPows hh ∧ e 4 = .string (bs (H ++ (l.take j).flatMap ent)) ∧ e 61 = .slice a l.length cap ∧ e 62 = .int .i64 l.length ∧ e 63 = .int .i64 j) ?_ l.length _ _
    ⟨0, by omega, old1, T0.old o1, by rw [hH, List.take_zero, List.flatMap_nil, List.append_nil]; rfl, rfl, rfl, rfl⟩
  rintro d e hh ⟨j, hj, old, T, e4', e61, e62, e63⟩
  by_cases cj : j < l.length
  · have b1 : decide ((j : Int) < (l.length : Int)) = true := decide_eq_true (by omega)
    have nx : (j : Int) + 1 = ((j + 1 : Nat) : Int) := by omega
    have hx : l[j]? = some l[j] := List.getElem?_eq_getElem cj
    obtain ⟨x, hxx⟩ : ∃ x, x = l[j] := ⟨_, rfl⟩
    rw [← hxx] at hx
    obtain ⟨b, off, rfl, hb, hr⟩ := hrd j x hx
    rw [← old.obj b hb] at hr
    have cx := cnt x (List.mem_of_getElem? hx)
    have xl := ent_len cx
    have tk : (l.take (j + 1)).flatMap ent = (l.take j).flatMap ent ++ ent x := by
      rw [take_get hx, List.flatMap_append]
      simp
    have tl := ents_len (l.take j) fun y hy => cnt y (List.mem_of_mem_take hy)
    rw [List.length_take] at tl
    obtain ⟨k, n, er'⟩ := x
    have hr : (hh.obj b).read (off + j * 3) 3 = some [.string k, .int .i64 n, .int .i64 er'] := hr
    simp only at cx
    have kl := (hexL_len (byL k)).1
    rw [byL_len] at kl
    simp (disch := omega) only [c10_l0, c10, ↓c10_r0_run, ↓c10_r1_run, ↓c10_r2_run, ↓c10_r3_run, ↓c10_r4_run, ↓c10_r5_run, ↓c10_r6_run, ↓c10_r7_c2_run, ↓c10_r7_c1_run, ↓c10_r7_run, ↓c10_r8_run, ↓c10_r9_c2_run, ↓c10_r9_c1_run, ↓c10_r9_run, ↓c10_r10_run, ↓c10_r11_run, ↓c10_r12_run, ↓c10_r13_run, ↓c10_r14_run, ↓c10_r15_c1_run, ↓c10_r15_run, ↓c10_r16_run, ↓c10_r17_run, ↓c10_r18_run, e4', e61, e62, e63, b1, hr, ↓RunC_seq, ↓RunC_skip, ↓RunC_ret, ↓RunC_exit, ↓RunC_region, ↓RunC_condQ, condQ_true, condQ_false, ↓RunC_block, ↓RunR_done, ↓RunR_op, ↓RunR_opg, ↓RunR_snap, ↓RunR_chk, Holds, Option.getD_none, Option.getD_some, guardR_true, guardR_false, wantV_bool, wantV_none, callvQ_eq, afterR_some, ↓seqQ_normal, ↓seqQ_ret, ↓seqQ_exit, ↓blockQ_normal, ↓blockQ_ret, ↓blockQ_exit, ↓retQ_ret, ↓retQ_normal, ↓callQ_eq, ↓loopQ_normal, ↓loopQ_ret, ↓loopQ_exit, ↓upd_same, upd_at, sel_t, sel_f, initE_at, obj_upd_same, obj_upd_ne, obj_new_same, obj_updnew_same, obj_updnew_same2, obj_new2_same, obj_new3_same, obj_newupd_same, obj_new_ne, obj_new_ne2, obj_new_ne3, obj_new_ne4, next_upd, next_new, add_plain, cop, bin, binInt, un, shiftInt, flat, read_cells, src_ro, src_fix, src_grow, get_cells, List.getElem?_cons_zero, List.getElem?_cons_succ, write_fix, write_grow, setAt, bound, eqK, elemOk_ro, elemOk_fix, elemOk_grow, stiff_ro, stiff_fix, goInt, resultsV, resV, resL, finQ_some, Option.map_some, Option.map_none, Option.bind_some, Option.bind_none, List.map_cons, List.map_nil, List.getD_cons_zero, List.getD_cons_succ, List.getD_nil, Nat.reduceEqDiff, Nat.reduceAdd, Nat.reduceMul, Nat.reduceSub, Nat.reduceLT, Nat.reduceLeDiff, Nat.reduceBEq, if_true, if_false, ite_true, ite_false, List.length_cons, List.length_nil, Nat.zero_add, Nat.add_zero, List.drop_zero, List.drop_succ_cons, List.take_succ_cons, List.take_zero, List.set_cons_zero, List.set_cons_succ, Int.reduceLT, Int.reduceLE, Bool.not_true, Bool.not_false, Option.isNone_some, Option.isNone_none, decide_true, decide_false, beq_self_eq_true, Bool.false_eq_true, Bool.true_eq_false, if_pos, if_neg, reduceCtorEq, beq_iff_eq, BEq.rfl, wrap_i64, wrap_i32, wrap_i8, wrap_u8, wrap_u32, wrap_u64, Nat.mul_one, Int.toNat_natCast, ints_len, List.length_map, List.length_set, beq_ft, beq_tf, List.all_cons, List.all_nil, scalar, Bool.and_self, Bool.true_and, Bool.and_true, List.size_toArray, List.getElem?_toArray, binStr, fillIn, true_and, and_true, true_or, or_true, bne_self_eq_false, Int.reduceToNat, Int.reduceAdd, Int.reduceSub, Int.reduceMul]
    obtain ⟨h2, h2d⟩ : ∃ h2, h2 = (hh.new (Obj.cells [Value.string ⟨#[]⟩, Value.int IntKind.i64 0, Value.int IntKind.i64 0] 29 How.fix)).upd hh.next (Obj.cells [Value.string k, Value.int IntKind.i64 n, Value.int IntKind.i64 er'] 29 How.fix) := ⟨_, rfl⟩
    have o2 : Old hh h2 := by rw [h2d]; exact (Old.refl hh).put _ _
    have n2 : h2.next = hh.next + 1 := by rw [h2d]; rfl
    have g2 : h2.obj hh.next = .cells [.string k, .int .i64 n, .int .i64 er'] 29 .fix := by rw [h2d]; exact obj_upd_same _ _ _
    rw [← h2d]
    have hk : Value.string k = Value.string (bs (byL k)) := by rw [bs_byL]
    rw [hk]
    refine key_ok h2 (byL k) (byL_byts k) (by rw [byL_len]; omega) fun h3 o3 => ?_
    have g3 := (o3.obj hh.next (by omega)).trans g2
    simp (disch := omega) only [c10, ↓c10_r0_run, ↓c10_r1_run, ↓c10_r2_run, ↓c10_r3_run, ↓c10_r4_run, ↓c10_r5_run, ↓c10_r6_run, ↓c10_r7_c2_run, ↓c10_r7_c1_run, ↓c10_r7_run, ↓c10_r8_run, ↓c10_r9_c2_run, ↓c10_r9_c1_run, ↓c10_r9_run, ↓c10_r10_run, ↓c10_r11_run, ↓c10_r12_run, ↓c10_r13_run, ↓c10_r14_run, ↓c10_r15_c1_run, ↓c10_r15_run, ↓c10_r16_run, ↓c10_r17_run, ↓c10_r18_run, e4', e61, e62, e63, cs6, g2, g3, bs_size, bs_app, List.length_cons, List.length_nil, reps, List.append_nil, List.nil_append, List.cons_append, ↓RunC_seq, ↓RunC_skip, ↓RunC_ret, ↓RunC_exit, ↓RunC_region, ↓RunC_condQ, condQ_true, condQ_false, ↓RunC_block, ↓RunR_done, ↓RunR_op, ↓RunR_opg, ↓RunR_snap, ↓RunR_chk, Holds, Option.getD_none, Option.getD_some, guardR_true, guardR_false, wantV_bool, wantV_none, callvQ_eq, afterR_some, ↓seqQ_normal, ↓seqQ_ret, ↓seqQ_exit, ↓blockQ_normal, ↓blockQ_ret, ↓blockQ_exit, ↓retQ_ret, ↓retQ_normal, ↓callQ_eq, ↓loopQ_normal, ↓loopQ_ret, ↓loopQ_exit, ↓upd_same, upd_at, sel_t, sel_f, initE_at, obj_upd_same, obj_upd_ne, obj_new_same, obj_updnew_same, obj_updnew_same2, obj_new2_same, obj_new3_same, obj_newupd_same, obj_new_ne, obj_new_ne2, obj_new_ne3, obj_new_ne4, next_upd, next_new, add_plain, cop, bin, binInt, un, shiftInt, flat, read_cells, src_ro, src_fix, src_grow, get_cells, List.getElem?_cons_zero, List.getElem?_cons_succ, write_fix, write_grow, setAt, bound, eqK, elemOk_ro, elemOk_fix, elemOk_grow, stiff_ro, stiff_fix, goInt, resultsV, resV, resL, finQ_some, Option.map_some, Option.map_none, Option.bind_some, Option.bind_none, List.map_cons, List.map_nil, List.getD_cons_zero, List.getD_cons_succ, List.getD_nil, Nat.reduceEqDiff, Nat.reduceAdd, Nat.reduceMul, Nat.reduceSub, Nat.reduceLT, Nat.reduceLeDiff, Nat.reduceBEq, if_true, if_false, ite_true, ite_false, List.length_cons, List.length_nil, Nat.zero_add, Nat.add_zero, List.drop_zero, List.drop_succ_cons, List.take_succ_cons, List.take_zero, List.set_cons_zero, List.set_cons_succ, Int.reduceLT, Int.reduceLE, Bool.not_true, Bool.not_false, Option.isNone_some, Option.isNone_none, decide_true, decide_false, beq_self_eq_true, Bool.false_eq_true, Bool.true_eq_false, if_pos, if_neg, reduceCtorEq, beq_iff_eq, BEq.rfl, wrap_i64, wrap_i32, wrap_i8, wrap_u8, wrap_u32, wrap_u64, Nat.mul_one, Int.toNat_natCast, ints_len, List.length_map, List.length_set, beq_ft, beq_tf, List.all_cons, List.all_nil, scalar, Bool.and_self, Bool.true_and, Bool.and_true, List.size_toArray, List.getElem?_toArray, binStr, fillIn, true_and, and_true, true_or, or_true, bne_self_eq_false, Int.reduceToNat, Int.reduceAdd, Int.reduceSub, Int.reduceMul]
    have n64' : ∀ x ∈ [n, er'], I64 x := fun x hx => by
      simp only [List.mem_cons, List.not_mem_nil, or_false] at hx
      rcases hx with rfl | rfl
      · exact cx.2.1
      · exact cx.2.2
    have nlen' := nums_len [n, er'] n64'
    simp only [List.length_cons, List.length_nil] at nlen'
    refine nums_ok (h3.new (.cells (ints .i64 [n, er']) 2 .grow)) h3.next [n, er'] (obj_new_same _ _) (Nat.lt_succ_self _) ((T.old (o2.trans o3)).old ((Old.refl h3).more _)) (by simp) n64' fun h4 o4 => ?_
    simp (disch := omega) only [c10, ↓c10_r0_run, ↓c10_r1_run, ↓c10_r2_run, ↓c10_r3_run, ↓c10_r4_run, ↓c10_r5_run, ↓c10_r6_run, ↓c10_r7_c2_run, ↓c10_r7_c1_run, ↓c10_r7_run, ↓c10_r8_run, ↓c10_r9_c2_run, ↓c10_r9_c1_run, ↓c10_r9_run, ↓c10_r10_run, ↓c10_r11_run, ↓c10_r12_run, ↓c10_r13_run, ↓c10_r14_run, ↓c10_r15_c1_run, ↓c10_r15_run, ↓c10_r16_run, ↓c10_r17_run, ↓c10_r18_run, e4', e61, e62, e63, nx, bs_size, bs_app, List.length_cons, List.length_append, List.length_nil, List.cons_append, ↓RunC_seq, ↓RunC_skip, ↓RunC_ret, ↓RunC_exit, ↓RunC_region, ↓RunC_condQ, condQ_true, condQ_false, ↓RunC_block, ↓RunR_done, ↓RunR_op, ↓RunR_opg, ↓RunR_snap, ↓RunR_chk, Holds, Option.getD_none, Option.getD_some, guardR_true, guardR_false, wantV_bool, wantV_none, callvQ_eq, afterR_some, ↓seqQ_normal, ↓seqQ_ret, ↓seqQ_exit, ↓blockQ_normal, ↓blockQ_ret, ↓blockQ_exit, ↓retQ_ret, ↓retQ_normal, ↓callQ_eq, ↓loopQ_normal, ↓loopQ_ret, ↓loopQ_exit, ↓upd_same, upd_at, sel_t, sel_f, initE_at, obj_upd_same, obj_upd_ne, obj_new_same, obj_updnew_same, obj_updnew_same2, obj_new2_same, obj_new3_same, obj_newupd_same, obj_new_ne, obj_new_ne2, obj_new_ne3, obj_new_ne4, next_upd, next_new, add_plain, cop, bin, binInt, un, shiftInt, flat, read_cells, src_ro, src_fix, src_grow, get_cells, List.getElem?_cons_zero, List.getElem?_cons_succ, write_fix, write_grow, setAt, bound, eqK, elemOk_ro, elemOk_fix, elemOk_grow, stiff_ro, stiff_fix, goInt, resultsV, resV, resL, finQ_some, Option.map_some, Option.map_none, Option.bind_some, Option.bind_none, List.map_cons, List.map_nil, List.getD_cons_zero, List.getD_cons_succ, List.getD_nil, Nat.reduceEqDiff, Nat.reduceAdd, Nat.reduceMul, Nat.reduceSub, Nat.reduceLT, Nat.reduceLeDiff, Nat.reduceBEq, if_true, if_false, ite_true, ite_false, List.length_cons, List.length_nil, Nat.zero_add, Nat.add_zero, List.drop_zero, List.drop_succ_cons, List.take_succ_cons, List.take_zero, List.set_cons_zero, List.set_cons_succ, Int.reduceLT, Int.reduceLE, Bool.not_true, Bool.not_false, Option.isNone_some, Option.isNone_none, decide_true, decide_false, beq_self_eq_true, Bool.false_eq_true, Bool.true_eq_false, if_pos, if_neg, reduceCtorEq, beq_iff_eq, BEq.rfl, wrap_i64, wrap_i32, wrap_i8, wrap_u8, wrap_u32, wrap_u64, Nat.mul_one, Int.toNat_natCast, ints_len, List.length_map, List.length_set, beq_ft, beq_tf, List.all_cons, List.all_nil, scalar, Bool.and_self, Bool.true_and, Bool.and_true, List.size_toArray, List.getElem?_toArray, binStr, fillIn, true_and, and_true, true_or, or_true, bne_self_eq_false, Int.reduceToNat, Int.reduceAdd, Int.reduceSub, Int.reduceMul]
    have o24 := ((o2.trans o3).trans ((Old.refl h3).more _)).trans o4
    exact ⟨d - 1, by omega, j + 1, by omega, old.trans o24, T.old o24, by rw [tk, ← List.append_assoc]; rfl, rfl⟩
  · have b1 : decide ((j : Int) < (l.length : Int)) = false := decide_eq_false (by omega)
    obtain rfl : j = l.length := by omega
    rw [List.take_length] at e4'
    simp (disch := omega) only [c10_l0, c10, ↓c10_r0_run, ↓c10_r1_run, ↓c10_r2_run, ↓c10_r3_run, ↓c10_r4_run, ↓c10_r5_run, ↓c10_r6_run, ↓c10_r7_c2_run, ↓c10_r7_c1_run, ↓c10_r7_run, ↓c10_r8_run, ↓c10_r9_c2_run, ↓c10_r9_c1_run, ↓c10_r9_run, ↓c10_r10_run, ↓c10_r11_run, ↓c10_r12_run, ↓c10_r13_run, ↓c10_r14_run, ↓c10_r15_c1_run, ↓c10_r15_run, ↓c10_r16_run, ↓c10_r17_run, ↓c10_r18_run, e4', e61, e62, e63, b1, ↓RunC_seq, ↓RunC_skip, ↓RunC_ret, ↓RunC_exit, ↓RunC_region, ↓RunC_condQ, condQ_true, condQ_false, ↓RunC_block, ↓RunR_done, ↓RunR_op, ↓RunR_opg, ↓RunR_snap, ↓RunR_chk, Holds, Option.getD_none, Option.getD_some, guardR_true, guardR_false, wantV_bool, wantV_none, callvQ_eq, afterR_some, ↓seqQ_normal, ↓seqQ_ret, ↓seqQ_exit, ↓blockQ_normal, ↓blockQ_ret, ↓blockQ_exit, ↓retQ_ret, ↓retQ_normal, ↓callQ_eq, ↓loopQ_normal, ↓loopQ_ret, ↓loopQ_exit, ↓upd_same, upd_at, sel_t, sel_f, initE_at, obj_upd_same, obj_upd_ne, obj_new_same, obj_updnew_same, obj_updnew_same2, obj_new2_same, obj_new3_same, obj_newupd_same, obj_new_ne, obj_new_ne2, obj_new_ne3, obj_new_ne4, next_upd, next_new, add_plain, cop, bin, binInt, un, shiftInt, flat, read_cells, src_ro, src_fix, src_grow, get_cells, List.getElem?_cons_zero, List.getElem?_cons_succ, write_fix, write_grow, setAt, bound, eqK, elemOk_ro, elemOk_fix, elemOk_grow, stiff_ro, stiff_fix, goInt, resultsV, resV, resL, finQ_some, Option.map_some, Option.map_none, Option.bind_some, Option.bind_none, List.map_cons, List.map_nil, List.getD_cons_zero, List.getD_cons_succ, List.getD_nil, Nat.reduceEqDiff, Nat.reduceAdd, Nat.reduceMul, Nat.reduceSub, Nat.reduceLT, Nat.reduceLeDiff, Nat.reduceBEq, if_true, if_false, ite_true, ite_false, List.length_cons, List.length_nil, Nat.zero_add, Nat.add_zero, List.drop_zero, List.drop_succ_cons, List.take_succ_cons, List.take_zero, List.set_cons_zero, List.set_cons_succ, Int.reduceLT, Int.reduceLE, Bool.not_true, Bool.not_false, Option.isNone_some, Option.isNone_none, decide_true, decide_false, beq_self_eq_true, Bool.false_eq_true, Bool.true_eq_false, if_pos, if_neg, reduceCtorEq, beq_iff_eq, BEq.rfl, wrap_i64, wrap_i32, wrap_i8, wrap_u8, wrap_u32, wrap_u64, Nat.mul_one, Int.toNat_natCast, ints_len, List.length_map, List.length_set, beq_ft, beq_tf, List.all_cons, List.all_nil, scalar, Bool.and_self, Bool.true_and, Bool.and_true, List.size_toArray, List.getElem?_toArray, binStr, fillIn, true_and, and_true, true_or, or_true, bne_self_eq_false, Int.reduceToNat, Int.reduceAdd, Int.reduceSub, Int.reduceMul]
    have := hQ hh old
    unfold SaidV.line at this
    rw [if_neg (show ¬ (4 : Int) = 1 by decide), if_neg (show ¬ (4 : Int) = 2 by decide), if_neg (show ¬ (4 : Int) = 3 by decide), if_pos rfl] at this
    rw [hH]
    exact this
end Go.Proofs.YtcmanhhpfbinoaaDoor.Can
