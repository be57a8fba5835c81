/- The keys' store in the canonical machine: what each of its functions does. No condition. -/
import Derived.Test.YticompilonkfgaaCKeys
namespace Go.Proofs.Yticompilonkfgaa.Can
open Go
set_option linter.unusedSimpArgs false
set_option linter.unusedVariables false
attribute [local congr] RunR_congr RunC_congr afterR_congr guardR_congr condQ_congr CALL_congr op_congr opg_congr

def ints (k : IntKind) (l : List Int) : List Value := l.map (.int k)
theorem ints_len (k : IntKind) (l : List Int) : (ints k l).length = l.length := by simp [ints]
theorem ints_get (k : IntKind) (l : List Int) {i : Nat} {x : Int} (h : l[i]? = some x) : (ints k l)[i]? = some (.int k x) := by simp [ints, h]
theorem ints_set (k : IntKind) (l : List Int) (i : Nat) (x : Int) : (ints k l).set i (.int k x) = ints k (l.set i x) := by simp [ints, List.map_set]

/-- A store as it lies: places, and what they hold. -/
structure KS where
  p : Nat
  bb : Nat
  bs : Nat
  bn : Nat
  n : Nat
  by_ : List UInt8
  sz : List Int
  nx : List Int
  fr : Int
  us : Int

structure KS.At (s : KS) (h : Heap) : Prop where
  hp : h.obj s.p = .cells [.slice (some ⟨s.bb, 0, none⟩) (s.n * 64) (s.n * 64), .slice (some ⟨s.bs, 0, none⟩) s.n s.n, .slice (some ⟨s.bn, 0, none⟩) s.n s.n, .int .i32 s.fr, .int .i64 s.us] 45 .fix
  hb : h.obj s.bb = .cells (byteVals s.by_) 5 .grow
  hs : h.obj s.bs = .cells (ints .i8 s.sz) 46 .grow
  hn : h.obj s.bn = .cells (ints .i32 s.nx) 21 .grow
  lb : s.by_.length = s.n * 64
  ls : s.sz.length = s.n
  ln : s.nx.length = s.n
  d1 : s.p ≠ s.bb
  d2 : s.p ≠ s.bs
  d3 : s.p ≠ s.bn
  d4 : s.bb ≠ s.bs
  d5 : s.bb ≠ s.bn
  d6 : s.bs ≠ s.bn
  nn : s.n ≤ 65536

theorem byteVals_len (l : List UInt8) : (byteVals l).length = l.length := by simp [byteVals]
theorem bytes_len (k : ByteArray) : k.data.toList.length = k.size := by simp
/-- Bytes put in from a place on. -/
def setB : List UInt8 → Nat → List UInt8 → List UInt8
  | c, _, [] => c
  | c, o, v :: vs => setB (c.set o v) (o + 1) vs
theorem setB_len : ∀ (c : List UInt8) (o : Nat) (l : List UInt8), (setB c o l).length = c.length
  | _, _, [] => rfl
  | c, o, v :: vs => by simp only [setB]; rw [setB_len]; simp
theorem setAt_bytes : ∀ (c : List UInt8) (o : Nat) (l : List UInt8), setAt (byteVals c) o (byteVals l) = byteVals (setB c o l)
  | _, _, [] => rfl
  | c, o, v :: vs => by
    have : byteVals (v :: vs) = .int .u8 v.toNat :: byteVals vs := rfl
    rw [this]
    simp only [setAt, setB]
    rw [← setAt_bytes (c.set o v) (o + 1) vs]
    simp [byteVals, List.map_set]

/-- Nothing but these has changed, and nothing is new. -/
structure Kept (h h' : Heap) (A : List Nat) : Prop where
  next : h'.next = h.next
  obj : ∀ b, b ∉ A → h'.obj b = h.obj b

def KS.own (s : KS) : List Nat := [s.p, s.bb, s.bs, s.bn]
def KS.put (s : KS) (i : Nat) (v : Int) (key : ByteArray) : KS :=
  { s with by_ := setB s.by_ (i * 64) key.data.toList, sz := s.sz.set i key.size, fr := v, us := s.us + 1 }

theorem put_ok {h : Heap} {s : KS} (hs : s.At h) (key : ByteArray) (i : Nat) (v : Int) {Q : Value → Heap → Prop}
    (hf : s.fr = i) (hfn : i < s.n) (hk : key.size ≤ 64) (hv : s.nx[i]? = some v) (hu : 0 ≤ s.us) (hun : s.us < s.n)
    (hQ : ∀ h', (s.put i v key).At h' → Kept h h' s.own → Q (.int .i64 i) h') :
    CALL cp 9 [.pointer (some ⟨s.p, 0, none⟩), .string key] h Q := by
  rw [CALL_enter cp cp9]
  obtain ⟨p, bb, bs, bn, n, by_, sz, nx, fr, us⟩ := s
  obtain ⟨hp, hb, hs, hn, lb, ls, ln, d1, d2, d3, d4, d5, d6, nn⟩ := hs
  simp only at *
  subst hf
  have a1 : decide ((i : Int) < 0) = false := by simp
  have a2 : decide ((key.size : Int) > 64) = false := by simp; omega
  have g1 := ints_get .i32 nx hv
  have w1 : IntKind.i64.wrap (i * 64) = ((i * 64 : Nat) : Int) := by rw [wrap_i64] <;> omega
  have w2 : min key.size (n * 64 - i * 64) = key.size := by omega
  have lb' : (byteVals by_).length = n * 64 := by simp [byteVals, lb]
  have e1 : key.extract 0 key.size = key := by simp
  simp (disch := omega) only [c9, ↓c9_r0_run, ↓c9_r1_c1_run, ↓c9_r1_run, ↓c9_r2_run, ↓c9_r3_run, ↓c9_r4_c1_run, ↓c9_r4_run, ↓c9_r5_run, ↓c9_r6_run, ↓c9_r7_run, ↓c9_r8_run, hp, hb, hs, hn, a1, a2, g1, w1, w2, srcCells, e1, lb', byteVals_len, bytes_len, setAt_bytes, ints_set, ↓RunC_seq, ↓RunC_skip, ↓RunC_ret, ↓RunC_exit, ↓RunC_region, ↓RunC_condQ, condQ_true, condQ_false, ↓RunC_block, ↓RunR_done, ↓RunR_op, ↓RunR_opg, ↓RunR_snap, ↓RunR_chk, Holds, Option.getD_none, Option.getD_some, guardR_true, guardR_false, wantV_bool, wantV_none, callvQ_eq, afterR_some, ↓seqQ_normal, ↓seqQ_ret, ↓seqQ_exit, ↓blockQ_normal, ↓blockQ_ret, ↓blockQ_exit, ↓retQ_ret, ↓retQ_normal, ↓callQ_eq, ↓loopQ_normal, ↓loopQ_ret, ↓loopQ_exit, ↓upd_same, upd_at, sel_t, sel_f, initE_at, obj_upd_same, obj_upd_ne, obj_new_same, obj_new_ne, next_upd, next_new, add_plain, cop, bin, binInt, un, shiftInt, flat, read_cells, src_ro, src_fix, src_grow, get_cells, List.getElem?_cons_zero, List.getElem?_cons_succ, write_fix, write_grow, setAt, bound, eqK, elemOk_ro, elemOk_fix, elemOk_grow, stiff_ro, stiff_fix, goInt, resultsV, Option.map_some, Option.map_none, Option.bind_some, Option.bind_none, List.map_cons, List.map_nil, List.getD_cons_zero, List.getD_cons_succ, List.getD_nil, Nat.reduceEqDiff, Nat.reduceAdd, Nat.reduceMul, Nat.reduceSub, Nat.reduceLT, Nat.reduceLeDiff, Nat.reduceBEq, if_true, if_false, ite_true, ite_false, List.length_cons, List.length_nil, Nat.zero_add, Nat.add_zero, List.drop_zero, List.drop_succ_cons, List.take_succ_cons, List.take_zero, List.set_cons_zero, List.set_cons_succ, Int.reduceLT, Int.reduceLE, Bool.not_true, Bool.not_false, Option.isNone_some, Option.isNone_none, decide_true, decide_false, beq_self_eq_true, Bool.false_eq_true, Bool.true_eq_false, if_pos, if_neg, reduceCtorEq, beq_iff_eq, BEq.rfl, wrap_i64, wrap_i32, wrap_i8, wrap_u8, wrap_u32, wrap_u64, Nat.mul_one, Int.toNat_natCast, ints_len, List.length_map, List.length_set, beq_ft, beq_tf, List.all_cons, List.all_nil, scalar, Bool.and_self, Bool.true_and, Bool.and_true, List.size_toArray, List.getElem?_toArray, binStr]
  have d1' := d1.symm; have d2' := d2.symm; have d3' := d3.symm; have d4' := d4.symm; have d5' := d5.symm; have d6' := d6.symm
  refine hQ _ ⟨?_, ?_, ?_, ?_, ?_, ?_, ?_, d1, d2, d3, d4, d5, d6, nn⟩ ⟨rfl, fun b hb => ?_⟩
  · simp [Heap.upd, KS.put]
  · simp [Heap.upd, KS.put, d1', d4]
  · simp [Heap.upd, KS.put, d2']
  · simp [Heap.upd, KS.put, d3', d5', d6', hn]
  · simp [KS.put, setB_len, lb]
  · simp [KS.put, ls]
  · simp [KS.put, ln]
  · simp only [KS.own, List.mem_cons, List.not_mem_nil, or_false, not_or] at hb
    simp [Heap.upd, hb]

/-! ### what changes nothing -/
theorem len_ok {h : Heap} {s : KS} (hs : s.At h) (Q : Value → Heap → Prop) : CALL cp 14 [.pointer (some ⟨s.p, 0, none⟩)] h Q ↔ Q (.int .i64 s.n) h := by
  refine CALL_det ?_ Q
  rw [CALL_enter cp cp14]
  have hp := hs.hp
  simp (disch := omega) only [c14, ↓c14_r0_run, ↓c14_r1_run, ↓c14_r2_run, ↓c14_r3_run, hp, ↓RunC_seq, ↓RunC_skip, ↓RunC_ret, ↓RunC_exit, ↓RunC_region, ↓RunC_condQ, condQ_true, condQ_false, ↓RunC_block, ↓RunR_done, ↓RunR_op, ↓RunR_opg, ↓RunR_snap, ↓RunR_chk, Holds, Option.getD_none, Option.getD_some, guardR_true, guardR_false, wantV_bool, wantV_none, callvQ_eq, afterR_some, ↓seqQ_normal, ↓seqQ_ret, ↓seqQ_exit, ↓blockQ_normal, ↓blockQ_ret, ↓blockQ_exit, ↓retQ_ret, ↓retQ_normal, ↓callQ_eq, ↓loopQ_normal, ↓loopQ_ret, ↓loopQ_exit, ↓upd_same, upd_at, sel_t, sel_f, initE_at, obj_upd_same, obj_upd_ne, obj_new_same, obj_new_ne, next_upd, next_new, add_plain, cop, bin, binInt, un, shiftInt, flat, read_cells, src_ro, src_fix, src_grow, get_cells, List.getElem?_cons_zero, List.getElem?_cons_succ, write_fix, write_grow, setAt, bound, eqK, elemOk_ro, elemOk_fix, elemOk_grow, stiff_ro, stiff_fix, goInt, resultsV, Option.map_some, Option.map_none, Option.bind_some, Option.bind_none, List.map_cons, List.map_nil, List.getD_cons_zero, List.getD_cons_succ, List.getD_nil, Nat.reduceEqDiff, Nat.reduceAdd, Nat.reduceMul, Nat.reduceSub, Nat.reduceLT, Nat.reduceLeDiff, Nat.reduceBEq, if_true, if_false, ite_true, ite_false, List.length_cons, List.length_nil, Nat.zero_add, Nat.add_zero, List.drop_zero, List.drop_succ_cons, List.take_succ_cons, List.take_zero, List.set_cons_zero, List.set_cons_succ, Int.reduceLT, Int.reduceLE, Bool.not_true, Bool.not_false, Option.isNone_some, Option.isNone_none, decide_true, decide_false, beq_self_eq_true, Bool.false_eq_true, Bool.true_eq_false, if_pos, if_neg, reduceCtorEq, beq_iff_eq, BEq.rfl, wrap_i64, wrap_i32, wrap_i8, wrap_u8, wrap_u32, wrap_u64, Nat.mul_one, Int.toNat_natCast, ints_len, List.length_map, List.length_set, beq_ft, beq_tf, List.all_cons, List.all_nil, scalar, Bool.and_self, Bool.true_and, Bool.and_true, List.size_toArray, List.getElem?_toArray, binStr]
  trivial
theorem len_nil (h : Heap) (Q : Value → Heap → Prop) : CALL cp 14 [.pointer none] h Q ↔ Q (.int .i64 0) h := by
  refine CALL_det ?_ Q
  rw [CALL_enter cp cp14]
  simp (disch := omega) only [c14, ↓c14_r0_run, ↓c14_r1_run, ↓c14_r2_run, ↓c14_r3_run, ↓RunC_seq, ↓RunC_skip, ↓RunC_ret, ↓RunC_exit, ↓RunC_region, ↓RunC_condQ, condQ_true, condQ_false, ↓RunC_block, ↓RunR_done, ↓RunR_op, ↓RunR_opg, ↓RunR_snap, ↓RunR_chk, Holds, Option.getD_none, Option.getD_some, guardR_true, guardR_false, wantV_bool, wantV_none, callvQ_eq, afterR_some, ↓seqQ_normal, ↓seqQ_ret, ↓seqQ_exit, ↓blockQ_normal, ↓blockQ_ret, ↓blockQ_exit, ↓retQ_ret, ↓retQ_normal, ↓callQ_eq, ↓loopQ_normal, ↓loopQ_ret, ↓loopQ_exit, ↓upd_same, upd_at, sel_t, sel_f, initE_at, obj_upd_same, obj_upd_ne, obj_new_same, obj_new_ne, next_upd, next_new, add_plain, cop, bin, binInt, un, shiftInt, flat, read_cells, src_ro, src_fix, src_grow, get_cells, List.getElem?_cons_zero, List.getElem?_cons_succ, write_fix, write_grow, setAt, bound, eqK, elemOk_ro, elemOk_fix, elemOk_grow, stiff_ro, stiff_fix, goInt, resultsV, Option.map_some, Option.map_none, Option.bind_some, Option.bind_none, List.map_cons, List.map_nil, List.getD_cons_zero, List.getD_cons_succ, List.getD_nil, Nat.reduceEqDiff, Nat.reduceAdd, Nat.reduceMul, Nat.reduceSub, Nat.reduceLT, Nat.reduceLeDiff, Nat.reduceBEq, if_true, if_false, ite_true, ite_false, List.length_cons, List.length_nil, Nat.zero_add, Nat.add_zero, List.drop_zero, List.drop_succ_cons, List.take_succ_cons, List.take_zero, List.set_cons_zero, List.set_cons_succ, Int.reduceLT, Int.reduceLE, Bool.not_true, Bool.not_false, Option.isNone_some, Option.isNone_none, decide_true, decide_false, beq_self_eq_true, Bool.false_eq_true, Bool.true_eq_false, if_pos, if_neg, reduceCtorEq, beq_iff_eq, BEq.rfl, wrap_i64, wrap_i32, wrap_i8, wrap_u8, wrap_u32, wrap_u64, Nat.mul_one, Int.toNat_natCast, ints_len, List.length_map, List.length_set, beq_ft, beq_tf, List.all_cons, List.all_nil, scalar, Bool.and_self, Bool.true_and, Bool.and_true, List.size_toArray, List.getElem?_toArray, binStr]
  trivial
theorem used_ok {h : Heap} {s : KS} (hs : s.At h) (Q : Value → Heap → Prop) : CALL cp 12 [.pointer (some ⟨s.p, 0, none⟩)] h Q ↔ Q (.int .i64 s.us) h := by
  refine CALL_det ?_ Q
  rw [CALL_enter cp cp12]
  have hp := hs.hp
  simp (disch := omega) only [c12, ↓c12_r0_run, ↓c12_r1_run, ↓c12_r2_run, ↓c12_r3_run, hp, ↓RunC_seq, ↓RunC_skip, ↓RunC_ret, ↓RunC_exit, ↓RunC_region, ↓RunC_condQ, condQ_true, condQ_false, ↓RunC_block, ↓RunR_done, ↓RunR_op, ↓RunR_opg, ↓RunR_snap, ↓RunR_chk, Holds, Option.getD_none, Option.getD_some, guardR_true, guardR_false, wantV_bool, wantV_none, callvQ_eq, afterR_some, ↓seqQ_normal, ↓seqQ_ret, ↓seqQ_exit, ↓blockQ_normal, ↓blockQ_ret, ↓blockQ_exit, ↓retQ_ret, ↓retQ_normal, ↓callQ_eq, ↓loopQ_normal, ↓loopQ_ret, ↓loopQ_exit, ↓upd_same, upd_at, sel_t, sel_f, initE_at, obj_upd_same, obj_upd_ne, obj_new_same, obj_new_ne, next_upd, next_new, add_plain, cop, bin, binInt, un, shiftInt, flat, read_cells, src_ro, src_fix, src_grow, get_cells, List.getElem?_cons_zero, List.getElem?_cons_succ, write_fix, write_grow, setAt, bound, eqK, elemOk_ro, elemOk_fix, elemOk_grow, stiff_ro, stiff_fix, goInt, resultsV, Option.map_some, Option.map_none, Option.bind_some, Option.bind_none, List.map_cons, List.map_nil, List.getD_cons_zero, List.getD_cons_succ, List.getD_nil, Nat.reduceEqDiff, Nat.reduceAdd, Nat.reduceMul, Nat.reduceSub, Nat.reduceLT, Nat.reduceLeDiff, Nat.reduceBEq, if_true, if_false, ite_true, ite_false, List.length_cons, List.length_nil, Nat.zero_add, Nat.add_zero, List.drop_zero, List.drop_succ_cons, List.take_succ_cons, List.take_zero, List.set_cons_zero, List.set_cons_succ, Int.reduceLT, Int.reduceLE, Bool.not_true, Bool.not_false, Option.isNone_some, Option.isNone_none, decide_true, decide_false, beq_self_eq_true, Bool.false_eq_true, Bool.true_eq_false, if_pos, if_neg, reduceCtorEq, beq_iff_eq, BEq.rfl, wrap_i64, wrap_i32, wrap_i8, wrap_u8, wrap_u32, wrap_u64, Nat.mul_one, Int.toNat_natCast, ints_len, List.length_map, List.length_set, beq_ft, beq_tf, List.all_cons, List.all_nil, scalar, Bool.and_self, Bool.true_and, Bool.and_true, List.size_toArray, List.getElem?_toArray, binStr]
  trivial
theorem used_nil (h : Heap) (Q : Value → Heap → Prop) : CALL cp 12 [.pointer none] h Q ↔ Q (.int .i64 0) h := by
  refine CALL_det ?_ Q
  rw [CALL_enter cp cp12]
  simp (disch := omega) only [c12, ↓c12_r0_run, ↓c12_r1_run, ↓c12_r2_run, ↓c12_r3_run, ↓RunC_seq, ↓RunC_skip, ↓RunC_ret, ↓RunC_exit, ↓RunC_region, ↓RunC_condQ, condQ_true, condQ_false, ↓RunC_block, ↓RunR_done, ↓RunR_op, ↓RunR_opg, ↓RunR_snap, ↓RunR_chk, Holds, Option.getD_none, Option.getD_some, guardR_true, guardR_false, wantV_bool, wantV_none, callvQ_eq, afterR_some, ↓seqQ_normal, ↓seqQ_ret, ↓seqQ_exit, ↓blockQ_normal, ↓blockQ_ret, ↓blockQ_exit, ↓retQ_ret, ↓retQ_normal, ↓callQ_eq, ↓loopQ_normal, ↓loopQ_ret, ↓loopQ_exit, ↓upd_same, upd_at, sel_t, sel_f, initE_at, obj_upd_same, obj_upd_ne, obj_new_same, obj_new_ne, next_upd, next_new, add_plain, cop, bin, binInt, un, shiftInt, flat, read_cells, src_ro, src_fix, src_grow, get_cells, List.getElem?_cons_zero, List.getElem?_cons_succ, write_fix, write_grow, setAt, bound, eqK, elemOk_ro, elemOk_fix, elemOk_grow, stiff_ro, stiff_fix, goInt, resultsV, Option.map_some, Option.map_none, Option.bind_some, Option.bind_none, List.map_cons, List.map_nil, List.getD_cons_zero, List.getD_cons_succ, List.getD_nil, Nat.reduceEqDiff, Nat.reduceAdd, Nat.reduceMul, Nat.reduceSub, Nat.reduceLT, Nat.reduceLeDiff, Nat.reduceBEq, if_true, if_false, ite_true, ite_false, List.length_cons, List.length_nil, Nat.zero_add, Nat.add_zero, List.drop_zero, List.drop_succ_cons, List.take_succ_cons, List.take_zero, List.set_cons_zero, List.set_cons_succ, Int.reduceLT, Int.reduceLE, Bool.not_true, Bool.not_false, Option.isNone_some, Option.isNone_none, decide_true, decide_false, beq_self_eq_true, Bool.false_eq_true, Bool.true_eq_false, if_pos, if_neg, reduceCtorEq, beq_iff_eq, BEq.rfl, wrap_i64, wrap_i32, wrap_i8, wrap_u8, wrap_u32, wrap_u64, Nat.mul_one, Int.toNat_natCast, ints_len, List.length_map, List.length_set, beq_ft, beq_tf, List.all_cons, List.all_nil, scalar, Bool.and_self, Bool.true_and, Bool.and_true, List.size_toArray, List.getElem?_toArray, binStr]
  trivial
theorem bytes_ok (h : Heap) (n : Int) (Q : Value → Heap → Prop) : CALL cp 15 [.int .i64 n] h Q ↔ Q (.int .i64 (IntKind.i64.wrap (n * 69))) h := by
  refine CALL_det ?_ Q
  rw [CALL_enter cp cp15]
  simp (disch := omega) only [c15, ↓c15_r0_run, ↓c15_r1_run, ↓RunC_seq, ↓RunC_skip, ↓RunC_ret, ↓RunC_exit, ↓RunC_region, ↓RunC_condQ, condQ_true, condQ_false, ↓RunC_block, ↓RunR_done, ↓RunR_op, ↓RunR_opg, ↓RunR_snap, ↓RunR_chk, Holds, Option.getD_none, Option.getD_some, guardR_true, guardR_false, wantV_bool, wantV_none, callvQ_eq, afterR_some, ↓seqQ_normal, ↓seqQ_ret, ↓seqQ_exit, ↓blockQ_normal, ↓blockQ_ret, ↓blockQ_exit, ↓retQ_ret, ↓retQ_normal, ↓callQ_eq, ↓loopQ_normal, ↓loopQ_ret, ↓loopQ_exit, ↓upd_same, upd_at, sel_t, sel_f, initE_at, obj_upd_same, obj_upd_ne, obj_new_same, obj_new_ne, next_upd, next_new, add_plain, cop, bin, binInt, un, shiftInt, flat, read_cells, src_ro, src_fix, src_grow, get_cells, List.getElem?_cons_zero, List.getElem?_cons_succ, write_fix, write_grow, setAt, bound, eqK, elemOk_ro, elemOk_fix, elemOk_grow, stiff_ro, stiff_fix, goInt, resultsV, Option.map_some, Option.map_none, Option.bind_some, Option.bind_none, List.map_cons, List.map_nil, List.getD_cons_zero, List.getD_cons_succ, List.getD_nil, Nat.reduceEqDiff, Nat.reduceAdd, Nat.reduceMul, Nat.reduceSub, Nat.reduceLT, Nat.reduceLeDiff, Nat.reduceBEq, if_true, if_false, ite_true, ite_false, List.length_cons, List.length_nil, Nat.zero_add, Nat.add_zero, List.drop_zero, List.drop_succ_cons, List.take_succ_cons, List.take_zero, List.set_cons_zero, List.set_cons_succ, Int.reduceLT, Int.reduceLE, Bool.not_true, Bool.not_false, Option.isNone_some, Option.isNone_none, decide_true, decide_false, beq_self_eq_true, Bool.false_eq_true, Bool.true_eq_false, if_pos, if_neg, reduceCtorEq, beq_iff_eq, BEq.rfl, wrap_i64, wrap_i32, wrap_i8, wrap_u8, wrap_u32, wrap_u64, Nat.mul_one, Int.toNat_natCast, ints_len, List.length_map, List.length_set, beq_ft, beq_tf, List.all_cons, List.all_nil, scalar, Bool.and_self, Bool.true_and, Bool.and_true, List.size_toArray, List.getElem?_toArray, binStr]
  trivial
theorem has_nil (h : Heap) (i : Int) (Q : Value → Heap → Prop) : CALL cp 16 [.pointer none, .int .i64 i] h Q ↔ Q (.bool false) h := by
  refine CALL_det ?_ Q
  rw [CALL_enter cp cp16]
  by_cases h1 : 0 ≤ i
  · have a1 : decide (i ≥ 0) = true := by simp [h1]
    have a2 : decide (i < 0) = false := by simp [h1]
    simp (disch := omega) only [c16, ↓c16_r0_run, ↓c16_r1_c2_run, ↓c16_r1_c1_run, ↓c16_r1_run, a1, a2, len_nil, ↓RunC_seq, ↓RunC_skip, ↓RunC_ret, ↓RunC_exit, ↓RunC_region, ↓RunC_condQ, condQ_true, condQ_false, ↓RunC_block, ↓RunR_done, ↓RunR_op, ↓RunR_opg, ↓RunR_snap, ↓RunR_chk, Holds, Option.getD_none, Option.getD_some, guardR_true, guardR_false, wantV_bool, wantV_none, callvQ_eq, afterR_some, ↓seqQ_normal, ↓seqQ_ret, ↓seqQ_exit, ↓blockQ_normal, ↓blockQ_ret, ↓blockQ_exit, ↓retQ_ret, ↓retQ_normal, ↓callQ_eq, ↓loopQ_normal, ↓loopQ_ret, ↓loopQ_exit, ↓upd_same, upd_at, sel_t, sel_f, initE_at, obj_upd_same, obj_upd_ne, obj_new_same, obj_new_ne, next_upd, next_new, add_plain, cop, bin, binInt, un, shiftInt, flat, read_cells, src_ro, src_fix, src_grow, get_cells, List.getElem?_cons_zero, List.getElem?_cons_succ, write_fix, write_grow, setAt, bound, eqK, elemOk_ro, elemOk_fix, elemOk_grow, stiff_ro, stiff_fix, goInt, resultsV, Option.map_some, Option.map_none, Option.bind_some, Option.bind_none, List.map_cons, List.map_nil, List.getD_cons_zero, List.getD_cons_succ, List.getD_nil, Nat.reduceEqDiff, Nat.reduceAdd, Nat.reduceMul, Nat.reduceSub, Nat.reduceLT, Nat.reduceLeDiff, Nat.reduceBEq, if_true, if_false, ite_true, ite_false, List.length_cons, List.length_nil, Nat.zero_add, Nat.add_zero, List.drop_zero, List.drop_succ_cons, List.take_succ_cons, List.take_zero, List.set_cons_zero, List.set_cons_succ, Int.reduceLT, Int.reduceLE, Bool.not_true, Bool.not_false, Option.isNone_some, Option.isNone_none, decide_true, decide_false, beq_self_eq_true, Bool.false_eq_true, Bool.true_eq_false, if_pos, if_neg, reduceCtorEq, beq_iff_eq, BEq.rfl, wrap_i64, wrap_i32, wrap_i8, wrap_u8, wrap_u32, wrap_u64, Nat.mul_one, Int.toNat_natCast, ints_len, List.length_map, List.length_set, beq_ft, beq_tf, List.all_cons, List.all_nil, scalar, Bool.and_self, Bool.true_and, Bool.and_true, List.size_toArray, List.getElem?_toArray, binStr]
    trivial
  · have a1 : decide (i ≥ 0) = false := by simp; omega
    simp (disch := omega) only [c16, ↓c16_r0_run, ↓c16_r1_c2_run, ↓c16_r1_c1_run, ↓c16_r1_run, a1, len_nil, ↓RunC_seq, ↓RunC_skip, ↓RunC_ret, ↓RunC_exit, ↓RunC_region, ↓RunC_condQ, condQ_true, condQ_false, ↓RunC_block, ↓RunR_done, ↓RunR_op, ↓RunR_opg, ↓RunR_snap, ↓RunR_chk, Holds, Option.getD_none, Option.getD_some, guardR_true, guardR_false, wantV_bool, wantV_none, callvQ_eq, afterR_some, ↓seqQ_normal, ↓seqQ_ret, ↓seqQ_exit, ↓blockQ_normal, ↓blockQ_ret, ↓blockQ_exit, ↓retQ_ret, ↓retQ_normal, ↓callQ_eq, ↓loopQ_normal, ↓loopQ_ret, ↓loopQ_exit, ↓upd_same, upd_at, sel_t, sel_f, initE_at, obj_upd_same, obj_upd_ne, obj_new_same, obj_new_ne, next_upd, next_new, add_plain, cop, bin, binInt, un, shiftInt, flat, read_cells, src_ro, src_fix, src_grow, get_cells, List.getElem?_cons_zero, List.getElem?_cons_succ, write_fix, write_grow, setAt, bound, eqK, elemOk_ro, elemOk_fix, elemOk_grow, stiff_ro, stiff_fix, goInt, resultsV, Option.map_some, Option.map_none, Option.bind_some, Option.bind_none, List.map_cons, List.map_nil, List.getD_cons_zero, List.getD_cons_succ, List.getD_nil, Nat.reduceEqDiff, Nat.reduceAdd, Nat.reduceMul, Nat.reduceSub, Nat.reduceLT, Nat.reduceLeDiff, Nat.reduceBEq, if_true, if_false, ite_true, ite_false, List.length_cons, List.length_nil, Nat.zero_add, Nat.add_zero, List.drop_zero, List.drop_succ_cons, List.take_succ_cons, List.take_zero, List.set_cons_zero, List.set_cons_succ, Int.reduceLT, Int.reduceLE, Bool.not_true, Bool.not_false, Option.isNone_some, Option.isNone_none, decide_true, decide_false, beq_self_eq_true, Bool.false_eq_true, Bool.true_eq_false, if_pos, if_neg, reduceCtorEq, beq_iff_eq, BEq.rfl, wrap_i64, wrap_i32, wrap_i8, wrap_u8, wrap_u32, wrap_u64, Nat.mul_one, Int.toNat_natCast, ints_len, List.length_map, List.length_set, beq_ft, beq_tf, List.all_cons, List.all_nil, scalar, Bool.and_self, Bool.true_and, Bool.and_true, List.size_toArray, List.getElem?_toArray, binStr]
    trivial

/-- Has a place a key? -/
def KS.has (s : KS) (i : Int) : Bool := decide (0 ≤ i) && decide (i < s.n) && decide (0 ≤ s.sz.getD i.toNat (-1))

theorem has_ok {h : Heap} {s : KS} (hs : s.At h) (i : Int) (Q : Value → Heap → Prop) : CALL cp 16 [.pointer (some ⟨s.p, 0, none⟩), .int .i64 i] h Q ↔ Q (.bool (s.has i)) h := by
  refine CALL_det ?_ Q
  rw [CALL_enter cp cp16]
  have hp := hs.hp
  have hl := len_ok hs
  by_cases h1 : 0 ≤ i
  · have a1 : decide (i ≥ 0) = true := by simp [h1]
    by_cases h2 : i < s.n
    · obtain ⟨k, rfl⟩ := Int.eq_ofNat_of_zero_le h1
      have hk : k < s.sz.length := by have := hs.ls; omega
      have a2 : decide ((k : Int) < s.n) = true := by simp; omega
      have g1 := ints_get .i8 s.sz (List.getElem?_eq_getElem hk)
      have hz := hs.hs
      have e1 : s.has k = decide (s.sz[k] ≥ 0) := by
        unfold KS.has
        simp only [h1, h2, decide_true, Bool.true_and, Int.toNat_natCast, List.getD_eq_getElem?_getD, List.getElem?_eq_getElem hk, Option.getD_some, ge_iff_le]
      simp (disch := omega) only [c16, ↓c16_r0_run, ↓c16_r1_c2_run, ↓c16_r1_c1_run, ↓c16_r1_run, a1, a2, hl, hp, hz, g1, ↓RunC_seq, ↓RunC_skip, ↓RunC_ret, ↓RunC_exit, ↓RunC_region, ↓RunC_condQ, condQ_true, condQ_false, ↓RunC_block, ↓RunR_done, ↓RunR_op, ↓RunR_opg, ↓RunR_snap, ↓RunR_chk, Holds, Option.getD_none, Option.getD_some, guardR_true, guardR_false, wantV_bool, wantV_none, callvQ_eq, afterR_some, ↓seqQ_normal, ↓seqQ_ret, ↓seqQ_exit, ↓blockQ_normal, ↓blockQ_ret, ↓blockQ_exit, ↓retQ_ret, ↓retQ_normal, ↓callQ_eq, ↓loopQ_normal, ↓loopQ_ret, ↓loopQ_exit, ↓upd_same, upd_at, sel_t, sel_f, initE_at, obj_upd_same, obj_upd_ne, obj_new_same, obj_new_ne, next_upd, next_new, add_plain, cop, bin, binInt, un, shiftInt, flat, read_cells, src_ro, src_fix, src_grow, get_cells, List.getElem?_cons_zero, List.getElem?_cons_succ, write_fix, write_grow, setAt, bound, eqK, elemOk_ro, elemOk_fix, elemOk_grow, stiff_ro, stiff_fix, goInt, resultsV, Option.map_some, Option.map_none, Option.bind_some, Option.bind_none, List.map_cons, List.map_nil, List.getD_cons_zero, List.getD_cons_succ, List.getD_nil, Nat.reduceEqDiff, Nat.reduceAdd, Nat.reduceMul, Nat.reduceSub, Nat.reduceLT, Nat.reduceLeDiff, Nat.reduceBEq, if_true, if_false, ite_true, ite_false, List.length_cons, List.length_nil, Nat.zero_add, Nat.add_zero, List.drop_zero, List.drop_succ_cons, List.take_succ_cons, List.take_zero, List.set_cons_zero, List.set_cons_succ, Int.reduceLT, Int.reduceLE, Bool.not_true, Bool.not_false, Option.isNone_some, Option.isNone_none, decide_true, decide_false, beq_self_eq_true, Bool.false_eq_true, Bool.true_eq_false, if_pos, if_neg, reduceCtorEq, beq_iff_eq, BEq.rfl, wrap_i64, wrap_i32, wrap_i8, wrap_u8, wrap_u32, wrap_u64, Nat.mul_one, Int.toNat_natCast, ints_len, List.length_map, List.length_set, beq_ft, beq_tf, List.all_cons, List.all_nil, scalar, Bool.and_self, Bool.true_and, Bool.and_true, List.size_toArray, List.getElem?_toArray, binStr]
      rw [e1]; trivial
    · have a2 : decide (i < s.n) = false := by simp; omega
      have e1 : s.has i = false := by unfold KS.has; simp [h2]
      simp (disch := omega) only [c16, ↓c16_r0_run, ↓c16_r1_c2_run, ↓c16_r1_c1_run, ↓c16_r1_run, a1, a2, hl, e1, ↓RunC_seq, ↓RunC_skip, ↓RunC_ret, ↓RunC_exit, ↓RunC_region, ↓RunC_condQ, condQ_true, condQ_false, ↓RunC_block, ↓RunR_done, ↓RunR_op, ↓RunR_opg, ↓RunR_snap, ↓RunR_chk, Holds, Option.getD_none, Option.getD_some, guardR_true, guardR_false, wantV_bool, wantV_none, callvQ_eq, afterR_some, ↓seqQ_normal, ↓seqQ_ret, ↓seqQ_exit, ↓blockQ_normal, ↓blockQ_ret, ↓blockQ_exit, ↓retQ_ret, ↓retQ_normal, ↓callQ_eq, ↓loopQ_normal, ↓loopQ_ret, ↓loopQ_exit, ↓upd_same, upd_at, sel_t, sel_f, initE_at, obj_upd_same, obj_upd_ne, obj_new_same, obj_new_ne, next_upd, next_new, add_plain, cop, bin, binInt, un, shiftInt, flat, read_cells, src_ro, src_fix, src_grow, get_cells, List.getElem?_cons_zero, List.getElem?_cons_succ, write_fix, write_grow, setAt, bound, eqK, elemOk_ro, elemOk_fix, elemOk_grow, stiff_ro, stiff_fix, goInt, resultsV, Option.map_some, Option.map_none, Option.bind_some, Option.bind_none, List.map_cons, List.map_nil, List.getD_cons_zero, List.getD_cons_succ, List.getD_nil, Nat.reduceEqDiff, Nat.reduceAdd, Nat.reduceMul, Nat.reduceSub, Nat.reduceLT, Nat.reduceLeDiff, Nat.reduceBEq, if_true, if_false, ite_true, ite_false, List.length_cons, List.length_nil, Nat.zero_add, Nat.add_zero, List.drop_zero, List.drop_succ_cons, List.take_succ_cons, List.take_zero, List.set_cons_zero, List.set_cons_succ, Int.reduceLT, Int.reduceLE, Bool.not_true, Bool.not_false, Option.isNone_some, Option.isNone_none, decide_true, decide_false, beq_self_eq_true, Bool.false_eq_true, Bool.true_eq_false, if_pos, if_neg, reduceCtorEq, beq_iff_eq, BEq.rfl, wrap_i64, wrap_i32, wrap_i8, wrap_u8, wrap_u32, wrap_u64, Nat.mul_one, Int.toNat_natCast, ints_len, List.length_map, List.length_set, beq_ft, beq_tf, List.all_cons, List.all_nil, scalar, Bool.and_self, Bool.true_and, Bool.and_true, List.size_toArray, List.getElem?_toArray, binStr]
      trivial
  · have a1 : decide (i ≥ 0) = false := by simp; omega
    have e1 : s.has i = false := by unfold KS.has; simp [h1]
    simp (disch := omega) only [c16, ↓c16_r0_run, ↓c16_r1_c2_run, ↓c16_r1_c1_run, ↓c16_r1_run, a1, e1, ↓RunC_seq, ↓RunC_skip, ↓RunC_ret, ↓RunC_exit, ↓RunC_region, ↓RunC_condQ, condQ_true, condQ_false, ↓RunC_block, ↓RunR_done, ↓RunR_op, ↓RunR_opg, ↓RunR_snap, ↓RunR_chk, Holds, Option.getD_none, Option.getD_some, guardR_true, guardR_false, wantV_bool, wantV_none, callvQ_eq, afterR_some, ↓seqQ_normal, ↓seqQ_ret, ↓seqQ_exit, ↓blockQ_normal, ↓blockQ_ret, ↓blockQ_exit, ↓retQ_ret, ↓retQ_normal, ↓callQ_eq, ↓loopQ_normal, ↓loopQ_ret, ↓loopQ_exit, ↓upd_same, upd_at, sel_t, sel_f, initE_at, obj_upd_same, obj_upd_ne, obj_new_same, obj_new_ne, next_upd, next_new, add_plain, cop, bin, binInt, un, shiftInt, flat, read_cells, src_ro, src_fix, src_grow, get_cells, List.getElem?_cons_zero, List.getElem?_cons_succ, write_fix, write_grow, setAt, bound, eqK, elemOk_ro, elemOk_fix, elemOk_grow, stiff_ro, stiff_fix, goInt, resultsV, Option.map_some, Option.map_none, Option.bind_some, Option.bind_none, List.map_cons, List.map_nil, List.getD_cons_zero, List.getD_cons_succ, List.getD_nil, Nat.reduceEqDiff, Nat.reduceAdd, Nat.reduceMul, Nat.reduceSub, Nat.reduceLT, Nat.reduceLeDiff, Nat.reduceBEq, if_true, if_false, ite_true, ite_false, List.length_cons, List.length_nil, Nat.zero_add, Nat.add_zero, List.drop_zero, List.drop_succ_cons, List.take_succ_cons, List.take_zero, List.set_cons_zero, List.set_cons_succ, Int.reduceLT, Int.reduceLE, Bool.not_true, Bool.not_false, Option.isNone_some, Option.isNone_none, decide_true, decide_false, beq_self_eq_true, Bool.false_eq_true, Bool.true_eq_false, if_pos, if_neg, reduceCtorEq, beq_iff_eq, BEq.rfl, wrap_i64, wrap_i32, wrap_i8, wrap_u8, wrap_u32, wrap_u64, Nat.mul_one, Int.toNat_natCast, ints_len, List.length_map, List.length_set, beq_ft, beq_tf, List.all_cons, List.all_nil, scalar, Bool.and_self, Bool.true_and, Bool.and_true, List.size_toArray, List.getElem?_toArray, binStr]
    trivial

theorem has_inv {s : KS} {i : Int} (h : s.has i = true) : ∃ k z : Nat, i = k ∧ k < s.n ∧ s.sz[k]? = some (z : Int) := by
  unfold KS.has at h
  simp only [Bool.and_eq_true, decide_eq_true_eq] at h
  obtain ⟨⟨h1, h2⟩, h3⟩ := h
  obtain ⟨k, rfl⟩ := Int.eq_ofNat_of_zero_le h1
  refine ⟨k, (s.sz.getD k (-1)).toNat, rfl, by omega, ?_⟩
  simp only [Int.toNat_natCast, List.getD_eq_getElem?_getD] at h3 ⊢
  cases hq : s.sz[k]? with
  | none => rw [hq] at h3; simp at h3
  | some x => rw [hq] at h3; simp only [Option.getD_some] at h3 ⊢; congr 1; omega

/-! ### a place's key -/
theorem byteVals_drop (l : List UInt8) (n : Nat) : (byteVals l).drop n = byteVals (l.drop n) := by simp [byteVals]
theorem byteVals_take (l : List UInt8) (n : Nat) : (byteVals l).take n = byteVals (l.take n) := by simp [byteVals]
theorem bytesOf_vals : ∀ (l : List UInt8), bytesOf (byteVals l) = some l
  | [] => rfl
  | b :: l => by
    have : byteVals (b :: l) = .int .u8 b.toNat :: byteVals l := rfl
    rw [this]
    simp only [bytesOf, bytesOf_vals l, Option.map_some]
    simp
def KS.key (s : KS) (k z : Nat) : ByteArray := ⟨((s.by_.drop (k * 64)).take z).toArray⟩

theorem key_no {h : Heap} {s : KS} (hs : s.At h) {i : Int} (hi : s.has i = false) (Q : Value → Heap → Prop) : CALL cp 10 [.pointer (some ⟨s.p, 0, none⟩), .int .i64 i] h Q ↔ Q (.tuple #[.string ⟨#[]⟩, .bool false]) h := by
  refine CALL_det ?_ Q
  rw [CALL_enter cp cp10]
  have hh := has_ok hs i
  simp (disch := omega) only [c10, ↓c10_r0_run, ↓c10_r1_run, ↓c10_r2_run, ↓c10_r3_c2_run, ↓c10_r3_c1_run, ↓c10_r3_run, hh, hi, ↓RunC_seq, ↓RunC_skip, ↓RunC_ret, ↓RunC_exit, ↓RunC_region, ↓RunC_condQ, condQ_true, condQ_false, ↓RunC_block, ↓RunR_done, ↓RunR_op, ↓RunR_opg, ↓RunR_snap, ↓RunR_chk, Holds, Option.getD_none, Option.getD_some, guardR_true, guardR_false, wantV_bool, wantV_none, callvQ_eq, afterR_some, ↓seqQ_normal, ↓seqQ_ret, ↓seqQ_exit, ↓blockQ_normal, ↓blockQ_ret, ↓blockQ_exit, ↓retQ_ret, ↓retQ_normal, ↓callQ_eq, ↓loopQ_normal, ↓loopQ_ret, ↓loopQ_exit, ↓upd_same, upd_at, sel_t, sel_f, initE_at, obj_upd_same, obj_upd_ne, obj_new_same, obj_new_ne, next_upd, next_new, add_plain, cop, bin, binInt, un, shiftInt, flat, read_cells, src_ro, src_fix, src_grow, get_cells, List.getElem?_cons_zero, List.getElem?_cons_succ, write_fix, write_grow, setAt, bound, eqK, elemOk_ro, elemOk_fix, elemOk_grow, stiff_ro, stiff_fix, goInt, resultsV, Option.map_some, Option.map_none, Option.bind_some, Option.bind_none, List.map_cons, List.map_nil, List.getD_cons_zero, List.getD_cons_succ, List.getD_nil, Nat.reduceEqDiff, Nat.reduceAdd, Nat.reduceMul, Nat.reduceSub, Nat.reduceLT, Nat.reduceLeDiff, Nat.reduceBEq, if_true, if_false, ite_true, ite_false, List.length_cons, List.length_nil, Nat.zero_add, Nat.add_zero, List.drop_zero, List.drop_succ_cons, List.take_succ_cons, List.take_zero, List.set_cons_zero, List.set_cons_succ, Int.reduceLT, Int.reduceLE, Bool.not_true, Bool.not_false, Option.isNone_some, Option.isNone_none, decide_true, decide_false, beq_self_eq_true, Bool.false_eq_true, Bool.true_eq_false, if_pos, if_neg, reduceCtorEq, beq_iff_eq, BEq.rfl, wrap_i64, wrap_i32, wrap_i8, wrap_u8, wrap_u32, wrap_u64, Nat.mul_one, Int.toNat_natCast, ints_len, List.length_map, List.length_set, beq_ft, beq_tf, List.all_cons, List.all_nil, scalar, Bool.and_self, Bool.true_and, Bool.and_true, List.size_toArray, List.getElem?_toArray, binStr]
  first | trivial | exact ⟨rfl, trivial⟩
theorem key_nil (h : Heap) (i : Int) (Q : Value → Heap → Prop) : CALL cp 10 [.pointer none, .int .i64 i] h Q ↔ Q (.tuple #[.string ⟨#[]⟩, .bool false]) h := by
  refine CALL_det ?_ Q
  rw [CALL_enter cp cp10]
  simp (disch := omega) only [c10, ↓c10_r0_run, ↓c10_r1_run, ↓c10_r2_run, ↓c10_r3_c2_run, ↓c10_r3_c1_run, ↓c10_r3_run, has_nil, ↓RunC_seq, ↓RunC_skip, ↓RunC_ret, ↓RunC_exit, ↓RunC_region, ↓RunC_condQ, condQ_true, condQ_false, ↓RunC_block, ↓RunR_done, ↓RunR_op, ↓RunR_opg, ↓RunR_snap, ↓RunR_chk, Holds, Option.getD_none, Option.getD_some, guardR_true, guardR_false, wantV_bool, wantV_none, callvQ_eq, afterR_some, ↓seqQ_normal, ↓seqQ_ret, ↓seqQ_exit, ↓blockQ_normal, ↓blockQ_ret, ↓blockQ_exit, ↓retQ_ret, ↓retQ_normal, ↓callQ_eq, ↓loopQ_normal, ↓loopQ_ret, ↓loopQ_exit, ↓upd_same, upd_at, sel_t, sel_f, initE_at, obj_upd_same, obj_upd_ne, obj_new_same, obj_new_ne, next_upd, next_new, add_plain, cop, bin, binInt, un, shiftInt, flat, read_cells, src_ro, src_fix, src_grow, get_cells, List.getElem?_cons_zero, List.getElem?_cons_succ, write_fix, write_grow, setAt, bound, eqK, elemOk_ro, elemOk_fix, elemOk_grow, stiff_ro, stiff_fix, goInt, resultsV, Option.map_some, Option.map_none, Option.bind_some, Option.bind_none, List.map_cons, List.map_nil, List.getD_cons_zero, List.getD_cons_succ, List.getD_nil, Nat.reduceEqDiff, Nat.reduceAdd, Nat.reduceMul, Nat.reduceSub, Nat.reduceLT, Nat.reduceLeDiff, Nat.reduceBEq, if_true, if_false, ite_true, ite_false, List.length_cons, List.length_nil, Nat.zero_add, Nat.add_zero, List.drop_zero, List.drop_succ_cons, List.take_succ_cons, List.take_zero, List.set_cons_zero, List.set_cons_succ, Int.reduceLT, Int.reduceLE, Bool.not_true, Bool.not_false, Option.isNone_some, Option.isNone_none, decide_true, decide_false, beq_self_eq_true, Bool.false_eq_true, Bool.true_eq_false, if_pos, if_neg, reduceCtorEq, beq_iff_eq, BEq.rfl, wrap_i64, wrap_i32, wrap_i8, wrap_u8, wrap_u32, wrap_u64, Nat.mul_one, Int.toNat_natCast, ints_len, List.length_map, List.length_set, beq_ft, beq_tf, List.all_cons, List.all_nil, scalar, Bool.and_self, Bool.true_and, Bool.and_true, List.size_toArray, List.getElem?_toArray, binStr]
  first | trivial | exact ⟨rfl, trivial⟩
theorem key_ok {h : Heap} {s : KS} (hs : s.At h) {k z : Nat} (hk : k < s.n) (hz : s.sz[k]? = some (z : Int)) (hz64 : z ≤ 64) (Q : Value → Heap → Prop) :
    CALL cp 10 [.pointer (some ⟨s.p, 0, none⟩), .int .i64 k] h Q ↔ Q (.tuple #[.string (s.key k z), .bool true]) h := by
  refine CALL_det ?_ Q
  rw [CALL_enter cp cp10]
  have hh := has_ok hs k
  have hi : s.has k = true := by unfold KS.has; simp [hk, List.getD_eq_getElem?_getD, hz]
  have hp := hs.hp
  have hzz := hs.hs
  have hb := hs.hb
  have lb := hs.lb
  have nn := hs.nn
  have g1 := ints_get .i8 s.sz hz
  have w1 : IntKind.i64.wrap (k * 64) = ((k * 64 : Nat) : Int) := by rw [wrap_i64] <;> omega
  have w2 : IntKind.i64.wrap (((k * 64 : Nat) : Int) + z) = ((k * 64 + z : Nat) : Int) := by rw [wrap_i64] <;> omega
  have e1 : k * 64 + z - k * 64 = z := by omega
  simp (disch := omega) only [c10, ↓c10_r0_run, ↓c10_r1_run, ↓c10_r2_run, ↓c10_r3_c2_run, ↓c10_r3_c1_run, ↓c10_r3_run, hh, hi, hp, hzz, hb, g1, w1, w2, e1, byteVals_len, byteVals_drop, byteVals_take, bytesOf_vals, ↓RunC_seq, ↓RunC_skip, ↓RunC_ret, ↓RunC_exit, ↓RunC_region, ↓RunC_condQ, condQ_true, condQ_false, ↓RunC_block, ↓RunR_done, ↓RunR_op, ↓RunR_opg, ↓RunR_snap, ↓RunR_chk, Holds, Option.getD_none, Option.getD_some, guardR_true, guardR_false, wantV_bool, wantV_none, callvQ_eq, afterR_some, ↓seqQ_normal, ↓seqQ_ret, ↓seqQ_exit, ↓blockQ_normal, ↓blockQ_ret, ↓blockQ_exit, ↓retQ_ret, ↓retQ_normal, ↓callQ_eq, ↓loopQ_normal, ↓loopQ_ret, ↓loopQ_exit, ↓upd_same, upd_at, sel_t, sel_f, initE_at, obj_upd_same, obj_upd_ne, obj_new_same, obj_new_ne, next_upd, next_new, add_plain, cop, bin, binInt, un, shiftInt, flat, read_cells, src_ro, src_fix, src_grow, get_cells, List.getElem?_cons_zero, List.getElem?_cons_succ, write_fix, write_grow, setAt, bound, eqK, elemOk_ro, elemOk_fix, elemOk_grow, stiff_ro, stiff_fix, goInt, resultsV, Option.map_some, Option.map_none, Option.bind_some, Option.bind_none, List.map_cons, List.map_nil, List.getD_cons_zero, List.getD_cons_succ, List.getD_nil, Nat.reduceEqDiff, Nat.reduceAdd, Nat.reduceMul, Nat.reduceSub, Nat.reduceLT, Nat.reduceLeDiff, Nat.reduceBEq, if_true, if_false, ite_true, ite_false, List.length_cons, List.length_nil, Nat.zero_add, Nat.add_zero, List.drop_zero, List.drop_succ_cons, List.take_succ_cons, List.take_zero, List.set_cons_zero, List.set_cons_succ, Int.reduceLT, Int.reduceLE, Bool.not_true, Bool.not_false, Option.isNone_some, Option.isNone_none, decide_true, decide_false, beq_self_eq_true, Bool.false_eq_true, Bool.true_eq_false, if_pos, if_neg, reduceCtorEq, beq_iff_eq, BEq.rfl, wrap_i64, wrap_i32, wrap_i8, wrap_u8, wrap_u32, wrap_u64, Nat.mul_one, Int.toNat_natCast, ints_len, List.length_map, List.length_set, beq_ft, beq_tf, List.all_cons, List.all_nil, scalar, Bool.and_self, Bool.true_and, Bool.and_true, List.size_toArray, List.getElem?_toArray, binStr]
  first | trivial | exact ⟨rfl, trivial⟩

theorem is_no {h : Heap} {s : KS} (hs : s.At h) {i : Int} (hi : s.has i = false) (key : ByteArray) (Q : Value → Heap → Prop) : CALL cp 11 [.pointer (some ⟨s.p, 0, none⟩), .int .i64 i, .string key] h Q ↔ Q (.bool false) h := by
  refine CALL_det ?_ Q
  rw [CALL_enter cp cp11]
  have hh := has_ok hs i
  simp (disch := omega) only [c11, ↓c11_r0_run, ↓c11_r1_c3_run, ↓c11_r1_c2_run, ↓c11_r1_c1_run, ↓c11_r1_run, hh, hi, ↓RunC_seq, ↓RunC_skip, ↓RunC_ret, ↓RunC_exit, ↓RunC_region, ↓RunC_condQ, condQ_true, condQ_false, ↓RunC_block, ↓RunR_done, ↓RunR_op, ↓RunR_opg, ↓RunR_snap, ↓RunR_chk, Holds, Option.getD_none, Option.getD_some, guardR_true, guardR_false, wantV_bool, wantV_none, callvQ_eq, afterR_some, ↓seqQ_normal, ↓seqQ_ret, ↓seqQ_exit, ↓blockQ_normal, ↓blockQ_ret, ↓blockQ_exit, ↓retQ_ret, ↓retQ_normal, ↓callQ_eq, ↓loopQ_normal, ↓loopQ_ret, ↓loopQ_exit, ↓upd_same, upd_at, sel_t, sel_f, initE_at, obj_upd_same, obj_upd_ne, obj_new_same, obj_new_ne, next_upd, next_new, add_plain, cop, bin, binInt, un, shiftInt, flat, read_cells, src_ro, src_fix, src_grow, get_cells, List.getElem?_cons_zero, List.getElem?_cons_succ, write_fix, write_grow, setAt, bound, eqK, elemOk_ro, elemOk_fix, elemOk_grow, stiff_ro, stiff_fix, goInt, resultsV, Option.map_some, Option.map_none, Option.bind_some, Option.bind_none, List.map_cons, List.map_nil, List.getD_cons_zero, List.getD_cons_succ, List.getD_nil, Nat.reduceEqDiff, Nat.reduceAdd, Nat.reduceMul, Nat.reduceSub, Nat.reduceLT, Nat.reduceLeDiff, Nat.reduceBEq, if_true, if_false, ite_true, ite_false, List.length_cons, List.length_nil, Nat.zero_add, Nat.add_zero, List.drop_zero, List.drop_succ_cons, List.take_succ_cons, List.take_zero, List.set_cons_zero, List.set_cons_succ, Int.reduceLT, Int.reduceLE, Bool.not_true, Bool.not_false, Option.isNone_some, Option.isNone_none, decide_true, decide_false, beq_self_eq_true, Bool.false_eq_true, Bool.true_eq_false, if_pos, if_neg, reduceCtorEq, beq_iff_eq, BEq.rfl, wrap_i64, wrap_i32, wrap_i8, wrap_u8, wrap_u32, wrap_u64, Nat.mul_one, Int.toNat_natCast, ints_len, List.length_map, List.length_set, beq_ft, beq_tf, List.all_cons, List.all_nil, scalar, Bool.and_self, Bool.true_and, Bool.and_true, List.size_toArray, List.getElem?_toArray, binStr]
  trivial
theorem is_nil (h : Heap) (i : Int) (key : ByteArray) (Q : Value → Heap → Prop) : CALL cp 11 [.pointer none, .int .i64 i, .string key] h Q ↔ Q (.bool false) h := by
  refine CALL_det ?_ Q
  rw [CALL_enter cp cp11]
  simp (disch := omega) only [c11, ↓c11_r0_run, ↓c11_r1_c3_run, ↓c11_r1_c2_run, ↓c11_r1_c1_run, ↓c11_r1_run, has_nil, ↓RunC_seq, ↓RunC_skip, ↓RunC_ret, ↓RunC_exit, ↓RunC_region, ↓RunC_condQ, condQ_true, condQ_false, ↓RunC_block, ↓RunR_done, ↓RunR_op, ↓RunR_opg, ↓RunR_snap, ↓RunR_chk, Holds, Option.getD_none, Option.getD_some, guardR_true, guardR_false, wantV_bool, wantV_none, callvQ_eq, afterR_some, ↓seqQ_normal, ↓seqQ_ret, ↓seqQ_exit, ↓blockQ_normal, ↓blockQ_ret, ↓blockQ_exit, ↓retQ_ret, ↓retQ_normal, ↓callQ_eq, ↓loopQ_normal, ↓loopQ_ret, ↓loopQ_exit, ↓upd_same, upd_at, sel_t, sel_f, initE_at, obj_upd_same, obj_upd_ne, obj_new_same, obj_new_ne, next_upd, next_new, add_plain, cop, bin, binInt, un, shiftInt, flat, read_cells, src_ro, src_fix, src_grow, get_cells, List.getElem?_cons_zero, List.getElem?_cons_succ, write_fix, write_grow, setAt, bound, eqK, elemOk_ro, elemOk_fix, elemOk_grow, stiff_ro, stiff_fix, goInt, resultsV, Option.map_some, Option.map_none, Option.bind_some, Option.bind_none, List.map_cons, List.map_nil, List.getD_cons_zero, List.getD_cons_succ, List.getD_nil, Nat.reduceEqDiff, Nat.reduceAdd, Nat.reduceMul, Nat.reduceSub, Nat.reduceLT, Nat.reduceLeDiff, Nat.reduceBEq, if_true, if_false, ite_true, ite_false, List.length_cons, List.length_nil, Nat.zero_add, Nat.add_zero, List.drop_zero, List.drop_succ_cons, List.take_succ_cons, List.take_zero, List.set_cons_zero, List.set_cons_succ, Int.reduceLT, Int.reduceLE, Bool.not_true, Bool.not_false, Option.isNone_some, Option.isNone_none, decide_true, decide_false, beq_self_eq_true, Bool.false_eq_true, Bool.true_eq_false, if_pos, if_neg, reduceCtorEq, beq_iff_eq, BEq.rfl, wrap_i64, wrap_i32, wrap_i8, wrap_u8, wrap_u32, wrap_u64, Nat.mul_one, Int.toNat_natCast, ints_len, List.length_map, List.length_set, beq_ft, beq_tf, List.all_cons, List.all_nil, scalar, Bool.and_self, Bool.true_and, Bool.and_true, List.size_toArray, List.getElem?_toArray, binStr]
  trivial
theorem is_ok {h : Heap} {s : KS} (hs : s.At h) {k z : Nat} (hk : k < s.n) (hz : s.sz[k]? = some (z : Int)) (hz64 : z ≤ 64) (key : ByteArray) (Q : Value → Heap → Prop) :
    CALL cp 11 [.pointer (some ⟨s.p, 0, none⟩), .int .i64 k, .string key] h Q ↔ Q (.bool ((s.key k z).toList == key.toList)) h := by
  refine CALL_det ?_ Q
  rw [CALL_enter cp cp11]
  have hh := has_ok hs k
  have hi : s.has k = true := by unfold KS.has; simp [hk, List.getD_eq_getElem?_getD, hz]
  have hp := hs.hp
  have hzz := hs.hs
  have hb := hs.hb
  have lb := hs.lb
  have nn := hs.nn
  have g1 := ints_get .i8 s.sz hz
  have w1 : IntKind.i64.wrap (k * 64) = ((k * 64 : Nat) : Int) := by rw [wrap_i64] <;> omega
  have w2 : IntKind.i64.wrap (((k * 64 : Nat) : Int) + z) = ((k * 64 + z : Nat) : Int) := by rw [wrap_i64] <;> omega
  have e1 : k * 64 + z - k * 64 = z := by omega
  simp (disch := omega) only [c11, ↓c11_r0_run, ↓c11_r1_c3_run, ↓c11_r1_c2_run, ↓c11_r1_c1_run, ↓c11_r1_run, hh, hi, hp, hzz, hb, g1, w1, w2, e1, byteVals_len, byteVals_drop, byteVals_take, bytesOf_vals, binStr, ↓RunC_seq, ↓RunC_skip, ↓RunC_ret, ↓RunC_exit, ↓RunC_region, ↓RunC_condQ, condQ_true, condQ_false, ↓RunC_block, ↓RunR_done, ↓RunR_op, ↓RunR_opg, ↓RunR_snap, ↓RunR_chk, Holds, Option.getD_none, Option.getD_some, guardR_true, guardR_false, wantV_bool, wantV_none, callvQ_eq, afterR_some, ↓seqQ_normal, ↓seqQ_ret, ↓seqQ_exit, ↓blockQ_normal, ↓blockQ_ret, ↓blockQ_exit, ↓retQ_ret, ↓retQ_normal, ↓callQ_eq, ↓loopQ_normal, ↓loopQ_ret, ↓loopQ_exit, ↓upd_same, upd_at, sel_t, sel_f, initE_at, obj_upd_same, obj_upd_ne, obj_new_same, obj_new_ne, next_upd, next_new, add_plain, cop, bin, binInt, un, shiftInt, flat, read_cells, src_ro, src_fix, src_grow, get_cells, List.getElem?_cons_zero, List.getElem?_cons_succ, write_fix, write_grow, setAt, bound, eqK, elemOk_ro, elemOk_fix, elemOk_grow, stiff_ro, stiff_fix, goInt, resultsV, Option.map_some, Option.map_none, Option.bind_some, Option.bind_none, List.map_cons, List.map_nil, List.getD_cons_zero, List.getD_cons_succ, List.getD_nil, Nat.reduceEqDiff, Nat.reduceAdd, Nat.reduceMul, Nat.reduceSub, Nat.reduceLT, Nat.reduceLeDiff, Nat.reduceBEq, if_true, if_false, ite_true, ite_false, List.length_cons, List.length_nil, Nat.zero_add, Nat.add_zero, List.drop_zero, List.drop_succ_cons, List.take_succ_cons, List.take_zero, List.set_cons_zero, List.set_cons_succ, Int.reduceLT, Int.reduceLE, Bool.not_true, Bool.not_false, Option.isNone_some, Option.isNone_none, decide_true, decide_false, beq_self_eq_true, Bool.false_eq_true, Bool.true_eq_false, if_pos, if_neg, reduceCtorEq, beq_iff_eq, BEq.rfl, wrap_i64, wrap_i32, wrap_i8, wrap_u8, wrap_u32, wrap_u64, Nat.mul_one, Int.toNat_natCast, ints_len, List.length_map, List.length_set, beq_ft, beq_tf, List.all_cons, List.all_nil, scalar, Bool.and_self, Bool.true_and, Bool.and_true, List.size_toArray, List.getElem?_toArray, binStr]
  first | trivial | exact ⟨rfl, trivial⟩

/-! ### no place -/
theorem put_nil (h : Heap) (key : ByteArray) (Q : Value → Heap → Prop) : CALL cp 9 [.pointer none, .string key] h Q ↔ Q (.int .i64 (-1)) h := by
  refine CALL_det ?_ Q
  rw [CALL_enter cp cp9]
  simp (disch := omega) only [c9, ↓c9_r0_run, ↓c9_r1_c1_run, ↓c9_r1_run, ↓c9_r2_run, ↓c9_r3_run, ↓c9_r4_c1_run, ↓c9_r4_run, ↓c9_r5_run, ↓c9_r6_run, ↓c9_r7_run, ↓c9_r8_run, ↓RunC_seq, ↓RunC_skip, ↓RunC_ret, ↓RunC_exit, ↓RunC_region, ↓RunC_condQ, condQ_true, condQ_false, ↓RunC_block, ↓RunR_done, ↓RunR_op, ↓RunR_opg, ↓RunR_snap, ↓RunR_chk, Holds, Option.getD_none, Option.getD_some, guardR_true, guardR_false, wantV_bool, wantV_none, callvQ_eq, afterR_some, ↓seqQ_normal, ↓seqQ_ret, ↓seqQ_exit, ↓blockQ_normal, ↓blockQ_ret, ↓blockQ_exit, ↓retQ_ret, ↓retQ_normal, ↓callQ_eq, ↓loopQ_normal, ↓loopQ_ret, ↓loopQ_exit, ↓upd_same, upd_at, sel_t, sel_f, initE_at, obj_upd_same, obj_upd_ne, obj_new_same, obj_new_ne, next_upd, next_new, add_plain, cop, bin, binInt, un, shiftInt, flat, read_cells, src_ro, src_fix, src_grow, get_cells, List.getElem?_cons_zero, List.getElem?_cons_succ, write_fix, write_grow, setAt, bound, eqK, elemOk_ro, elemOk_fix, elemOk_grow, stiff_ro, stiff_fix, goInt, resultsV, Option.map_some, Option.map_none, Option.bind_some, Option.bind_none, List.map_cons, List.map_nil, List.getD_cons_zero, List.getD_cons_succ, List.getD_nil, Nat.reduceEqDiff, Nat.reduceAdd, Nat.reduceMul, Nat.reduceSub, Nat.reduceLT, Nat.reduceLeDiff, Nat.reduceBEq, if_true, if_false, ite_true, ite_false, List.length_cons, List.length_nil, Nat.zero_add, Nat.add_zero, List.drop_zero, List.drop_succ_cons, List.take_succ_cons, List.take_zero, List.set_cons_zero, List.set_cons_succ, Int.reduceLT, Int.reduceLE, Bool.not_true, Bool.not_false, Option.isNone_some, Option.isNone_none, decide_true, decide_false, beq_self_eq_true, Bool.false_eq_true, Bool.true_eq_false, if_pos, if_neg, reduceCtorEq, beq_iff_eq, BEq.rfl, wrap_i64, wrap_i32, wrap_i8, wrap_u8, wrap_u32, wrap_u64, Nat.mul_one, Int.toNat_natCast, ints_len, List.length_map, List.length_set, beq_ft, beq_tf, List.all_cons, List.all_nil, scalar, Bool.and_self, Bool.true_and, Bool.and_true, List.size_toArray, List.getElem?_toArray, binStr]
  trivial
theorem put_no {h : Heap} {s : KS} (hs : s.At h) (key : ByteArray) (hno : s.fr < 0 ∨ 64 < key.size) (Q : Value → Heap → Prop) : CALL cp 9 [.pointer (some ⟨s.p, 0, none⟩), .string key] h Q ↔ Q (.int .i64 (-1)) h := by
  refine CALL_det ?_ Q
  rw [CALL_enter cp cp9]
  have hp := hs.hp
  by_cases h1 : s.fr < 0
  · have a1 : decide (s.fr < 0) = true := by simp [h1]
    simp (disch := omega) only [c9, ↓c9_r0_run, ↓c9_r1_c1_run, ↓c9_r1_run, ↓c9_r2_run, ↓c9_r3_run, ↓c9_r4_c1_run, ↓c9_r4_run, ↓c9_r5_run, ↓c9_r6_run, ↓c9_r7_run, ↓c9_r8_run, hp, a1, ↓RunC_seq, ↓RunC_skip, ↓RunC_ret, ↓RunC_exit, ↓RunC_region, ↓RunC_condQ, condQ_true, condQ_false, ↓RunC_block, ↓RunR_done, ↓RunR_op, ↓RunR_opg, ↓RunR_snap, ↓RunR_chk, Holds, Option.getD_none, Option.getD_some, guardR_true, guardR_false, wantV_bool, wantV_none, callvQ_eq, afterR_some, ↓seqQ_normal, ↓seqQ_ret, ↓seqQ_exit, ↓blockQ_normal, ↓blockQ_ret, ↓blockQ_exit, ↓retQ_ret, ↓retQ_normal, ↓callQ_eq, ↓loopQ_normal, ↓loopQ_ret, ↓loopQ_exit, ↓upd_same, upd_at, sel_t, sel_f, initE_at, obj_upd_same, obj_upd_ne, obj_new_same, obj_new_ne, next_upd, next_new, add_plain, cop, bin, binInt, un, shiftInt, flat, read_cells, src_ro, src_fix, src_grow, get_cells, List.getElem?_cons_zero, List.getElem?_cons_succ, write_fix, write_grow, setAt, bound, eqK, elemOk_ro, elemOk_fix, elemOk_grow, stiff_ro, stiff_fix, goInt, resultsV, Option.map_some, Option.map_none, Option.bind_some, Option.bind_none, List.map_cons, List.map_nil, List.getD_cons_zero, List.getD_cons_succ, List.getD_nil, Nat.reduceEqDiff, Nat.reduceAdd, Nat.reduceMul, Nat.reduceSub, Nat.reduceLT, Nat.reduceLeDiff, Nat.reduceBEq, if_true, if_false, ite_true, ite_false, List.length_cons, List.length_nil, Nat.zero_add, Nat.add_zero, List.drop_zero, List.drop_succ_cons, List.take_succ_cons, List.take_zero, List.set_cons_zero, List.set_cons_succ, Int.reduceLT, Int.reduceLE, Bool.not_true, Bool.not_false, Option.isNone_some, Option.isNone_none, decide_true, decide_false, beq_self_eq_true, Bool.false_eq_true, Bool.true_eq_false, if_pos, if_neg, reduceCtorEq, beq_iff_eq, BEq.rfl, wrap_i64, wrap_i32, wrap_i8, wrap_u8, wrap_u32, wrap_u64, Nat.mul_one, Int.toNat_natCast, ints_len, List.length_map, List.length_set, beq_ft, beq_tf, List.all_cons, List.all_nil, scalar, Bool.and_self, Bool.true_and, Bool.and_true, List.size_toArray, List.getElem?_toArray, binStr]
    trivial
  · have a1 : decide (s.fr < 0) = false := by simp [h1]
    have a2 : decide ((key.size : Int) > 64) = true := by simp; omega
    simp (disch := omega) only [c9, ↓c9_r0_run, ↓c9_r1_c1_run, ↓c9_r1_run, ↓c9_r2_run, ↓c9_r3_run, ↓c9_r4_c1_run, ↓c9_r4_run, ↓c9_r5_run, ↓c9_r6_run, ↓c9_r7_run, ↓c9_r8_run, hp, a1, a2, ↓RunC_seq, ↓RunC_skip, ↓RunC_ret, ↓RunC_exit, ↓RunC_region, ↓RunC_condQ, condQ_true, condQ_false, ↓RunC_block, ↓RunR_done, ↓RunR_op, ↓RunR_opg, ↓RunR_snap, ↓RunR_chk, Holds, Option.getD_none, Option.getD_some, guardR_true, guardR_false, wantV_bool, wantV_none, callvQ_eq, afterR_some, ↓seqQ_normal, ↓seqQ_ret, ↓seqQ_exit, ↓blockQ_normal, ↓blockQ_ret, ↓blockQ_exit, ↓retQ_ret, ↓retQ_normal, ↓callQ_eq, ↓loopQ_normal, ↓loopQ_ret, ↓loopQ_exit, ↓upd_same, upd_at, sel_t, sel_f, initE_at, obj_upd_same, obj_upd_ne, obj_new_same, obj_new_ne, next_upd, next_new, add_plain, cop, bin, binInt, un, shiftInt, flat, read_cells, src_ro, src_fix, src_grow, get_cells, List.getElem?_cons_zero, List.getElem?_cons_succ, write_fix, write_grow, setAt, bound, eqK, elemOk_ro, elemOk_fix, elemOk_grow, stiff_ro, stiff_fix, goInt, resultsV, Option.map_some, Option.map_none, Option.bind_some, Option.bind_none, List.map_cons, List.map_nil, List.getD_cons_zero, List.getD_cons_succ, List.getD_nil, Nat.reduceEqDiff, Nat.reduceAdd, Nat.reduceMul, Nat.reduceSub, Nat.reduceLT, Nat.reduceLeDiff, Nat.reduceBEq, if_true, if_false, ite_true, ite_false, List.length_cons, List.length_nil, Nat.zero_add, Nat.add_zero, List.drop_zero, List.drop_succ_cons, List.take_succ_cons, List.take_zero, List.set_cons_zero, List.set_cons_succ, Int.reduceLT, Int.reduceLE, Bool.not_true, Bool.not_false, Option.isNone_some, Option.isNone_none, decide_true, decide_false, beq_self_eq_true, Bool.false_eq_true, Bool.true_eq_false, if_pos, if_neg, reduceCtorEq, beq_iff_eq, BEq.rfl, wrap_i64, wrap_i32, wrap_i8, wrap_u8, wrap_u32, wrap_u64, Nat.mul_one, Int.toNat_natCast, ints_len, List.length_map, List.length_set, beq_ft, beq_tf, List.all_cons, List.all_nil, scalar, Bool.and_self, Bool.true_and, Bool.and_true, List.size_toArray, List.getElem?_toArray, binStr]
    trivial

/-! ### a place is freed -/
def KS.free (s : KS) (k : Nat) : KS := { s with sz := s.sz.set k (-1), nx := s.nx.set k s.fr, fr := k, us := s.us - 1 }
theorem free_nil (h : Heap) (i : Int) (Q : Value → Heap → Prop) : CALL cp 13 [.pointer none, .int .i64 i] h Q ↔ Q (.tuple #[]) h := by
  refine CALL_det ?_ Q
  rw [CALL_enter cp cp13]
  simp (disch := omega) only [c13, ↓c13_r0_run, ↓c13_r1_c2_run, ↓c13_r1_c1_run, ↓c13_r1_run, ↓c13_r2_run, ↓c13_r3_run, has_nil, ↓RunC_seq, ↓RunC_skip, ↓RunC_ret, ↓RunC_exit, ↓RunC_region, ↓RunC_condQ, condQ_true, condQ_false, ↓RunC_block, ↓RunR_done, ↓RunR_op, ↓RunR_opg, ↓RunR_snap, ↓RunR_chk, Holds, Option.getD_none, Option.getD_some, guardR_true, guardR_false, wantV_bool, wantV_none, callvQ_eq, afterR_some, ↓seqQ_normal, ↓seqQ_ret, ↓seqQ_exit, ↓blockQ_normal, ↓blockQ_ret, ↓blockQ_exit, ↓retQ_ret, ↓retQ_normal, ↓callQ_eq, ↓loopQ_normal, ↓loopQ_ret, ↓loopQ_exit, ↓upd_same, upd_at, sel_t, sel_f, initE_at, obj_upd_same, obj_upd_ne, obj_new_same, obj_new_ne, next_upd, next_new, add_plain, cop, bin, binInt, un, shiftInt, flat, read_cells, src_ro, src_fix, src_grow, get_cells, List.getElem?_cons_zero, List.getElem?_cons_succ, write_fix, write_grow, setAt, bound, eqK, elemOk_ro, elemOk_fix, elemOk_grow, stiff_ro, stiff_fix, goInt, resultsV, Option.map_some, Option.map_none, Option.bind_some, Option.bind_none, List.map_cons, List.map_nil, List.getD_cons_zero, List.getD_cons_succ, List.getD_nil, Nat.reduceEqDiff, Nat.reduceAdd, Nat.reduceMul, Nat.reduceSub, Nat.reduceLT, Nat.reduceLeDiff, Nat.reduceBEq, if_true, if_false, ite_true, ite_false, List.length_cons, List.length_nil, Nat.zero_add, Nat.add_zero, List.drop_zero, List.drop_succ_cons, List.take_succ_cons, List.take_zero, List.set_cons_zero, List.set_cons_succ, Int.reduceLT, Int.reduceLE, Bool.not_true, Bool.not_false, Option.isNone_some, Option.isNone_none, decide_true, decide_false, beq_self_eq_true, Bool.false_eq_true, Bool.true_eq_false, if_pos, if_neg, reduceCtorEq, beq_iff_eq, BEq.rfl, wrap_i64, wrap_i32, wrap_i8, wrap_u8, wrap_u32, wrap_u64, Nat.mul_one, Int.toNat_natCast, ints_len, List.length_map, List.length_set, beq_ft, beq_tf, List.all_cons, List.all_nil, scalar, Bool.and_self, Bool.true_and, Bool.and_true, List.size_toArray, List.getElem?_toArray, binStr]
  first | trivial | exact ⟨rfl, trivial⟩
theorem free_no {h : Heap} {s : KS} (hs : s.At h) {i : Int} (hi : s.has i = false) (Q : Value → Heap → Prop) : CALL cp 13 [.pointer (some ⟨s.p, 0, none⟩), .int .i64 i] h Q ↔ Q (.tuple #[]) h := by
  refine CALL_det ?_ Q
  rw [CALL_enter cp cp13]
  have hh := has_ok hs i
  simp (disch := omega) only [c13, ↓c13_r0_run, ↓c13_r1_c2_run, ↓c13_r1_c1_run, ↓c13_r1_run, ↓c13_r2_run, ↓c13_r3_run, hh, hi, ↓RunC_seq, ↓RunC_skip, ↓RunC_ret, ↓RunC_exit, ↓RunC_region, ↓RunC_condQ, condQ_true, condQ_false, ↓RunC_block, ↓RunR_done, ↓RunR_op, ↓RunR_opg, ↓RunR_snap, ↓RunR_chk, Holds, Option.getD_none, Option.getD_some, guardR_true, guardR_false, wantV_bool, wantV_none, callvQ_eq, afterR_some, ↓seqQ_normal, ↓seqQ_ret, ↓seqQ_exit, ↓blockQ_normal, ↓blockQ_ret, ↓blockQ_exit, ↓retQ_ret, ↓retQ_normal, ↓callQ_eq, ↓loopQ_normal, ↓loopQ_ret, ↓loopQ_exit, ↓upd_same, upd_at, sel_t, sel_f, initE_at, obj_upd_same, obj_upd_ne, obj_new_same, obj_new_ne, next_upd, next_new, add_plain, cop, bin, binInt, un, shiftInt, flat, read_cells, src_ro, src_fix, src_grow, get_cells, List.getElem?_cons_zero, List.getElem?_cons_succ, write_fix, write_grow, setAt, bound, eqK, elemOk_ro, elemOk_fix, elemOk_grow, stiff_ro, stiff_fix, goInt, resultsV, Option.map_some, Option.map_none, Option.bind_some, Option.bind_none, List.map_cons, List.map_nil, List.getD_cons_zero, List.getD_cons_succ, List.getD_nil, Nat.reduceEqDiff, Nat.reduceAdd, Nat.reduceMul, Nat.reduceSub, Nat.reduceLT, Nat.reduceLeDiff, Nat.reduceBEq, if_true, if_false, ite_true, ite_false, List.length_cons, List.length_nil, Nat.zero_add, Nat.add_zero, List.drop_zero, List.drop_succ_cons, List.take_succ_cons, List.take_zero, List.set_cons_zero, List.set_cons_succ, Int.reduceLT, Int.reduceLE, Bool.not_true, Bool.not_false, Option.isNone_some, Option.isNone_none, decide_true, decide_false, beq_self_eq_true, Bool.false_eq_true, Bool.true_eq_false, if_pos, if_neg, reduceCtorEq, beq_iff_eq, BEq.rfl, wrap_i64, wrap_i32, wrap_i8, wrap_u8, wrap_u32, wrap_u64, Nat.mul_one, Int.toNat_natCast, ints_len, List.length_map, List.length_set, beq_ft, beq_tf, List.all_cons, List.all_nil, scalar, Bool.and_self, Bool.true_and, Bool.and_true, List.size_toArray, List.getElem?_toArray, binStr]
  first | trivial | exact ⟨rfl, trivial⟩
theorem free_ok {h : Heap} {s : KS} (hs : s.At h) {k z : Nat} (hk : k < s.n) (hz : s.sz[k]? = some (z : Int)) (hu : 0 < s.us) (hu2 : s.us ≤ s.n) {Q : Value → Heap → Prop}
    (hQ : ∀ h', (s.free k).At h' → Kept h h' s.own → Q (.tuple #[]) h') :
    CALL cp 13 [.pointer (some ⟨s.p, 0, none⟩), .int .i64 k] h Q := by
  rw [CALL_enter cp cp13]
  have hh := has_ok hs k
  have hi : s.has k = true := by unfold KS.has; simp [hk, List.getD_eq_getElem?_getD, hz]
  obtain ⟨p, bb, bs, bn, n, by_, sz, nx, fr, us⟩ := s
  obtain ⟨hp, hb, hs, hn, lb, ls, ln, d1, d2, d3, d4, d5, d6, nn⟩ := hs
  simp only at *
  have w1 : IntKind.i32.wrap k = k := by rw [wrap_i32] <;> omega
  simp (disch := omega) only [c13, ↓c13_r0_run, ↓c13_r1_c2_run, ↓c13_r1_c1_run, ↓c13_r1_run, ↓c13_r2_run, ↓c13_r3_run, hh, hi, hp, hb, hs, hn, w1, ints_set, ↓RunC_seq, ↓RunC_skip, ↓RunC_ret, ↓RunC_exit, ↓RunC_region, ↓RunC_condQ, condQ_true, condQ_false, ↓RunC_block, ↓RunR_done, ↓RunR_op, ↓RunR_opg, ↓RunR_snap, ↓RunR_chk, Holds, Option.getD_none, Option.getD_some, guardR_true, guardR_false, wantV_bool, wantV_none, callvQ_eq, afterR_some, ↓seqQ_normal, ↓seqQ_ret, ↓seqQ_exit, ↓blockQ_normal, ↓blockQ_ret, ↓blockQ_exit, ↓retQ_ret, ↓retQ_normal, ↓callQ_eq, ↓loopQ_normal, ↓loopQ_ret, ↓loopQ_exit, ↓upd_same, upd_at, sel_t, sel_f, initE_at, obj_upd_same, obj_upd_ne, obj_new_same, obj_new_ne, next_upd, next_new, add_plain, cop, bin, binInt, un, shiftInt, flat, read_cells, src_ro, src_fix, src_grow, get_cells, List.getElem?_cons_zero, List.getElem?_cons_succ, write_fix, write_grow, setAt, bound, eqK, elemOk_ro, elemOk_fix, elemOk_grow, stiff_ro, stiff_fix, goInt, resultsV, Option.map_some, Option.map_none, Option.bind_some, Option.bind_none, List.map_cons, List.map_nil, List.getD_cons_zero, List.getD_cons_succ, List.getD_nil, Nat.reduceEqDiff, Nat.reduceAdd, Nat.reduceMul, Nat.reduceSub, Nat.reduceLT, Nat.reduceLeDiff, Nat.reduceBEq, if_true, if_false, ite_true, ite_false, List.length_cons, List.length_nil, Nat.zero_add, Nat.add_zero, List.drop_zero, List.drop_succ_cons, List.take_succ_cons, List.take_zero, List.set_cons_zero, List.set_cons_succ, Int.reduceLT, Int.reduceLE, Bool.not_true, Bool.not_false, Option.isNone_some, Option.isNone_none, decide_true, decide_false, beq_self_eq_true, Bool.false_eq_true, Bool.true_eq_false, if_pos, if_neg, reduceCtorEq, beq_iff_eq, BEq.rfl, wrap_i64, wrap_i32, wrap_i8, wrap_u8, wrap_u32, wrap_u64, Nat.mul_one, Int.toNat_natCast, ints_len, List.length_map, List.length_set, beq_ft, beq_tf, List.all_cons, List.all_nil, scalar, Bool.and_self, Bool.true_and, Bool.and_true, List.size_toArray, List.getElem?_toArray, binStr]
  have d1' := d1.symm; have d2' := d2.symm; have d3' := d3.symm; have d4' := d4.symm; have d5' := d5.symm; have d6' := d6.symm
  refine hQ _ ⟨?_, ?_, ?_, ?_, ?_, ?_, ?_, d1, d2, d3, d4, d5, d6, nn⟩ ⟨rfl, fun b hb => ?_⟩
  · simp [Heap.upd, KS.free]
  · simp [Heap.upd, KS.free, d1', d4, d5, hb]
  · simp [Heap.upd, KS.free, d2', d6]
  · simp [Heap.upd, KS.free, d3']
  · simp [KS.free, lb]
  · simp [KS.free, ls]
  · simp [KS.free, ln]
  · simp only [KS.own, List.mem_cons, List.not_mem_nil, or_false, not_or] at hb
    simp [Heap.upd, hb]

/-! ### a new store -/
def nxs (n : Nat) : List Int := (List.range n).map fun i => if i + 1 = n then -1 else (i : Int) + 1
/-- A store being made: of n places d are still to be freed. -/
def KS.stage (b n d : Nat) : KS := ⟨b + 3, b, b + 1, b + 2, n, List.replicate (n * 64) 0, List.replicate d 0 ++ List.replicate (n - d) (-1), List.replicate d 0 ++ (nxs n).drop d, if d = n then -1 else d, 0⟩
theorem nxs_len (n : Nat) : (nxs n).length = n := by simp [nxs]
theorem nxs_drop {n d : Nat} (h : d < n) : (nxs n).drop d = (if d + 1 = n then -1 else (d : Int) + 1) :: (nxs n).drop (d + 1) := by
  have hd : d < (nxs n).length := by rw [nxs_len]; exact h
  rw [List.drop_eq_getElem_cons hd]
  simp [nxs]
theorem set_rep {α : Type} (d : Nat) (x y : α) (l : List α) : (List.replicate (d + 1) x ++ l).set d y = List.replicate d x ++ y :: l := by
  rw [List.replicate_succ', List.append_assoc, List.set_append_right _ _ (by simp)]
  simp
theorem reps_byte : ∀ (n : Nat), reps n [.int .u8 0] = byteVals (List.replicate n 0)
  | 0 => rfl
  | n + 1 => by simp only [reps, reps_byte n]; rfl
theorem reps_int (k : IntKind) : ∀ (n : Nat), reps n [.int k 0] = ints k (List.replicate n 0)
  | 0 => rfl
  | n + 1 => by simp only [reps, reps_int k n]; rfl

theorem new_none (h : Heap) (n : Int) (hn : n < 0 ∨ 65536 < n) (Q : Value → Heap → Prop) : CALL cp 8 [.int .i64 n] h Q ↔ Q (.pointer none) h := by
  refine CALL_det ?_ Q
  rw [CALL_enter cp cp8]
  by_cases h1 : n < 0
  · have a1 : decide (n < 0) = true := by simp [h1]
    simp (disch := omega) only [c8, ↓c8_r0_run, ↓c8_r1_run, ↓c8_r2_run, ↓c8_r3_run, ↓c8_r4_run, ↓c8_r5_run, ↓c8_r7_c2_run, ↓c8_r7_c1_run, ↓c8_r7_run, ↓c8_r8_run, ↓c8_r6_run, ↓c8_r9_run, a1, ↓RunC_seq, ↓RunC_skip, ↓RunC_ret, ↓RunC_exit, ↓RunC_region, ↓RunC_condQ, condQ_true, condQ_false, ↓RunC_block, ↓RunR_done, ↓RunR_op, ↓RunR_opg, ↓RunR_snap, ↓RunR_chk, Holds, Option.getD_none, Option.getD_some, guardR_true, guardR_false, wantV_bool, wantV_none, callvQ_eq, afterR_some, ↓seqQ_normal, ↓seqQ_ret, ↓seqQ_exit, ↓blockQ_normal, ↓blockQ_ret, ↓blockQ_exit, ↓retQ_ret, ↓retQ_normal, ↓callQ_eq, ↓loopQ_normal, ↓loopQ_ret, ↓loopQ_exit, ↓upd_same, upd_at, sel_t, sel_f, initE_at, obj_upd_same, obj_upd_ne, obj_new_same, obj_new_ne, next_upd, next_new, add_plain, cop, bin, binInt, un, shiftInt, flat, read_cells, src_ro, src_fix, src_grow, get_cells, List.getElem?_cons_zero, List.getElem?_cons_succ, write_fix, write_grow, setAt, bound, eqK, elemOk_ro, elemOk_fix, elemOk_grow, stiff_ro, stiff_fix, goInt, resultsV, Option.map_some, Option.map_none, Option.bind_some, Option.bind_none, List.map_cons, List.map_nil, List.getD_cons_zero, List.getD_cons_succ, List.getD_nil, Nat.reduceEqDiff, Nat.reduceAdd, Nat.reduceMul, Nat.reduceSub, Nat.reduceLT, Nat.reduceLeDiff, Nat.reduceBEq, if_true, if_false, ite_true, ite_false, List.length_cons, List.length_nil, Nat.zero_add, Nat.add_zero, List.drop_zero, List.drop_succ_cons, List.take_succ_cons, List.take_zero, List.set_cons_zero, List.set_cons_succ, Int.reduceLT, Int.reduceLE, Bool.not_true, Bool.not_false, Option.isNone_some, Option.isNone_none, decide_true, decide_false, beq_self_eq_true, Bool.false_eq_true, Bool.true_eq_false, if_pos, if_neg, reduceCtorEq, beq_iff_eq, BEq.rfl, wrap_i64, wrap_i32, wrap_i8, wrap_u8, wrap_u32, wrap_u64, Nat.mul_one, Int.toNat_natCast, ints_len, List.length_map, List.length_set, beq_ft, beq_tf, List.all_cons, List.all_nil, scalar, Bool.and_self, Bool.true_and, Bool.and_true, List.size_toArray, List.getElem?_toArray, binStr]
    first | trivial | exact ⟨rfl, trivial⟩
  · have a1 : decide (n < 0) = false := by simp [h1]
    have a2 : decide (n > 65536) = true := by simp; omega
    simp (disch := omega) only [c8, ↓c8_r0_run, ↓c8_r1_run, ↓c8_r2_run, ↓c8_r3_run, ↓c8_r4_run, ↓c8_r5_run, ↓c8_r7_c2_run, ↓c8_r7_c1_run, ↓c8_r7_run, ↓c8_r8_run, ↓c8_r6_run, ↓c8_r9_run, a1, a2, ↓RunC_seq, ↓RunC_skip, ↓RunC_ret, ↓RunC_exit, ↓RunC_region, ↓RunC_condQ, condQ_true, condQ_false, ↓RunC_block, ↓RunR_done, ↓RunR_op, ↓RunR_opg, ↓RunR_snap, ↓RunR_chk, Holds, Option.getD_none, Option.getD_some, guardR_true, guardR_false, wantV_bool, wantV_none, callvQ_eq, afterR_some, ↓seqQ_normal, ↓seqQ_ret, ↓seqQ_exit, ↓blockQ_normal, ↓blockQ_ret, ↓blockQ_exit, ↓retQ_ret, ↓retQ_normal, ↓callQ_eq, ↓loopQ_normal, ↓loopQ_ret, ↓loopQ_exit, ↓upd_same, upd_at, sel_t, sel_f, initE_at, obj_upd_same, obj_upd_ne, obj_new_same, obj_new_ne, next_upd, next_new, add_plain, cop, bin, binInt, un, shiftInt, flat, read_cells, src_ro, src_fix, src_grow, get_cells, List.getElem?_cons_zero, List.getElem?_cons_succ, write_fix, write_grow, setAt, bound, eqK, elemOk_ro, elemOk_fix, elemOk_grow, stiff_ro, stiff_fix, goInt, resultsV, Option.map_some, Option.map_none, Option.bind_some, Option.bind_none, List.map_cons, List.map_nil, List.getD_cons_zero, List.getD_cons_succ, List.getD_nil, Nat.reduceEqDiff, Nat.reduceAdd, Nat.reduceMul, Nat.reduceSub, Nat.reduceLT, Nat.reduceLeDiff, Nat.reduceBEq, if_true, if_false, ite_true, ite_false, List.length_cons, List.length_nil, Nat.zero_add, Nat.add_zero, List.drop_zero, List.drop_succ_cons, List.take_succ_cons, List.take_zero, List.set_cons_zero, List.set_cons_succ, Int.reduceLT, Int.reduceLE, Bool.not_true, Bool.not_false, Option.isNone_some, Option.isNone_none, decide_true, decide_false, beq_self_eq_true, Bool.false_eq_true, Bool.true_eq_false, if_pos, if_neg, reduceCtorEq, beq_iff_eq, BEq.rfl, wrap_i64, wrap_i32, wrap_i8, wrap_u8, wrap_u32, wrap_u64, Nat.mul_one, Int.toNat_natCast, ints_len, List.length_map, List.length_set, beq_ft, beq_tf, List.all_cons, List.all_nil, scalar, Bool.and_self, Bool.true_and, Bool.and_true, List.size_toArray, List.getElem?_toArray, binStr]
    first | trivial | exact ⟨rfl, trivial⟩

theorem new_ok (h : Heap) (n : Nat) (hn : n ≤ 65536) {Q : Value → Heap → Prop}
    (hQ : ∀ h', (KS.stage h.next n 0).At h' → h'.next = h.next + 4 → (∀ b, b < h.next → h'.obj b = h.obj b) → Q (.pointer (some ⟨h.next + 3, 0, none⟩)) h') :
    CALL cp 8 [.int .i64 n] h Q := by
  rw [CALL_enter cp cp8]
  have a1 : decide ((n : Int) < 0) = false := by simp
  have a2 : decide ((n : Int) > 65536) = false := by simp; omega
  have w1 : IntKind.i64.wrap (n * 64) = ((n * 64 : Nat) : Int) := by rw [wrap_i64] <;> omega
  simp (disch := omega) only [c8, ↓c8_r0_run, ↓c8_r1_run, ↓c8_r2_run, ↓c8_r3_run, ↓c8_r4_run, ↓c8_r5_run, ↓c8_r7_c2_run, ↓c8_r7_c1_run, ↓c8_r7_run, ↓c8_r8_run, ↓c8_r6_run, ↓c8_r9_run, a1, a2, w1, and_true, true_and, reps_byte, reps_int .i8, reps_int .i32, fillIn, ↓RunC_seq, ↓RunC_skip, ↓RunC_ret, ↓RunC_exit, ↓RunC_region, ↓RunC_condQ, condQ_true, condQ_false, ↓RunC_block, ↓RunR_done, ↓RunR_op, ↓RunR_opg, ↓RunR_snap, ↓RunR_chk, Holds, Option.getD_none, Option.getD_some, guardR_true, guardR_false, wantV_bool, wantV_none, callvQ_eq, afterR_some, ↓seqQ_normal, ↓seqQ_ret, ↓seqQ_exit, ↓blockQ_normal, ↓blockQ_ret, ↓blockQ_exit, ↓retQ_ret, ↓retQ_normal, ↓callQ_eq, ↓loopQ_normal, ↓loopQ_ret, ↓loopQ_exit, ↓upd_same, upd_at, sel_t, sel_f, initE_at, obj_upd_same, obj_upd_ne, obj_new_same, obj_new_ne, next_upd, next_new, add_plain, cop, bin, binInt, un, shiftInt, flat, read_cells, src_ro, src_fix, src_grow, get_cells, List.getElem?_cons_zero, List.getElem?_cons_succ, write_fix, write_grow, setAt, bound, eqK, elemOk_ro, elemOk_fix, elemOk_grow, stiff_ro, stiff_fix, goInt, resultsV, Option.map_some, Option.map_none, Option.bind_some, Option.bind_none, List.map_cons, List.map_nil, List.getD_cons_zero, List.getD_cons_succ, List.getD_nil, Nat.reduceEqDiff, Nat.reduceAdd, Nat.reduceMul, Nat.reduceSub, Nat.reduceLT, Nat.reduceLeDiff, Nat.reduceBEq, if_true, if_false, ite_true, ite_false, List.length_cons, List.length_nil, Nat.zero_add, Nat.add_zero, List.drop_zero, List.drop_succ_cons, List.take_succ_cons, List.take_zero, List.set_cons_zero, List.set_cons_succ, Int.reduceLT, Int.reduceLE, Bool.not_true, Bool.not_false, Option.isNone_some, Option.isNone_none, decide_true, decide_false, beq_self_eq_true, Bool.false_eq_true, Bool.true_eq_false, if_pos, if_neg, reduceCtorEq, beq_iff_eq, BEq.rfl, wrap_i64, wrap_i32, wrap_i8, wrap_u8, wrap_u32, wrap_u64, Nat.mul_one, Int.toNat_natCast, ints_len, List.length_map, List.length_set, beq_ft, beq_tf, List.all_cons, List.all_nil, scalar, Bool.and_self, Bool.true_and, Bool.and_true, List.size_toArray, List.getElem?_toArray, binStr]
  refine RunC_loop cp c8_l0 _ (fun d e hh => e 3 = .pointer (some ⟨h.next + 3, 0, none⟩) ∧ e 4 = .int .i64 ((d : Int) - 1) ∧ d ≤ n ∧ (KS.stage h.next n d).At hh ∧ hh.next = h.next + 4 ∧ ∀ b, b < h.next → hh.obj b = h.obj b) ?_ n _ _ ?_
  · rintro d e hh ⟨e3, e4, hd, hAt, hnx, hold⟩
    cases d with
    | zero =>
      have b1 : decide (((0 : Nat) : Int) - 1 ≥ 0) = false := by decide
      simp (disch := omega) only [c8_l0, c8, ↓c8_r0_run, ↓c8_r1_run, ↓c8_r2_run, ↓c8_r3_run, ↓c8_r4_run, ↓c8_r5_run, ↓c8_r7_c2_run, ↓c8_r7_c1_run, ↓c8_r7_run, ↓c8_r8_run, ↓c8_r6_run, ↓c8_r9_run, e3, e4, b1, ↓RunC_seq, ↓RunC_skip, ↓RunC_ret, ↓RunC_exit, ↓RunC_region, ↓RunC_condQ, condQ_true, condQ_false, ↓RunC_block, ↓RunR_done, ↓RunR_op, ↓RunR_opg, ↓RunR_snap, ↓RunR_chk, Holds, Option.getD_none, Option.getD_some, guardR_true, guardR_false, wantV_bool, wantV_none, callvQ_eq, afterR_some, ↓seqQ_normal, ↓seqQ_ret, ↓seqQ_exit, ↓blockQ_normal, ↓blockQ_ret, ↓blockQ_exit, ↓retQ_ret, ↓retQ_normal, ↓callQ_eq, ↓loopQ_normal, ↓loopQ_ret, ↓loopQ_exit, ↓upd_same, upd_at, sel_t, sel_f, initE_at, obj_upd_same, obj_upd_ne, obj_new_same, obj_new_ne, next_upd, next_new, add_plain, cop, bin, binInt, un, shiftInt, flat, read_cells, src_ro, src_fix, src_grow, get_cells, List.getElem?_cons_zero, List.getElem?_cons_succ, write_fix, write_grow, setAt, bound, eqK, elemOk_ro, elemOk_fix, elemOk_grow, stiff_ro, stiff_fix, goInt, resultsV, Option.map_some, Option.map_none, Option.bind_some, Option.bind_none, List.map_cons, List.map_nil, List.getD_cons_zero, List.getD_cons_succ, List.getD_nil, Nat.reduceEqDiff, Nat.reduceAdd, Nat.reduceMul, Nat.reduceSub, Nat.reduceLT, Nat.reduceLeDiff, Nat.reduceBEq, if_true, if_false, ite_true, ite_false, List.length_cons, List.length_nil, Nat.zero_add, Nat.add_zero, List.drop_zero, List.drop_succ_cons, List.take_succ_cons, List.take_zero, List.set_cons_zero, List.set_cons_succ, Int.reduceLT, Int.reduceLE, Bool.not_true, Bool.not_false, Option.isNone_some, Option.isNone_none, decide_true, decide_false, beq_self_eq_true, Bool.false_eq_true, Bool.true_eq_false, if_pos, if_neg, reduceCtorEq, beq_iff_eq, BEq.rfl, wrap_i64, wrap_i32, wrap_i8, wrap_u8, wrap_u32, wrap_u64, Nat.mul_one, Int.toNat_natCast, ints_len, List.length_map, List.length_set, beq_ft, beq_tf, List.all_cons, List.all_nil, scalar, Bool.and_self, Bool.true_and, Bool.and_true, List.size_toArray, List.getElem?_toArray, binStr]
      exact hQ hh hAt hnx hold
    | succ d =>
      have b1 : decide (((d + 1 : Nat) : Int) - 1 ≥ 0) = true := by simp
      have b2 : ((d + 1 : Nat) : Int) - 1 = (d : Int) := by omega
      have w2 : IntKind.i32.wrap (d : Int) = d := by rw [wrap_i32] <;> omega
      obtain ⟨hp, hb, hs, hn', lb, ls, ln, d1, d2, d3, d4, d5, d6, nn⟩ := hAt
      rw [b2] at e4 b1
      simp only [KS.stage] at hp hb hs hn' lb ls ln d1 d2 d3 d4 d5 d6
      simp (disch := omega) only [c8_l0, c8, ↓c8_r0_run, ↓c8_r1_run, ↓c8_r2_run, ↓c8_r3_run, ↓c8_r4_run, ↓c8_r5_run, ↓c8_r7_c2_run, ↓c8_r7_c1_run, ↓c8_r7_run, ↓c8_r8_run, ↓c8_r6_run, ↓c8_r9_run, e3, e4, b1, hp, hb, hs, hn', ls, ln, w2, ints_set, set_rep, ↓RunC_seq, ↓RunC_skip, ↓RunC_ret, ↓RunC_exit, ↓RunC_region, ↓RunC_condQ, condQ_true, condQ_false, ↓RunC_block, ↓RunR_done, ↓RunR_op, ↓RunR_opg, ↓RunR_snap, ↓RunR_chk, Holds, Option.getD_none, Option.getD_some, guardR_true, guardR_false, wantV_bool, wantV_none, callvQ_eq, afterR_some, ↓seqQ_normal, ↓seqQ_ret, ↓seqQ_exit, ↓blockQ_normal, ↓blockQ_ret, ↓blockQ_exit, ↓retQ_ret, ↓retQ_normal, ↓callQ_eq, ↓loopQ_normal, ↓loopQ_ret, ↓loopQ_exit, ↓upd_same, upd_at, sel_t, sel_f, initE_at, obj_upd_same, obj_upd_ne, obj_new_same, obj_new_ne, next_upd, next_new, add_plain, cop, bin, binInt, un, shiftInt, flat, read_cells, src_ro, src_fix, src_grow, get_cells, List.getElem?_cons_zero, List.getElem?_cons_succ, write_fix, write_grow, setAt, bound, eqK, elemOk_ro, elemOk_fix, elemOk_grow, stiff_ro, stiff_fix, goInt, resultsV, Option.map_some, Option.map_none, Option.bind_some, Option.bind_none, List.map_cons, List.map_nil, List.getD_cons_zero, List.getD_cons_succ, List.getD_nil, Nat.reduceEqDiff, Nat.reduceAdd, Nat.reduceMul, Nat.reduceSub, Nat.reduceLT, Nat.reduceLeDiff, Nat.reduceBEq, if_true, if_false, ite_true, ite_false, List.length_cons, List.length_nil, Nat.zero_add, Nat.add_zero, List.drop_zero, List.drop_succ_cons, List.take_succ_cons, List.take_zero, List.set_cons_zero, List.set_cons_succ, Int.reduceLT, Int.reduceLE, Bool.not_true, Bool.not_false, Option.isNone_some, Option.isNone_none, decide_true, decide_false, beq_self_eq_true, Bool.false_eq_true, Bool.true_eq_false, if_pos, if_neg, reduceCtorEq, beq_iff_eq, BEq.rfl, wrap_i64, wrap_i32, wrap_i8, wrap_u8, wrap_u32, wrap_u64, Nat.mul_one, Int.toNat_natCast, ints_len, List.length_map, List.length_set, beq_ft, beq_tf, List.all_cons, List.all_nil, scalar, Bool.and_self, Bool.true_and, Bool.and_true, List.size_toArray, List.getElem?_toArray, binStr]
      have hdn : d ≠ n := by omega
      have r1 : -1 :: List.replicate (n - (d + 1)) (-1 : Int) = List.replicate (n - d) (-1) := by
        rw [show n - d = (n - (d + 1)) + 1 by omega, List.replicate_succ]
      have r2 : (if d + 1 = n then (-1 : Int) else ((d + 1 : Nat) : Int)) :: (nxs n).drop (d + 1) = (nxs n).drop d := by
        rw [nxs_drop (n := n) (d := d) (by omega)]; rfl
      rw [r1, r2]
      refine ⟨d, by omega, trivial, rfl, by omega, ⟨?_, ?_, ?_, ?_, ?_, ?_, ?_, d1, d2, d3, d4, d5, d6, nn⟩, hnx, fun b hb => ?_⟩
      · simp [Heap.upd, KS.stage, hdn]
      · simp [Heap.upd, KS.stage, hb]
      · simp [Heap.upd, KS.stage]
      · simp [Heap.upd, KS.stage]
      · simp [KS.stage]
      · simp [KS.stage]; omega
      · simp [KS.stage, nxs_len]; omega
      · have h1 : b ≠ h.next + 1 := by omega
        have h2 : b ≠ h.next + 2 := by omega
        have h3 : b ≠ h.next + 3 := by omega
        simp [Heap.upd, h1, h2, h3, hold b hb]
  · refine ⟨rfl, rfl, Nat.le_refl _, ⟨?_, ?_, ?_, ?_, ?_, ?_, ?_, ?_, ?_, ?_, ?_, ?_, ?_, hn⟩, rfl, fun b hb => ?_⟩
    · simp [Heap.new, KS.stage]
    · simp only [Heap.new, KS.stage]
      rw [if_neg (by omega), if_neg (by omega), if_neg (by omega), if_pos trivial]
    · simp [Heap.new, KS.stage]
    · simp [Heap.new, KS.stage, List.drop_eq_nil_of_le (Nat.le_of_eq (nxs_len n))]
    · simp [KS.stage]
    · simp [KS.stage]
    · simp [KS.stage, nxs_len]
    · simp [KS.stage]
    · simp [KS.stage]
    · simp [KS.stage]
    · simp [KS.stage]
    · simp [KS.stage]
    · simp [KS.stage]
    · have h0 : b ≠ h.next := by omega
      have h1 : b ≠ h.next + 1 := by omega
      have h2 : b ≠ h.next + 1 + 1 := by omega
      have h3 : b ≠ h.next + 1 + 1 + 1 := by omega
      simp [Heap.new, h0, h1, h2, h3]
end Go.Proofs.Yticompilonkfgaa.Can
