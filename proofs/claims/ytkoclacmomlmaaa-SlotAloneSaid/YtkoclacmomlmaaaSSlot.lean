/- Slots, in the canonical machine. No condition. -/
import Derived.Test.YtkoclacmomlmaaaSRows
namespace Go.Proofs.Ytkoclacmomlmaaa.Can
open Go
set_option linter.unusedSimpArgs false
set_option linter.unusedVariables false
attribute [local congr] RunR_congr RunC_congr afterR_congr guardR_congr condQ_congr CALL_congr finQ_congr op_congr opg_congr

theorem mm_min (x y : Int) (h : Heap) : cop (.minmax false [.int .i64 x, .int .i64 y]) h = some (.int .i64 (min x y), h) := by
  show (some (Value.int .i64 (if y < x then y else x))).map (fun v => (v, h)) = _
  rw [if_min]; rfl
theorem mm_max (x y : Int) (h : Heap) : cop (.minmax true [.int .i64 x, .int .i64 y]) h = some (.int .i64 (max x y), h) := by
  show (some (Value.int .i64 (if y > x then y else x))).map (fun v => (v, h)) = _
  rw [if_max]; rfl
theorem reps_int (n : Nat) (k : IntKind) : reps n [.int k 0] = ints k (List.replicate n 0) := by
  induction n with
  | zero => rfl
  | succ n ih => rw [List.replicate_succ]; show [Value.int k 0] ++ reps n [.int k 0] = _; rw [ih]; rfl
theorem setAt_one (c : List Value) (o : Nat) (v : Value) : setAt c o [v] = c.set o v := rfl
/-- What was there is as it was, but for one object. -/
structure OldX (X : Nat) (h h' : Heap) : Prop where
  next : h.next ≤ h'.next
  obj : ∀ b, b < h.next → b ≠ X → h'.obj b = h.obj b
theorem Old.x {h h' : Heap} (o : Old h h') (X : Nat) : OldX X h h' := ⟨o.next, fun b hb _ => o.obj b hb⟩
theorem OldX.refl (X : Nat) (h : Heap) : OldX X h h := ⟨Nat.le_refl _, fun _ _ _ => rfl⟩
theorem OldX.trans {X : Nat} {a b c : Heap} (h : OldX X a b) (k : OldX X b c) : OldX X a c := ⟨Nat.le_trans h.next k.next, fun x hx hn => by rw [k.obj x (Nat.lt_of_lt_of_le hx h.next) hn, h.obj x hx hn]⟩
theorem OldX.fresh {X : Nat} {a b : Heap} (h : OldX X a b) (hX : a.next ≤ X) : Old a b := ⟨h.next, fun x hx => h.obj x hx (by omega)⟩

/-- The i-th counter. -/
def ctr (c : List Int) (i : Nat) : Int := c[i]?.getD 0
def ix (rows : List RowT) (w : Nat) (key : ByteArray) (r : Nat) : Nat := r * w + bkt (rows[r]?.getD (0, 0, 0)) key w
def leastN (c : List Int) (f : Nat → Nat) : Nat → Int
  | 0 => ctr c (f 0)
  | k + 1 => min (leastN c f k) (ctr c (f (k + 1)))
def addN (c : List Int) (f : Nat → Nat) (want : Int) : Nat → List Int
  | 0 => c
  | k + 1 => (addN c f want k).set (f k) (max (ctr (addN c f want k) (f k)) want)
theorem addN_len (c : List Int) (f : Nat → Nat) (want : Int) : ∀ k, (addN c f want k).length = c.length
  | 0 => rfl
  | k + 1 => by simp only [addN, List.length_set, addN_len c f want k]
theorem mul_lt_succ {r R w b : Nat} (hr : r < R) (hb : b < w) : r * w + b < R * w := by
  have h1 : (r + 1) * w ≤ R * w := Nat.mul_le_mul_right w hr
  rw [Nat.add_mul, Nat.one_mul] at h1; omega
structure SlotAt (h : Heap) (p nb : Nat) (rv : Value) (rb : Nat) (rows : List RowT) (w : Nat) (c : List Int) : Prop where
  op : h.obj p = .cells [rv, .int .i64 w, .slice (some ⟨nb, 0, none⟩) (rows.length * w) (rows.length * w)] 60 .fix
  lp : p < h.next
  on : h.obj nb = .cells (ints .i64 c) 2 .grow
  ln : nb < h.next
  pn : p ≠ nb
  v : Vec h 36 RowE rv rows rb
  rn : rb ≠ nb
  hr : 1 ≤ rows.length ∧ rows.length ≤ 8
  hw : 1 ≤ w ∧ w ≤ 4096
  len : c.length = rows.length * w
  ok : ∀ r ∈ rows, r.OK
  c64 : ∀ x ∈ c, I64 x
section
variable {h h' : Heap} {p nb rb w : Nat} {rv : Value} {rows : List RowT} {c : List Int}
theorem SlotAt.oldx (S : SlotAt h p nb rv rb rows w c) {X : Nat} (o : OldX X h h') (hp : p ≠ X) (hn : nb ≠ X) (hb : rb ≠ X) : SlotAt h' p nb rv rb rows w c where
  op := (o.obj p S.lp hp).trans S.op
  lp := Nat.lt_of_lt_of_le S.lp o.next
  on := (o.obj nb S.ln hn).trans S.on
  ln := Nat.lt_of_lt_of_le S.ln o.next
  pn := S.pn
  v := S.v.keep o.next fun hl => o.obj rb hl hb
  rn := S.rn
  hr := S.hr
  hw := S.hw
  len := S.len
  ok := S.ok
  c64 := S.c64
theorem SlotAt.old (S : SlotAt h p nb rv rb rows w c) (o : Old h h') : SlotAt h' p nb rv rb rows w c where
  op := (o.obj p S.lp).trans S.op
  lp := Nat.lt_of_lt_of_le S.lp o.next
  on := (o.obj nb S.ln).trans S.on
  ln := Nat.lt_of_lt_of_le S.ln o.next
  pn := S.pn
  v := S.v.keep o.next fun hl => o.obj rb hl
  rn := S.rn
  hr := S.hr
  hw := S.hw
  len := S.len
  ok := S.ok
  c64 := S.c64
/-- Its counters are others. -/
theorem SlotAt.put (S : SlotAt h p nb rv rb rows w c) {d : List Int} (hd : d.length = c.length) (d64 : ∀ x ∈ d, I64 x) : SlotAt (h.upd nb (.cells (ints .i64 d) 2 .grow)) p nb rv rb rows w d where
  op := (obj_upd_ne _ _ S.pn).trans S.op
  lp := S.lp
  on := obj_upd_same _ _ _
  ln := S.ln
  pn := S.pn
  v := S.v.keep (Nat.le_refl _) fun hl => obj_upd_ne _ _ S.rn
  rn := S.rn
  hr := S.hr
  hw := S.hw
  len := hd.trans S.len
  ok := S.ok
  c64 := d64
theorem SlotAt.ix_lt (S : SlotAt h p nb rv rb rows w c) (key : ByteArray) {r : Nat} (hr : r < rows.length) : ix rows w key r < rows.length * w := mul_lt_succ hr (bkt_lt _ key S.hw.1)
theorem SlotAt.rw_le (S : SlotAt h p nb rv rb rows w c) : rows.length * w ≤ 32768 := Nat.mul_le_mul S.hr.2 S.hw.2
theorem SlotAt.get (S : SlotAt h p nb rv rb rows w c) {i : Nat} (hi : i < rows.length * w) : c[i]? = some (ctr c i) ∧ I64 (ctr c i) := by
  have h1 : c[i]? = some (c[i]'(by rw [S.len]; exact hi)) := List.getElem?_eq_getElem _
  unfold ctr
  rw [h1]
  exact ⟨rfl, S.c64 _ (List.mem_of_getElem? h1)⟩
end
theorem set64 {c : List Int} {i : Nat} {x : Int} (h : ∀ y ∈ c, I64 y) (hx : I64 x) : ∀ y ∈ c.set i x, I64 y := fun y hy => by
  rcases List.mem_or_eq_of_mem_set hy with hy | rfl
  · exact h y hy
  · exact hx
theorem new_ok (h : Heap) (rv : Value) (rb : Nat) (rows : List RowT) (w : Nat) (V : Vec h 36 RowE rv rows rb) (ok : ∀ r ∈ rows, r.OK) (hr : 1 ≤ rows.length ∧ rows.length ≤ 8) (hw : 1 ≤ w ∧ w ≤ 4096) {Q : Value → Heap → Prop}
    (hQ : ∀ h' p nb, Old h h' → SlotAt h' p nb rv rb rows w (List.replicate (rows.length * w) 0) → h.next ≤ p → h.next ≤ nb → Q (.pointer (some ⟨p, 0, none⟩)) h') :
    CALL cp 12 [rv, .int .i64 w] h Q := by
  rw [CALL_enter cp cp12]
  obtain ⟨a, cap, e, hc⟩ := V.val
  have hmul : rows.length * w ≤ 32768 := Nat.mul_le_mul hr.2 hw.2
  have a1 : ((rows.length : Int) == 0) = false := beq_eq_false_iff_ne.2 (by omega)
  have a2 : decide ((w : Int) < 1) = false := decide_eq_false (by omega)
  have k1 : (rows.length : Int) * (w : Int) = ((rows.length * w : Nat) : Int) := by rw [Int.natCast_mul]
  have k2 : (((rows.length * w : Nat) : Int)).toNat = rows.length * w := Int.toNat_natCast _
  have z0 : ¬ ((rows.length * w : Nat) : Int) < 0 := by omega
  subst e
  simp (disch := omega) only [c12, ↓c12_r0_run, ↓c12_r1_run, ↓c12_r2_run, ↓c12_r3_run, a1, a2, k1, k2, reps_int, ↓RunC_seq, ↓RunC_skip, ↓RunC_ret, ↓RunC_exit, ↓RunC_region, ↓RunC_condQ, condQ_true, condQ_false, ↓RunC_block, ↓RunR_done, ↓RunR_op, ↓RunR_opg, ↓RunR_snap, ↓RunR_chk, Holds, Option.getD_none, Option.getD_some, guardR_true, guardR_false, wantV_bool, wantV_none, callvQ_eq, afterR_some, ↓seqQ_normal, ↓seqQ_ret, ↓seqQ_exit, ↓blockQ_normal, ↓blockQ_ret, ↓blockQ_exit, ↓retQ_ret, ↓retQ_normal, ↓callQ_eq, ↓loopQ_normal, ↓loopQ_ret, ↓loopQ_exit, ↓upd_same, upd_at, sel_t, sel_f, initE_at, obj_upd_same, obj_upd_ne, obj_new_same, obj_updnew_same, obj_updnew_same2, obj_new2_same, obj_new3_same, obj_newupd_same, obj_new_ne, obj_new_ne2, obj_new_ne3, obj_new_ne4, next_upd, next_new, add_plain, cop, bin, binInt, un, shiftInt, flat, read_cells, src_ro, src_fix, src_grow, get_cells, List.getElem?_cons_zero, List.getElem?_cons_succ, write_fix, write_grow, setAt, bound, eqK, elemOk_ro, elemOk_fix, elemOk_grow, stiff_ro, stiff_fix, goInt, resultsV, resV, resL, finQ_some, Option.map_some, Option.map_none, Option.bind_some, Option.bind_none, List.map_cons, List.map_nil, List.getD_cons_zero, List.getD_cons_succ, List.getD_nil, Nat.reduceEqDiff, Nat.reduceAdd, Nat.reduceMul, Nat.reduceSub, Nat.reduceLT, Nat.reduceLeDiff, Nat.reduceBEq, if_true, if_false, ite_true, ite_false, List.length_cons, List.length_nil, Nat.zero_add, Nat.add_zero, List.drop_zero, List.drop_succ_cons, List.take_succ_cons, List.take_zero, List.set_cons_zero, List.set_cons_succ, Int.reduceLT, Int.reduceLE, Bool.not_true, Bool.not_false, Option.isNone_some, Option.isNone_none, decide_true, decide_false, beq_self_eq_true, Bool.false_eq_true, Bool.true_eq_false, if_pos, if_neg, reduceCtorEq, beq_iff_eq, BEq.rfl, wrap_i64, wrap_i32, wrap_i8, wrap_u8, wrap_u32, wrap_u64, Nat.mul_one, Int.toNat_natCast, ints_len, List.length_map, List.length_set, beq_ft, beq_tf, List.all_cons, List.all_nil, scalar, Bool.and_self, Bool.true_and, Bool.and_true, List.size_toArray, List.getElem?_toArray, binStr, fillIn, true_and, and_true, true_or, or_true, bne_self_eq_false, Int.reduceToNat, Int.reduceAdd, Int.reduceSub, Int.reduceMul]
  refine hQ _ (h.next + 1) h.next (((Old.refl h).more _).more _) ⟨?_, ?_, ?_, ?_, ?_, ?_, ?_, hr, hw, by simp, ok, fun x hx => by rw [(List.mem_replicate.1 hx).2]; unfold I64; omega⟩ (by omega) (Nat.le_refl _)
  · exact obj_new2_same _ _ _
  · exact Nat.lt_succ_self _
  · rw [obj_new_ne _ _ (by simp only [next_new]; omega)]; exact obj_new_same _ _
  · simp only [next_new]; omega
  · omega
  · exact V.keep (by simp only [next_new]; omega) fun hl => by rw [obj_new_ne _ _ (by simp only [next_new]; omega), obj_new_ne _ _ (by omega)]
  · rcases V.at (by omega) with ⟨_, _, _, hl, _⟩; omega
theorem at_ok {h : Heap} {p nb rb w : Nat} {rv : Value} {rows : List RowT} {c : List Int} (S : SlotAt h p nb rv rb rows w c) (key : ByteArray) (hs : key.size ≤ 140737488355328) (r : Nat) (hr : r < rows.length) {Q : Value → Heap → Prop}
    (hQ : ∀ h', Old h h' → Q (.pointer (some ⟨nb, ix rows w key r, none⟩)) h') : CALL cp 26 [.pointer (some ⟨p, 0, none⟩), .int .i64 r, .string key] h Q := by
  rw [CALL_enter cp cp26]
  have hx : rows[r]? = some rows[r] := List.getElem?_eq_getElem hr
  obtain ⟨x, hxx⟩ : ∃ x, x = rows[r] := ⟨_, rfl⟩
  rw [← hxx] at hx
  obtain ⟨cap, e, hrd⟩ := S.v.read hx
  have hrd : (h.obj rb).read (r * 3) 3 = some (RowE.enc x) := by rw [Nat.zero_add] at hrd; exact hrd
  have xok := S.ok x (List.mem_of_getElem? hx)
  have op := S.op
  have lp := S.lp
  have h8 := S.hr
  have hw := S.hw
  have hlt := S.ix_lt key hr
  have hle := S.rw_le
  rw [e] at op
  have f := fun h => bkt_ok h x xok key hs w hw.1 (by omega)
  have hix : ix rows w key r = r * w + bkt x key w := by unfold ix; rw [hx]; rfl
  have k1 : (r : Int) * (w : Int) = ((r * w : Nat) : Int) := by rw [Int.natCast_mul]
  have k2 : ((r * w : Nat) : Int) + (bkt x key w : Nat) = ((ix rows w key r : Nat) : Int) := by rw [hix]; omega
  have k3 : (((ix rows w key r : Nat) : Int)).toNat = ix rows w key r := Int.toNat_natCast _
  simp (disch := first | omega | (simp only [next_new, next_upd, ne_eq]; omega)) only [c26, ↓c26_r0_run, ↓c26_r1_c3_run, ↓c26_r1_c2_run, ↓c26_r1_c1_run, ↓c26_r1_run, op, hrd, f, k1, k2, k3, ↓RunC_seq, ↓RunC_skip, ↓RunC_ret, ↓RunC_exit, ↓RunC_region, ↓RunC_condQ, condQ_true, condQ_false, ↓RunC_block, ↓RunR_done, ↓RunR_op, ↓RunR_opg, ↓RunR_snap, ↓RunR_chk, Holds, Option.getD_none, Option.getD_some, guardR_true, guardR_false, wantV_bool, wantV_none, callvQ_eq, afterR_some, ↓seqQ_normal, ↓seqQ_ret, ↓seqQ_exit, ↓blockQ_normal, ↓blockQ_ret, ↓blockQ_exit, ↓retQ_ret, ↓retQ_normal, ↓callQ_eq, ↓loopQ_normal, ↓loopQ_ret, ↓loopQ_exit, ↓upd_same, upd_at, sel_t, sel_f, initE_at, obj_upd_same, obj_upd_ne, obj_new_same, obj_updnew_same, obj_updnew_same2, obj_new2_same, obj_new3_same, obj_newupd_same, obj_new_ne, obj_new_ne2, obj_new_ne3, obj_new_ne4, next_upd, next_new, add_plain, cop, bin, binInt, un, shiftInt, flat, read_cells, src_ro, src_fix, src_grow, get_cells, List.getElem?_cons_zero, List.getElem?_cons_succ, write_fix, write_grow, setAt, bound, eqK, elemOk_ro, elemOk_fix, elemOk_grow, stiff_ro, stiff_fix, goInt, resultsV, resV, resL, finQ_some, Option.map_some, Option.map_none, Option.bind_some, Option.bind_none, List.map_cons, List.map_nil, List.getD_cons_zero, List.getD_cons_succ, List.getD_nil, Nat.reduceEqDiff, Nat.reduceAdd, Nat.reduceMul, Nat.reduceSub, Nat.reduceLT, Nat.reduceLeDiff, Nat.reduceBEq, if_true, if_false, ite_true, ite_false, List.length_cons, List.length_nil, Nat.zero_add, Nat.add_zero, List.drop_zero, List.drop_succ_cons, List.take_succ_cons, List.take_zero, List.set_cons_zero, List.set_cons_succ, Int.reduceLT, Int.reduceLE, Bool.not_true, Bool.not_false, Option.isNone_some, Option.isNone_none, decide_true, decide_false, beq_self_eq_true, Bool.false_eq_true, Bool.true_eq_false, if_pos, if_neg, reduceCtorEq, beq_iff_eq, BEq.rfl, wrap_i64, wrap_i32, wrap_i8, wrap_u8, wrap_u32, wrap_u64, Nat.mul_one, Int.toNat_natCast, ints_len, List.length_map, List.length_set, beq_ft, beq_tf, List.all_cons, List.all_nil, scalar, Bool.and_self, Bool.true_and, Bool.and_true, List.size_toArray, List.getElem?_toArray, binStr, fillIn, true_and, and_true, true_or, or_true, bne_self_eq_false, Int.reduceToNat, Int.reduceAdd, Int.reduceSub, Int.reduceMul]
  exact hQ _ (((Old.refl h).more _).more _)
theorem count_ok {h : Heap} {p nb rb w : Nat} {rv : Value} {rows : List RowT} {c : List Int} (S : SlotAt h p nb rv rb rows w c) (key : ByteArray) (hs : key.size ≤ 140737488355328) (r : Int) {Q : Value → Heap → Prop}
    (hQ : ∀ h', Old h h' → Q (.int .i64 (if 0 ≤ r ∧ r < rows.length then ctr c (ix rows w key r.toNat) else 0)) h') : CALL cp 16 [.pointer (some ⟨p, 0, none⟩), .int .i64 r, .string key] h Q := by
  rw [CALL_enter cp cp16]
  have op := S.op
  obtain ⟨a, cap, e, hc⟩ := S.v.val
  rw [e] at op
  by_cases c1 : r < 0
  · have a1 := decide_eq_true c1
    rw [if_neg (by omega)] at hQ
    simp (disch := omega) only [c16, ↓c16_r0_run, ↓c16_r1_c1_run, ↓c16_r1_run, ↓c16_r2_run, ↓c16_r3_run, op, a1, eqS, ↓RunC_seq, ↓RunC_skip, ↓RunC_ret, ↓RunC_exit, ↓RunC_region, ↓RunC_condQ, condQ_true, condQ_false, ↓RunC_block, ↓RunR_done, ↓RunR_op, ↓RunR_opg, ↓RunR_snap, ↓RunR_chk, Holds, Option.getD_none, Option.getD_some, guardR_true, guardR_false, wantV_bool, wantV_none, callvQ_eq, afterR_some, ↓seqQ_normal, ↓seqQ_ret, ↓seqQ_exit, ↓blockQ_normal, ↓blockQ_ret, ↓blockQ_exit, ↓retQ_ret, ↓retQ_normal, ↓callQ_eq, ↓loopQ_normal, ↓loopQ_ret, ↓loopQ_exit, ↓upd_same, upd_at, sel_t, sel_f, initE_at, obj_upd_same, obj_upd_ne, obj_new_same, obj_updnew_same, obj_updnew_same2, obj_new2_same, obj_new3_same, obj_newupd_same, obj_new_ne, obj_new_ne2, obj_new_ne3, obj_new_ne4, next_upd, next_new, add_plain, cop, bin, binInt, un, shiftInt, flat, read_cells, src_ro, src_fix, src_grow, get_cells, List.getElem?_cons_zero, List.getElem?_cons_succ, write_fix, write_grow, setAt, bound, eqK, elemOk_ro, elemOk_fix, elemOk_grow, stiff_ro, stiff_fix, goInt, resultsV, resV, resL, finQ_some, Option.map_some, Option.map_none, Option.bind_some, Option.bind_none, List.map_cons, List.map_nil, List.getD_cons_zero, List.getD_cons_succ, List.getD_nil, Nat.reduceEqDiff, Nat.reduceAdd, Nat.reduceMul, Nat.reduceSub, Nat.reduceLT, Nat.reduceLeDiff, Nat.reduceBEq, if_true, if_false, ite_true, ite_false, List.length_cons, List.length_nil, Nat.zero_add, Nat.add_zero, List.drop_zero, List.drop_succ_cons, List.take_succ_cons, List.take_zero, List.set_cons_zero, List.set_cons_succ, Int.reduceLT, Int.reduceLE, Bool.not_true, Bool.not_false, Option.isNone_some, Option.isNone_none, decide_true, decide_false, beq_self_eq_true, Bool.false_eq_true, Bool.true_eq_false, if_pos, if_neg, reduceCtorEq, beq_iff_eq, BEq.rfl, wrap_i64, wrap_i32, wrap_i8, wrap_u8, wrap_u32, wrap_u64, Nat.mul_one, Int.toNat_natCast, ints_len, List.length_map, List.length_set, beq_ft, beq_tf, List.all_cons, List.all_nil, scalar, Bool.and_self, Bool.true_and, Bool.and_true, List.size_toArray, List.getElem?_toArray, binStr, fillIn, true_and, and_true, true_or, or_true, bne_self_eq_false, Int.reduceToNat, Int.reduceAdd, Int.reduceSub, Int.reduceMul]
    exact hQ _ (Old.refl _)
  have a1 := decide_eq_false c1
  obtain ⟨r, rfl⟩ : ∃ k : Nat, r = k := ⟨r.toNat, by omega⟩
  by_cases c2 : r < rows.length
  · have a2 : decide ((r : Int) ≥ (rows.length : Int)) = false := decide_eq_false (by omega)
    rw [if_pos (by omega), Int.toNat_natCast] at hQ
    simp (disch := omega) only [c16, ↓c16_r0_run, ↓c16_r1_c1_run, ↓c16_r1_run, ↓c16_r2_run, ↓c16_r3_run, op, a1, a2, eqS, ↓RunC_seq, ↓RunC_skip, ↓RunC_ret, ↓RunC_exit, ↓RunC_region, ↓RunC_condQ, condQ_true, condQ_false, ↓RunC_block, ↓RunR_done, ↓RunR_op, ↓RunR_opg, ↓RunR_snap, ↓RunR_chk, Holds, Option.getD_none, Option.getD_some, guardR_true, guardR_false, wantV_bool, wantV_none, callvQ_eq, afterR_some, ↓seqQ_normal, ↓seqQ_ret, ↓seqQ_exit, ↓blockQ_normal, ↓blockQ_ret, ↓blockQ_exit, ↓retQ_ret, ↓retQ_normal, ↓callQ_eq, ↓loopQ_normal, ↓loopQ_ret, ↓loopQ_exit, ↓upd_same, upd_at, sel_t, sel_f, initE_at, obj_upd_same, obj_upd_ne, obj_new_same, obj_updnew_same, obj_updnew_same2, obj_new2_same, obj_new3_same, obj_newupd_same, obj_new_ne, obj_new_ne2, obj_new_ne3, obj_new_ne4, next_upd, next_new, add_plain, cop, bin, binInt, un, shiftInt, flat, read_cells, src_ro, src_fix, src_grow, get_cells, List.getElem?_cons_zero, List.getElem?_cons_succ, write_fix, write_grow, setAt, bound, eqK, elemOk_ro, elemOk_fix, elemOk_grow, stiff_ro, stiff_fix, goInt, resultsV, resV, resL, finQ_some, Option.map_some, Option.map_none, Option.bind_some, Option.bind_none, List.map_cons, List.map_nil, List.getD_cons_zero, List.getD_cons_succ, List.getD_nil, Nat.reduceEqDiff, Nat.reduceAdd, Nat.reduceMul, Nat.reduceSub, Nat.reduceLT, Nat.reduceLeDiff, Nat.reduceBEq, if_true, if_false, ite_true, ite_false, List.length_cons, List.length_nil, Nat.zero_add, Nat.add_zero, List.drop_zero, List.drop_succ_cons, List.take_succ_cons, List.take_zero, List.set_cons_zero, List.set_cons_succ, Int.reduceLT, Int.reduceLE, Bool.not_true, Bool.not_false, Option.isNone_some, Option.isNone_none, decide_true, decide_false, beq_self_eq_true, Bool.false_eq_true, Bool.true_eq_false, if_pos, if_neg, reduceCtorEq, beq_iff_eq, BEq.rfl, wrap_i64, wrap_i32, wrap_i8, wrap_u8, wrap_u32, wrap_u64, Nat.mul_one, Int.toNat_natCast, ints_len, List.length_map, List.length_set, beq_ft, beq_tf, List.all_cons, List.all_nil, scalar, Bool.and_self, Bool.true_and, Bool.and_true, List.size_toArray, List.getElem?_toArray, binStr, fillIn, true_and, and_true, true_or, or_true, bne_self_eq_false, Int.reduceToNat, Int.reduceAdd, Int.reduceSub, Int.reduceMul]
    refine at_ok S key hs r c2 fun h' o => ?_
    have S' := S.old o
    obtain ⟨hg, _⟩ := S'.get (S'.ix_lt key c2)
    have hg := ints_get .i64 _ hg
    have on := S'.on
    simp (disch := omega) only [c16, ↓c16_r0_run, ↓c16_r1_c1_run, ↓c16_r1_run, ↓c16_r2_run, ↓c16_r3_run, on, hg, ↓RunC_seq, ↓RunC_skip, ↓RunC_ret, ↓RunC_exit, ↓RunC_region, ↓RunC_condQ, condQ_true, condQ_false, ↓RunC_block, ↓RunR_done, ↓RunR_op, ↓RunR_opg, ↓RunR_snap, ↓RunR_chk, Holds, Option.getD_none, Option.getD_some, guardR_true, guardR_false, wantV_bool, wantV_none, callvQ_eq, afterR_some, ↓seqQ_normal, ↓seqQ_ret, ↓seqQ_exit, ↓blockQ_normal, ↓blockQ_ret, ↓blockQ_exit, ↓retQ_ret, ↓retQ_normal, ↓callQ_eq, ↓loopQ_normal, ↓loopQ_ret, ↓loopQ_exit, ↓upd_same, upd_at, sel_t, sel_f, initE_at, obj_upd_same, obj_upd_ne, obj_new_same, obj_updnew_same, obj_updnew_same2, obj_new2_same, obj_new3_same, obj_newupd_same, obj_new_ne, obj_new_ne2, obj_new_ne3, obj_new_ne4, next_upd, next_new, add_plain, cop, bin, binInt, un, shiftInt, flat, read_cells, src_ro, src_fix, src_grow, get_cells, List.getElem?_cons_zero, List.getElem?_cons_succ, write_fix, write_grow, setAt, bound, eqK, elemOk_ro, elemOk_fix, elemOk_grow, stiff_ro, stiff_fix, goInt, resultsV, resV, resL, finQ_some, Option.map_some, Option.map_none, Option.bind_some, Option.bind_none, List.map_cons, List.map_nil, List.getD_cons_zero, List.getD_cons_succ, List.getD_nil, Nat.reduceEqDiff, Nat.reduceAdd, Nat.reduceMul, Nat.reduceSub, Nat.reduceLT, Nat.reduceLeDiff, Nat.reduceBEq, if_true, if_false, ite_true, ite_false, List.length_cons, List.length_nil, Nat.zero_add, Nat.add_zero, List.drop_zero, List.drop_succ_cons, List.take_succ_cons, List.take_zero, List.set_cons_zero, List.set_cons_succ, Int.reduceLT, Int.reduceLE, Bool.not_true, Bool.not_false, Option.isNone_some, Option.isNone_none, decide_true, decide_false, beq_self_eq_true, Bool.false_eq_true, Bool.true_eq_false, if_pos, if_neg, reduceCtorEq, beq_iff_eq, BEq.rfl, wrap_i64, wrap_i32, wrap_i8, wrap_u8, wrap_u32, wrap_u64, Nat.mul_one, Int.toNat_natCast, ints_len, List.length_map, List.length_set, beq_ft, beq_tf, List.all_cons, List.all_nil, scalar, Bool.and_self, Bool.true_and, Bool.and_true, List.size_toArray, List.getElem?_toArray, binStr, fillIn, true_and, and_true, true_or, or_true, bne_self_eq_false, Int.reduceToNat, Int.reduceAdd, Int.reduceSub, Int.reduceMul]
    exact hQ _ o
  · have a2 : decide ((r : Int) ≥ (rows.length : Int)) = true := decide_eq_true (by omega)
    rw [if_neg (by omega)] at hQ
    simp (disch := omega) only [c16, ↓c16_r0_run, ↓c16_r1_c1_run, ↓c16_r1_run, ↓c16_r2_run, ↓c16_r3_run, op, a1, a2, eqS, ↓RunC_seq, ↓RunC_skip, ↓RunC_ret, ↓RunC_exit, ↓RunC_region, ↓RunC_condQ, condQ_true, condQ_false, ↓RunC_block, ↓RunR_done, ↓RunR_op, ↓RunR_opg, ↓RunR_snap, ↓RunR_chk, Holds, Option.getD_none, Option.getD_some, guardR_true, guardR_false, wantV_bool, wantV_none, callvQ_eq, afterR_some, ↓seqQ_normal, ↓seqQ_ret, ↓seqQ_exit, ↓blockQ_normal, ↓blockQ_ret, ↓blockQ_exit, ↓retQ_ret, ↓retQ_normal, ↓callQ_eq, ↓loopQ_normal, ↓loopQ_ret, ↓loopQ_exit, ↓upd_same, upd_at, sel_t, sel_f, initE_at, obj_upd_same, obj_upd_ne, obj_new_same, obj_updnew_same, obj_updnew_same2, obj_new2_same, obj_new3_same, obj_newupd_same, obj_new_ne, obj_new_ne2, obj_new_ne3, obj_new_ne4, next_upd, next_new, add_plain, cop, bin, binInt, un, shiftInt, flat, read_cells, src_ro, src_fix, src_grow, get_cells, List.getElem?_cons_zero, List.getElem?_cons_succ, write_fix, write_grow, setAt, bound, eqK, elemOk_ro, elemOk_fix, elemOk_grow, stiff_ro, stiff_fix, goInt, resultsV, resV, resL, finQ_some, Option.map_some, Option.map_none, Option.bind_some, Option.bind_none, List.map_cons, List.map_nil, List.getD_cons_zero, List.getD_cons_succ, List.getD_nil, Nat.reduceEqDiff, Nat.reduceAdd, Nat.reduceMul, Nat.reduceSub, Nat.reduceLT, Nat.reduceLeDiff, Nat.reduceBEq, if_true, if_false, ite_true, ite_false, List.length_cons, List.length_nil, Nat.zero_add, Nat.add_zero, List.drop_zero, List.drop_succ_cons, List.take_succ_cons, List.take_zero, List.set_cons_zero, List.set_cons_succ, Int.reduceLT, Int.reduceLE, Bool.not_true, Bool.not_false, Option.isNone_some, Option.isNone_none, decide_true, decide_false, beq_self_eq_true, Bool.false_eq_true, Bool.true_eq_false, if_pos, if_neg, reduceCtorEq, beq_iff_eq, BEq.rfl, wrap_i64, wrap_i32, wrap_i8, wrap_u8, wrap_u32, wrap_u64, Nat.mul_one, Int.toNat_natCast, ints_len, List.length_map, List.length_set, beq_ft, beq_tf, List.all_cons, List.all_nil, scalar, Bool.and_self, Bool.true_and, Bool.and_true, List.size_toArray, List.getElem?_toArray, binStr, fillIn, true_and, and_true, true_or, or_true, bne_self_eq_false, Int.reduceToNat, Int.reduceAdd, Int.reduceSub, Int.reduceMul]
    exact hQ _ (Old.refl _)
theorem least_ok {h : Heap} {p nb rb w : Nat} {rv : Value} {rows : List RowT} {c : List Int} (S : SlotAt h p nb rv rb rows w c) (key : ByteArray) (hs : key.size ≤ 140737488355328) {Q : Value → Heap → Prop}
    (hQ : ∀ h', Old h h' → Q (.int .i64 (leastN c (ix rows w key) (rows.length - 1))) h') : CALL cp 15 [.pointer (some ⟨p, 0, none⟩), .string key] h Q := by
  rw [CALL_enter cp cp15]
  have h8 := S.hr
  simp (disch := omega) only [c15, ↓c15_r0_run, ↓c15_r1_run, ↓c15_r2_run, ↓c15_r3_run, ↓c15_r4_run, ↓c15_r5_run, ↓c15_r7_run, ↓c15_r6_run, ↓c15_r8_run, eqS, ↓RunC_seq, ↓RunC_skip, ↓RunC_ret, ↓RunC_exit, ↓RunC_region, ↓RunC_condQ, condQ_true, condQ_false, ↓RunC_block, ↓RunR_done, ↓RunR_op, ↓RunR_opg, ↓RunR_snap, ↓RunR_chk, Holds, Option.getD_none, Option.getD_some, guardR_true, guardR_false, wantV_bool, wantV_none, callvQ_eq, afterR_some, ↓seqQ_normal, ↓seqQ_ret, ↓seqQ_exit, ↓blockQ_normal, ↓blockQ_ret, ↓blockQ_exit, ↓retQ_ret, ↓retQ_normal, ↓callQ_eq, ↓loopQ_normal, ↓loopQ_ret, ↓loopQ_exit, ↓upd_same, upd_at, sel_t, sel_f, initE_at, obj_upd_same, obj_upd_ne, obj_new_same, obj_updnew_same, obj_updnew_same2, obj_new2_same, obj_new3_same, obj_newupd_same, obj_new_ne, obj_new_ne2, obj_new_ne3, obj_new_ne4, next_upd, next_new, add_plain, cop, bin, binInt, un, shiftInt, flat, read_cells, src_ro, src_fix, src_grow, get_cells, List.getElem?_cons_zero, List.getElem?_cons_succ, write_fix, write_grow, setAt, bound, eqK, elemOk_ro, elemOk_fix, elemOk_grow, stiff_ro, stiff_fix, goInt, resultsV, resV, resL, finQ_some, Option.map_some, Option.map_none, Option.bind_some, Option.bind_none, List.map_cons, List.map_nil, List.getD_cons_zero, List.getD_cons_succ, List.getD_nil, Nat.reduceEqDiff, Nat.reduceAdd, Nat.reduceMul, Nat.reduceSub, Nat.reduceLT, Nat.reduceLeDiff, Nat.reduceBEq, if_true, if_false, ite_true, ite_false, List.length_cons, List.length_nil, Nat.zero_add, Nat.add_zero, List.drop_zero, List.drop_succ_cons, List.take_succ_cons, List.take_zero, List.set_cons_zero, List.set_cons_succ, Int.reduceLT, Int.reduceLE, Bool.not_true, Bool.not_false, Option.isNone_some, Option.isNone_none, decide_true, decide_false, beq_self_eq_true, Bool.false_eq_true, Bool.true_eq_false, if_pos, if_neg, reduceCtorEq, beq_iff_eq, BEq.rfl, wrap_i64, wrap_i32, wrap_i8, wrap_u8, wrap_u32, wrap_u64, Nat.mul_one, Int.toNat_natCast, ints_len, List.length_map, List.length_set, beq_ft, beq_tf, List.all_cons, List.all_nil, scalar, Bool.and_self, Bool.true_and, Bool.and_true, List.size_toArray, List.getElem?_toArray, binStr, fillIn, true_and, and_true, true_or, or_true, bne_self_eq_false, Int.reduceToNat, Int.reduceAdd, Int.reduceSub, Int.reduceMul]
  refine at_ok S key hs 0 (by omega) fun h1 o1 => ?_
  have S1 := S.old o1
  obtain ⟨hg, _⟩ := S1.get (S1.ix_lt key (show 0 < rows.length by omega))
  have hg := ints_get .i64 _ hg
  have on := S1.on
  simp (disch := omega) only [c15, ↓c15_r0_run, ↓c15_r1_run, ↓c15_r2_run, ↓c15_r3_run, ↓c15_r4_run, ↓c15_r5_run, ↓c15_r7_run, ↓c15_r6_run, ↓c15_r8_run, on, hg, ↓RunC_seq, ↓RunC_skip, ↓RunC_ret, ↓RunC_exit, ↓RunC_region, ↓RunC_condQ, condQ_true, condQ_false, ↓RunC_block, ↓RunR_done, ↓RunR_op, ↓RunR_opg, ↓RunR_snap, ↓RunR_chk, Holds, Option.getD_none, Option.getD_some, guardR_true, guardR_false, wantV_bool, wantV_none, callvQ_eq, afterR_some, ↓seqQ_normal, ↓seqQ_ret, ↓seqQ_exit, ↓blockQ_normal, ↓blockQ_ret, ↓blockQ_exit, ↓retQ_ret, ↓retQ_normal, ↓callQ_eq, ↓loopQ_normal, ↓loopQ_ret, ↓loopQ_exit, ↓upd_same, upd_at, sel_t, sel_f, initE_at, obj_upd_same, obj_upd_ne, obj_new_same, obj_updnew_same, obj_updnew_same2, obj_new2_same, obj_new3_same, obj_newupd_same, obj_new_ne, obj_new_ne2, obj_new_ne3, obj_new_ne4, next_upd, next_new, add_plain, cop, bin, binInt, un, shiftInt, flat, read_cells, src_ro, src_fix, src_grow, get_cells, List.getElem?_cons_zero, List.getElem?_cons_succ, write_fix, write_grow, setAt, bound, eqK, elemOk_ro, elemOk_fix, elemOk_grow, stiff_ro, stiff_fix, goInt, resultsV, resV, resL, finQ_some, Option.map_some, Option.map_none, Option.bind_some, Option.bind_none, List.map_cons, List.map_nil, List.getD_cons_zero, List.getD_cons_succ, List.getD_nil, Nat.reduceEqDiff, Nat.reduceAdd, Nat.reduceMul, Nat.reduceSub, Nat.reduceLT, Nat.reduceLeDiff, Nat.reduceBEq, if_true, if_false, ite_true, ite_false, List.length_cons, List.length_nil, Nat.zero_add, Nat.add_zero, List.drop_zero, List.drop_succ_cons, List.take_succ_cons, List.take_zero, List.set_cons_zero, List.set_cons_succ, Int.reduceLT, Int.reduceLE, Bool.not_true, Bool.not_false, Option.isNone_some, Option.isNone_none, decide_true, decide_false, beq_self_eq_true, Bool.false_eq_true, Bool.true_eq_false, if_pos, if_neg, reduceCtorEq, beq_iff_eq, BEq.rfl, wrap_i64, wrap_i32, wrap_i8, wrap_u8, wrap_u32, wrap_u64, Nat.mul_one, Int.toNat_natCast, ints_len, List.length_map, List.length_set, beq_ft, beq_tf, List.all_cons, List.all_nil, scalar, Bool.and_self, Bool.true_and, Bool.and_true, List.size_toArray, List.getElem?_toArray, binStr, fillIn, true_and, and_true, true_or, or_true, bne_self_eq_false, Int.reduceToNat, Int.reduceAdd, Int.reduceSub, Int.reduceMul]
  refine RunC_loop cp c15_l0 _ (fun d e hh => ∃ j : Nat, j + 1 + d = rows.length ∧ Old h hh ∧ e 0 = .pointer (some ⟨p, 0, none⟩) ∧ e 1 = .string key ∧ e 5 = .int .i64 (leastN c (ix rows w key) j) ∧ e 6 = .int .i64 ((j + 1 : Nat) : Int)) ?_ (rows.length - 1) _ _
    ⟨0, by omega, o1, rfl, rfl, rfl, rfl⟩
  rintro d e hh ⟨j, hj, o, e0, e1, e5, e6⟩
  have S2 := S.old o
  have op := S2.op
  obtain ⟨a, cap, er, hc⟩ := S2.v.val
  rw [er] at op
  by_cases cj : j + 1 < rows.length
  · have b1 : decide (((j + 1 : Nat) : Int) < (rows.length : Int)) = true := decide_eq_true (by omega)
    have nx : ((j + 1 : Nat) : Int) + 1 = ((j + 1 + 1 : Nat) : Int) := by omega
    simp (disch := omega) only [c15_l0, c15, ↓c15_r0_run, ↓c15_r1_run, ↓c15_r2_run, ↓c15_r3_run, ↓c15_r4_run, ↓c15_r5_run, ↓c15_r7_run, ↓c15_r6_run, ↓c15_r8_run, e0, e1, e5, e6, op, b1, ↓RunC_seq, ↓RunC_skip, ↓RunC_ret, ↓RunC_exit, ↓RunC_region, ↓RunC_condQ, condQ_true, condQ_false, ↓RunC_block, ↓RunR_done, ↓RunR_op, ↓RunR_opg, ↓RunR_snap, ↓RunR_chk, Holds, Option.getD_none, Option.getD_some, guardR_true, guardR_false, wantV_bool, wantV_none, callvQ_eq, afterR_some, ↓seqQ_normal, ↓seqQ_ret, ↓seqQ_exit, ↓blockQ_normal, ↓blockQ_ret, ↓blockQ_exit, ↓retQ_ret, ↓retQ_normal, ↓callQ_eq, ↓loopQ_normal, ↓loopQ_ret, ↓loopQ_exit, ↓upd_same, upd_at, sel_t, sel_f, initE_at, obj_upd_same, obj_upd_ne, obj_new_same, obj_updnew_same, obj_updnew_same2, obj_new2_same, obj_new3_same, obj_newupd_same, obj_new_ne, obj_new_ne2, obj_new_ne3, obj_new_ne4, next_upd, next_new, add_plain, cop, bin, binInt, un, shiftInt, flat, read_cells, src_ro, src_fix, src_grow, get_cells, List.getElem?_cons_zero, List.getElem?_cons_succ, write_fix, write_grow, setAt, bound, eqK, elemOk_ro, elemOk_fix, elemOk_grow, stiff_ro, stiff_fix, goInt, resultsV, resV, resL, finQ_some, Option.map_some, Option.map_none, Option.bind_some, Option.bind_none, List.map_cons, List.map_nil, List.getD_cons_zero, List.getD_cons_succ, List.getD_nil, Nat.reduceEqDiff, Nat.reduceAdd, Nat.reduceMul, Nat.reduceSub, Nat.reduceLT, Nat.reduceLeDiff, Nat.reduceBEq, if_true, if_false, ite_true, ite_false, List.length_cons, List.length_nil, Nat.zero_add, Nat.add_zero, List.drop_zero, List.drop_succ_cons, List.take_succ_cons, List.take_zero, List.set_cons_zero, List.set_cons_succ, Int.reduceLT, Int.reduceLE, Bool.not_true, Bool.not_false, Option.isNone_some, Option.isNone_none, decide_true, decide_false, beq_self_eq_true, Bool.false_eq_true, Bool.true_eq_false, if_pos, if_neg, reduceCtorEq, beq_iff_eq, BEq.rfl, wrap_i64, wrap_i32, wrap_i8, wrap_u8, wrap_u32, wrap_u64, Nat.mul_one, Int.toNat_natCast, ints_len, List.length_map, List.length_set, beq_ft, beq_tf, List.all_cons, List.all_nil, scalar, Bool.and_self, Bool.true_and, Bool.and_true, List.size_toArray, List.getElem?_toArray, binStr, fillIn, true_and, and_true, true_or, or_true, bne_self_eq_false, Int.reduceToNat, Int.reduceAdd, Int.reduceSub, Int.reduceMul]
    refine at_ok S2 key hs (j + 1) cj fun h' o' => ?_
    have S' := S2.old o'
    obtain ⟨hg, _⟩ := S'.get (S'.ix_lt key cj)
    have hg := ints_get .i64 _ hg
    have on := S'.on
    simp (disch := omega) only [c15, ↓c15_r0_run, ↓c15_r1_run, ↓c15_r2_run, ↓c15_r3_run, ↓c15_r4_run, ↓c15_r5_run, ↓c15_r7_run, ↓c15_r6_run, ↓c15_r8_run, e0, e1, e5, e6, on, hg, ↓mm_min, nx, ↓RunC_seq, ↓RunC_skip, ↓RunC_ret, ↓RunC_exit, ↓RunC_region, ↓RunC_condQ, condQ_true, condQ_false, ↓RunC_block, ↓RunR_done, ↓RunR_op, ↓RunR_opg, ↓RunR_snap, ↓RunR_chk, Holds, Option.getD_none, Option.getD_some, guardR_true, guardR_false, wantV_bool, wantV_none, callvQ_eq, afterR_some, ↓seqQ_normal, ↓seqQ_ret, ↓seqQ_exit, ↓blockQ_normal, ↓blockQ_ret, ↓blockQ_exit, ↓retQ_ret, ↓retQ_normal, ↓callQ_eq, ↓loopQ_normal, ↓loopQ_ret, ↓loopQ_exit, ↓upd_same, upd_at, sel_t, sel_f, initE_at, obj_upd_same, obj_upd_ne, obj_new_same, obj_updnew_same, obj_updnew_same2, obj_new2_same, obj_new3_same, obj_newupd_same, obj_new_ne, obj_new_ne2, obj_new_ne3, obj_new_ne4, next_upd, next_new, add_plain, cop, bin, binInt, un, shiftInt, flat, read_cells, src_ro, src_fix, src_grow, get_cells, List.getElem?_cons_zero, List.getElem?_cons_succ, write_fix, write_grow, setAt, bound, eqK, elemOk_ro, elemOk_fix, elemOk_grow, stiff_ro, stiff_fix, goInt, resultsV, resV, resL, finQ_some, Option.map_some, Option.map_none, Option.bind_some, Option.bind_none, List.map_cons, List.map_nil, List.getD_cons_zero, List.getD_cons_succ, List.getD_nil, Nat.reduceEqDiff, Nat.reduceAdd, Nat.reduceMul, Nat.reduceSub, Nat.reduceLT, Nat.reduceLeDiff, Nat.reduceBEq, if_true, if_false, ite_true, ite_false, List.length_cons, List.length_nil, Nat.zero_add, Nat.add_zero, List.drop_zero, List.drop_succ_cons, List.take_succ_cons, List.take_zero, List.set_cons_zero, List.set_cons_succ, Int.reduceLT, Int.reduceLE, Bool.not_true, Bool.not_false, Option.isNone_some, Option.isNone_none, decide_true, decide_false, beq_self_eq_true, Bool.false_eq_true, Bool.true_eq_false, if_pos, if_neg, reduceCtorEq, beq_iff_eq, BEq.rfl, wrap_i64, wrap_i32, wrap_i8, wrap_u8, wrap_u32, wrap_u64, Nat.mul_one, Int.toNat_natCast, ints_len, List.length_map, List.length_set, beq_ft, beq_tf, List.all_cons, List.all_nil, scalar, Bool.and_self, Bool.true_and, Bool.and_true, List.size_toArray, List.getElem?_toArray, binStr, fillIn, true_and, and_true, true_or, or_true, bne_self_eq_false, Int.reduceToNat, Int.reduceAdd, Int.reduceSub, Int.reduceMul]
    refine ⟨d - 1, by omega, j + 1, by omega, o.trans o', ?_⟩
    repeat' first | assumption | rfl | apply And.intro
  · have b1 : decide (((j + 1 : Nat) : Int) < (rows.length : Int)) = false := decide_eq_false (by omega)
    obtain rfl : j = rows.length - 1 := by omega
    simp (disch := omega) only [c15_l0, c15, ↓c15_r0_run, ↓c15_r1_run, ↓c15_r2_run, ↓c15_r3_run, ↓c15_r4_run, ↓c15_r5_run, ↓c15_r7_run, ↓c15_r6_run, ↓c15_r8_run, e0, e1, e5, e6, op, b1, ↓RunC_seq, ↓RunC_skip, ↓RunC_ret, ↓RunC_exit, ↓RunC_region, ↓RunC_condQ, condQ_true, condQ_false, ↓RunC_block, ↓RunR_done, ↓RunR_op, ↓RunR_opg, ↓RunR_snap, ↓RunR_chk, Holds, Option.getD_none, Option.getD_some, guardR_true, guardR_false, wantV_bool, wantV_none, callvQ_eq, afterR_some, ↓seqQ_normal, ↓seqQ_ret, ↓seqQ_exit, ↓blockQ_normal, ↓blockQ_ret, ↓blockQ_exit, ↓retQ_ret, ↓retQ_normal, ↓callQ_eq, ↓loopQ_normal, ↓loopQ_ret, ↓loopQ_exit, ↓upd_same, upd_at, sel_t, sel_f, initE_at, obj_upd_same, obj_upd_ne, obj_new_same, obj_updnew_same, obj_updnew_same2, obj_new2_same, obj_new3_same, obj_newupd_same, obj_new_ne, obj_new_ne2, obj_new_ne3, obj_new_ne4, next_upd, next_new, add_plain, cop, bin, binInt, un, shiftInt, flat, read_cells, src_ro, src_fix, src_grow, get_cells, List.getElem?_cons_zero, List.getElem?_cons_succ, write_fix, write_grow, setAt, bound, eqK, elemOk_ro, elemOk_fix, elemOk_grow, stiff_ro, stiff_fix, goInt, resultsV, resV, resL, finQ_some, Option.map_some, Option.map_none, Option.bind_some, Option.bind_none, List.map_cons, List.map_nil, List.getD_cons_zero, List.getD_cons_succ, List.getD_nil, Nat.reduceEqDiff, Nat.reduceAdd, Nat.reduceMul, Nat.reduceSub, Nat.reduceLT, Nat.reduceLeDiff, Nat.reduceBEq, if_true, if_false, ite_true, ite_false, List.length_cons, List.length_nil, Nat.zero_add, Nat.add_zero, List.drop_zero, List.drop_succ_cons, List.take_succ_cons, List.take_zero, List.set_cons_zero, List.set_cons_succ, Int.reduceLT, Int.reduceLE, Bool.not_true, Bool.not_false, Option.isNone_some, Option.isNone_none, decide_true, decide_false, beq_self_eq_true, Bool.false_eq_true, Bool.true_eq_false, if_pos, if_neg, reduceCtorEq, beq_iff_eq, BEq.rfl, wrap_i64, wrap_i32, wrap_i8, wrap_u8, wrap_u32, wrap_u64, Nat.mul_one, Int.toNat_natCast, ints_len, List.length_map, List.length_set, beq_ft, beq_tf, List.all_cons, List.all_nil, scalar, Bool.and_self, Bool.true_and, Bool.and_true, List.size_toArray, List.getElem?_toArray, binStr, fillIn, true_and, and_true, true_or, or_true, bne_self_eq_false, Int.reduceToNat, Int.reduceAdd, Int.reduceSub, Int.reduceMul]
    exact hQ _ o
theorem clear_ok {h : Heap} {p nb rb w : Nat} {rv : Value} {rows : List RowT} {c : List Int} (S : SlotAt h p nb rv rb rows w c) {Q : Value → Heap → Prop}
    (hQ : ∀ h', OldX nb h h' → SlotAt h' p nb rv rb rows w (List.replicate (rows.length * w) 0) → Q (.tuple #[]) h') : CALL cp 20 [.pointer (some ⟨p, 0, none⟩)] h Q := by
  rw [CALL_enter cp cp20]
  have op := S.op
  have on := S.on
  have len := S.len
  have hw0 : (ints .i64 (List.replicate (rows.length * w) 0)).length ≤ (ints .i64 c).length := by simp [ints, len]
  have hset : setAt (ints .i64 c) 0 (ints .i64 (List.replicate (rows.length * w) 0)) = ints .i64 (List.replicate (rows.length * w) 0) := by
    have := setAt_over [] (ints .i64 (List.replicate (rows.length * w) 0)) (ints .i64 c) hw0
    rw [List.nil_append, List.nil_append, List.length_nil, List.drop_eq_nil_of_le (by simp [ints, len]), List.append_nil] at this
    exact this
  simp (disch := omega) only [c20, ↓c20_r0_run, ↓c20_r1_run, op, on, eqS, reps_int, hset, List.length_replicate, len, Nat.le_refl, ↓RunC_seq, ↓RunC_skip, ↓RunC_ret, ↓RunC_exit, ↓RunC_region, ↓RunC_condQ, condQ_true, condQ_false, ↓RunC_block, ↓RunR_done, ↓RunR_op, ↓RunR_opg, ↓RunR_snap, ↓RunR_chk, Holds, Option.getD_none, Option.getD_some, guardR_true, guardR_false, wantV_bool, wantV_none, callvQ_eq, afterR_some, ↓seqQ_normal, ↓seqQ_ret, ↓seqQ_exit, ↓blockQ_normal, ↓blockQ_ret, ↓blockQ_exit, ↓retQ_ret, ↓retQ_normal, ↓callQ_eq, ↓loopQ_normal, ↓loopQ_ret, ↓loopQ_exit, ↓upd_same, upd_at, sel_t, sel_f, initE_at, obj_upd_same, obj_upd_ne, obj_new_same, obj_updnew_same, obj_updnew_same2, obj_new2_same, obj_new3_same, obj_newupd_same, obj_new_ne, obj_new_ne2, obj_new_ne3, obj_new_ne4, next_upd, next_new, add_plain, cop, bin, binInt, un, shiftInt, flat, read_cells, src_ro, src_fix, src_grow, get_cells, List.getElem?_cons_zero, List.getElem?_cons_succ, write_fix, write_grow, setAt, bound, eqK, elemOk_ro, elemOk_fix, elemOk_grow, stiff_ro, stiff_fix, goInt, resultsV, resV, resL, finQ_some, Option.map_some, Option.map_none, Option.bind_some, Option.bind_none, List.map_cons, List.map_nil, List.getD_cons_zero, List.getD_cons_succ, List.getD_nil, Nat.reduceEqDiff, Nat.reduceAdd, Nat.reduceMul, Nat.reduceSub, Nat.reduceLT, Nat.reduceLeDiff, Nat.reduceBEq, if_true, if_false, ite_true, ite_false, List.length_cons, List.length_nil, Nat.zero_add, Nat.add_zero, List.drop_zero, List.drop_succ_cons, List.take_succ_cons, List.take_zero, List.set_cons_zero, List.set_cons_succ, Int.reduceLT, Int.reduceLE, Bool.not_true, Bool.not_false, Option.isNone_some, Option.isNone_none, decide_true, decide_false, beq_self_eq_true, Bool.false_eq_true, Bool.true_eq_false, if_pos, if_neg, reduceCtorEq, beq_iff_eq, BEq.rfl, wrap_i64, wrap_i32, wrap_i8, wrap_u8, wrap_u32, wrap_u64, Nat.mul_one, Int.toNat_natCast, ints_len, List.length_map, List.length_set, beq_ft, beq_tf, List.all_cons, List.all_nil, scalar, Bool.and_self, Bool.true_and, Bool.and_true, List.size_toArray, List.getElem?_toArray, binStr, fillIn, true_and, and_true, true_or, or_true, bne_self_eq_false, Int.reduceToNat, Int.reduceAdd, Int.reduceSub, Int.reduceMul]
  exact hQ _ ⟨Nat.le_refl _, fun b _ hb => obj_upd_ne _ _ hb⟩ (S.put (by simp [len]) fun x hx => by rw [(List.mem_replicate.1 hx).2]; unfold I64; omega)
/-- The counters behind a note. -/
def addC (c : List Int) (f : Nat → Nat) (R : Nat) (cost : Int) : List Int := if cost < 1 then c else addN c f (near (leastN c f (R - 1) + cost)) R
theorem leastN_in {h : Heap} {p nb rb w : Nat} {rv : Value} {rows : List RowT} {c : List Int} (S : SlotAt h p nb rv rb rows w c) (key : ByteArray) : ∀ k, k < rows.length → I64 (leastN c (ix rows w key) k)
  | 0, hk => (S.get (S.ix_lt key hk)).2
  | k + 1, hk => by
    have h1 := leastN_in S key k (by omega)
    have h2 := (S.get (S.ix_lt key hk)).2
    simp only [leastN]; unfold I64 at *; omega
theorem add_ok' {h : Heap} {p nb rb w : Nat} {rv : Value} {rows : List RowT} {c : List Int} (S : SlotAt h p nb rv rb rows w c) (key : ByteArray) (hs : key.size ≤ 140737488355328) (cost : Int) (hc : I64 cost) {Q : Value → Heap → Prop}
    (hQ : ∀ h', OldX nb h h' → SlotAt h' p nb rv rb rows w (addC c (ix rows w key) rows.length cost) → Q (.tuple #[]) h') : CALL cp 13 [.pointer (some ⟨p, 0, none⟩), .string key, .int .i64 cost] h Q := by
  rw [CALL_enter cp cp13]
  have h8 := S.hr
  unfold addC at hQ
  by_cases c1 : cost < 1
  · have a1 := decide_eq_true c1
    rw [if_pos c1] at hQ
    simp (disch := omega) only [c13, ↓c13_r0_run, ↓c13_r1_run, ↓c13_r2_run, ↓c13_r3_run, ↓c13_r4_run, ↓c13_r5_run, ↓c13_r6_run, ↓c13_r7_run, eqS, a1, ↓RunC_seq, ↓RunC_skip, ↓RunC_ret, ↓RunC_exit, ↓RunC_region, ↓RunC_condQ, condQ_true, condQ_false, ↓RunC_block, ↓RunR_done, ↓RunR_op, ↓RunR_opg, ↓RunR_snap, ↓RunR_chk, Holds, Option.getD_none, Option.getD_some, guardR_true, guardR_false, wantV_bool, wantV_none, callvQ_eq, afterR_some, ↓seqQ_normal, ↓seqQ_ret, ↓seqQ_exit, ↓blockQ_normal, ↓blockQ_ret, ↓blockQ_exit, ↓retQ_ret, ↓retQ_normal, ↓callQ_eq, ↓loopQ_normal, ↓loopQ_ret, ↓loopQ_exit, ↓upd_same, upd_at, sel_t, sel_f, initE_at, obj_upd_same, obj_upd_ne, obj_new_same, obj_updnew_same, obj_updnew_same2, obj_new2_same, obj_new3_same, obj_newupd_same, obj_new_ne, obj_new_ne2, obj_new_ne3, obj_new_ne4, next_upd, next_new, add_plain, cop, bin, binInt, un, shiftInt, flat, read_cells, src_ro, src_fix, src_grow, get_cells, List.getElem?_cons_zero, List.getElem?_cons_succ, write_fix, write_grow, setAt, bound, eqK, elemOk_ro, elemOk_fix, elemOk_grow, stiff_ro, stiff_fix, goInt, resultsV, resV, resL, finQ_some, Option.map_some, Option.map_none, Option.bind_some, Option.bind_none, List.map_cons, List.map_nil, List.getD_cons_zero, List.getD_cons_succ, List.getD_nil, Nat.reduceEqDiff, Nat.reduceAdd, Nat.reduceMul, Nat.reduceSub, Nat.reduceLT, Nat.reduceLeDiff, Nat.reduceBEq, if_true, if_false, ite_true, ite_false, List.length_cons, List.length_nil, Nat.zero_add, Nat.add_zero, List.drop_zero, List.drop_succ_cons, List.take_succ_cons, List.take_zero, List.set_cons_zero, List.set_cons_succ, Int.reduceLT, Int.reduceLE, Bool.not_true, Bool.not_false, Option.isNone_some, Option.isNone_none, decide_true, decide_false, beq_self_eq_true, Bool.false_eq_true, Bool.true_eq_false, if_pos, if_neg, reduceCtorEq, beq_iff_eq, BEq.rfl, wrap_i64, wrap_i32, wrap_i8, wrap_u8, wrap_u32, wrap_u64, Nat.mul_one, Int.toNat_natCast, ints_len, List.length_map, List.length_set, beq_ft, beq_tf, List.all_cons, List.all_nil, scalar, Bool.and_self, Bool.true_and, Bool.and_true, List.size_toArray, List.getElem?_toArray, binStr, fillIn, true_and, and_true, true_or, or_true, bne_self_eq_false, Int.reduceToNat, Int.reduceAdd, Int.reduceSub, Int.reduceMul]
    exact hQ _ (OldX.refl _ _) S
  have a1 := decide_eq_false c1
  rw [if_neg c1] at hQ
  simp (disch := omega) only [c13, ↓c13_r0_run, ↓c13_r1_run, ↓c13_r2_run, ↓c13_r3_run, ↓c13_r4_run, ↓c13_r5_run, ↓c13_r6_run, ↓c13_r7_run, eqS, a1, ↓RunC_seq, ↓RunC_skip, ↓RunC_ret, ↓RunC_exit, ↓RunC_region, ↓RunC_condQ, condQ_true, condQ_false, ↓RunC_block, ↓RunR_done, ↓RunR_op, ↓RunR_opg, ↓RunR_snap, ↓RunR_chk, Holds, Option.getD_none, Option.getD_some, guardR_true, guardR_false, wantV_bool, wantV_none, callvQ_eq, afterR_some, ↓seqQ_normal, ↓seqQ_ret, ↓seqQ_exit, ↓blockQ_normal, ↓blockQ_ret, ↓blockQ_exit, ↓retQ_ret, ↓retQ_normal, ↓callQ_eq, ↓loopQ_normal, ↓loopQ_ret, ↓loopQ_exit, ↓upd_same, upd_at, sel_t, sel_f, initE_at, obj_upd_same, obj_upd_ne, obj_new_same, obj_updnew_same, obj_updnew_same2, obj_new2_same, obj_new3_same, obj_newupd_same, obj_new_ne, obj_new_ne2, obj_new_ne3, obj_new_ne4, next_upd, next_new, add_plain, cop, bin, binInt, un, shiftInt, flat, read_cells, src_ro, src_fix, src_grow, get_cells, List.getElem?_cons_zero, List.getElem?_cons_succ, write_fix, write_grow, setAt, bound, eqK, elemOk_ro, elemOk_fix, elemOk_grow, stiff_ro, stiff_fix, goInt, resultsV, resV, resL, finQ_some, Option.map_some, Option.map_none, Option.bind_some, Option.bind_none, List.map_cons, List.map_nil, List.getD_cons_zero, List.getD_cons_succ, List.getD_nil, Nat.reduceEqDiff, Nat.reduceAdd, Nat.reduceMul, Nat.reduceSub, Nat.reduceLT, Nat.reduceLeDiff, Nat.reduceBEq, if_true, if_false, ite_true, ite_false, List.length_cons, List.length_nil, Nat.zero_add, Nat.add_zero, List.drop_zero, List.drop_succ_cons, List.take_succ_cons, List.take_zero, List.set_cons_zero, List.set_cons_succ, Int.reduceLT, Int.reduceLE, Bool.not_true, Bool.not_false, Option.isNone_some, Option.isNone_none, decide_true, decide_false, beq_self_eq_true, Bool.false_eq_true, Bool.true_eq_false, if_pos, if_neg, reduceCtorEq, beq_iff_eq, BEq.rfl, wrap_i64, wrap_i32, wrap_i8, wrap_u8, wrap_u32, wrap_u64, Nat.mul_one, Int.toNat_natCast, ints_len, List.length_map, List.length_set, beq_ft, beq_tf, List.all_cons, List.all_nil, scalar, Bool.and_self, Bool.true_and, Bool.and_true, List.size_toArray, List.getElem?_toArray, binStr, fillIn, true_and, and_true, true_or, or_true, bne_self_eq_false, Int.reduceToNat, Int.reduceAdd, Int.reduceSub, Int.reduceMul]
  refine least_ok S key hs fun h1 o1 => ?_
  have S1 := S.old o1
  have lin := leastN_in S key (rows.length - 1) (by omega)
  obtain ⟨want, hwant⟩ : ∃ x, x = near (leastN c (ix rows w key) (rows.length - 1) + cost) := ⟨_, rfl⟩
  have w64 : I64 want := by rw [hwant]; exact near_in _
  have fs := fun h => sum_ok h _ cost lin hc
  have op := S1.op
  obtain ⟨a, cap, er, hcap⟩ := S1.v.val
  rw [er] at op
  rw [← hwant] at hQ
  simp (disch := omega) only [c13, ↓c13_r0_run, ↓c13_r1_run, ↓c13_r2_run, ↓c13_r3_run, ↓c13_r4_run, ↓c13_r5_run, ↓c13_r6_run, ↓c13_r7_run, fs, ← hwant, op, ↓RunC_seq, ↓RunC_skip, ↓RunC_ret, ↓RunC_exit, ↓RunC_region, ↓RunC_condQ, condQ_true, condQ_false, ↓RunC_block, ↓RunR_done, ↓RunR_op, ↓RunR_opg, ↓RunR_snap, ↓RunR_chk, Holds, Option.getD_none, Option.getD_some, guardR_true, guardR_false, wantV_bool, wantV_none, callvQ_eq, afterR_some, ↓seqQ_normal, ↓seqQ_ret, ↓seqQ_exit, ↓blockQ_normal, ↓blockQ_ret, ↓blockQ_exit, ↓retQ_ret, ↓retQ_normal, ↓callQ_eq, ↓loopQ_normal, ↓loopQ_ret, ↓loopQ_exit, ↓upd_same, upd_at, sel_t, sel_f, initE_at, obj_upd_same, obj_upd_ne, obj_new_same, obj_updnew_same, obj_updnew_same2, obj_new2_same, obj_new3_same, obj_newupd_same, obj_new_ne, obj_new_ne2, obj_new_ne3, obj_new_ne4, next_upd, next_new, add_plain, cop, bin, binInt, un, shiftInt, flat, read_cells, src_ro, src_fix, src_grow, get_cells, List.getElem?_cons_zero, List.getElem?_cons_succ, write_fix, write_grow, setAt, bound, eqK, elemOk_ro, elemOk_fix, elemOk_grow, stiff_ro, stiff_fix, goInt, resultsV, resV, resL, finQ_some, Option.map_some, Option.map_none, Option.bind_some, Option.bind_none, List.map_cons, List.map_nil, List.getD_cons_zero, List.getD_cons_succ, List.getD_nil, Nat.reduceEqDiff, Nat.reduceAdd, Nat.reduceMul, Nat.reduceSub, Nat.reduceLT, Nat.reduceLeDiff, Nat.reduceBEq, if_true, if_false, ite_true, ite_false, List.length_cons, List.length_nil, Nat.zero_add, Nat.add_zero, List.drop_zero, List.drop_succ_cons, List.take_succ_cons, List.take_zero, List.set_cons_zero, List.set_cons_succ, Int.reduceLT, Int.reduceLE, Bool.not_true, Bool.not_false, Option.isNone_some, Option.isNone_none, decide_true, decide_false, beq_self_eq_true, Bool.false_eq_true, Bool.true_eq_false, if_pos, if_neg, reduceCtorEq, beq_iff_eq, BEq.rfl, wrap_i64, wrap_i32, wrap_i8, wrap_u8, wrap_u32, wrap_u64, Nat.mul_one, Int.toNat_natCast, ints_len, List.length_map, List.length_set, beq_ft, beq_tf, List.all_cons, List.all_nil, scalar, Bool.and_self, Bool.true_and, Bool.and_true, List.size_toArray, List.getElem?_toArray, binStr, fillIn, true_and, and_true, true_or, or_true, bne_self_eq_false, Int.reduceToNat, Int.reduceAdd, Int.reduceSub, Int.reduceMul]
  refine RunC_loop cp c13_l0 _ (fun d e hh => ∃ j : Nat, j + d = rows.length ∧ OldX nb h hh ∧ SlotAt hh p nb rv rb rows w (addN c (ix rows w key) want j) ∧ e 0 = .pointer (some ⟨p, 0, none⟩) ∧ e 1 = .string key ∧ e 6 = .int .i64 want ∧ e 24 = .int .i64 rows.length ∧ e 25 = .int .i64 j) ?_ rows.length _ _
    ⟨0, by omega, o1.x nb, S1, rfl, rfl, rfl, rfl, rfl⟩
  rintro d e hh ⟨j, hj, o, S2, e0, e1, e6, e24, e25⟩
  by_cases cj : j < rows.length
  · have b1 : decide ((j : Int) < (rows.length : Int)) = true := decide_eq_true (by omega)
    have nx : (j : Int) + 1 = ((j + 1 : Nat) : Int) := by omega
    simp (disch := omega) only [c13_l0, c13, ↓c13_r0_run, ↓c13_r1_run, ↓c13_r2_run, ↓c13_r3_run, ↓c13_r4_run, ↓c13_r5_run, ↓c13_r6_run, ↓c13_r7_run, e0, e1, e6, e24, e25, b1, ↓RunC_seq, ↓RunC_skip, ↓RunC_ret, ↓RunC_exit, ↓RunC_region, ↓RunC_condQ, condQ_true, condQ_false, ↓RunC_block, ↓RunR_done, ↓RunR_op, ↓RunR_opg, ↓RunR_snap, ↓RunR_chk, Holds, Option.getD_none, Option.getD_some, guardR_true, guardR_false, wantV_bool, wantV_none, callvQ_eq, afterR_some, ↓seqQ_normal, ↓seqQ_ret, ↓seqQ_exit, ↓blockQ_normal, ↓blockQ_ret, ↓blockQ_exit, ↓retQ_ret, ↓retQ_normal, ↓callQ_eq, ↓loopQ_normal, ↓loopQ_ret, ↓loopQ_exit, ↓upd_same, upd_at, sel_t, sel_f, initE_at, obj_upd_same, obj_upd_ne, obj_new_same, obj_updnew_same, obj_updnew_same2, obj_new2_same, obj_new3_same, obj_newupd_same, obj_new_ne, obj_new_ne2, obj_new_ne3, obj_new_ne4, next_upd, next_new, add_plain, cop, bin, binInt, un, shiftInt, flat, read_cells, src_ro, src_fix, src_grow, get_cells, List.getElem?_cons_zero, List.getElem?_cons_succ, write_fix, write_grow, setAt, bound, eqK, elemOk_ro, elemOk_fix, elemOk_grow, stiff_ro, stiff_fix, goInt, resultsV, resV, resL, finQ_some, Option.map_some, Option.map_none, Option.bind_some, Option.bind_none, List.map_cons, List.map_nil, List.getD_cons_zero, List.getD_cons_succ, List.getD_nil, Nat.reduceEqDiff, Nat.reduceAdd, Nat.reduceMul, Nat.reduceSub, Nat.reduceLT, Nat.reduceLeDiff, Nat.reduceBEq, if_true, if_false, ite_true, ite_false, List.length_cons, List.length_nil, Nat.zero_add, Nat.add_zero, List.drop_zero, List.drop_succ_cons, List.take_succ_cons, List.take_zero, List.set_cons_zero, List.set_cons_succ, Int.reduceLT, Int.reduceLE, Bool.not_true, Bool.not_false, Option.isNone_some, Option.isNone_none, decide_true, decide_false, beq_self_eq_true, Bool.false_eq_true, Bool.true_eq_false, if_pos, if_neg, reduceCtorEq, beq_iff_eq, BEq.rfl, wrap_i64, wrap_i32, wrap_i8, wrap_u8, wrap_u32, wrap_u64, Nat.mul_one, Int.toNat_natCast, ints_len, List.length_map, List.length_set, beq_ft, beq_tf, List.all_cons, List.all_nil, scalar, Bool.and_self, Bool.true_and, Bool.and_true, List.size_toArray, List.getElem?_toArray, binStr, fillIn, true_and, and_true, true_or, or_true, bne_self_eq_false, Int.reduceToNat, Int.reduceAdd, Int.reduceSub, Int.reduceMul]
    refine at_ok S2 key hs j cj fun h' o' => ?_
    have S' := S2.old o'
    have hi := S'.ix_lt key cj
    obtain ⟨hg, g64⟩ := S'.get hi
    have hg := ints_get .i64 _ hg
    have on := S'.on
    have len := S'.len
    have m64 : I64 (max (ctr (addN c (ix rows w key) want j) (ix rows w key j)) want) := by unfold I64 at *; omega
    have S3 := S'.put (d := addN c (ix rows w key) want (j + 1)) (by simp only [addN, List.length_set]) (by simp only [addN]; exact set64 S'.c64 m64)
    simp only [addN] at S3
    simp (disch := omega) only [c13, ↓c13_r0_run, ↓c13_r1_run, ↓c13_r2_run, ↓c13_r3_run, ↓c13_r4_run, ↓c13_r5_run, ↓c13_r6_run, ↓c13_r7_run, e0, e1, e6, e24, e25, on, hg, ↓mm_max, nx, setAt_one, ints_set, ints_len, len, ↓RunC_seq, ↓RunC_skip, ↓RunC_ret, ↓RunC_exit, ↓RunC_region, ↓RunC_condQ, condQ_true, condQ_false, ↓RunC_block, ↓RunR_done, ↓RunR_op, ↓RunR_opg, ↓RunR_snap, ↓RunR_chk, Holds, Option.getD_none, Option.getD_some, guardR_true, guardR_false, wantV_bool, wantV_none, callvQ_eq, afterR_some, ↓seqQ_normal, ↓seqQ_ret, ↓seqQ_exit, ↓blockQ_normal, ↓blockQ_ret, ↓blockQ_exit, ↓retQ_ret, ↓retQ_normal, ↓callQ_eq, ↓loopQ_normal, ↓loopQ_ret, ↓loopQ_exit, ↓upd_same, upd_at, sel_t, sel_f, initE_at, obj_upd_same, obj_upd_ne, obj_new_same, obj_updnew_same, obj_updnew_same2, obj_new2_same, obj_new3_same, obj_newupd_same, obj_new_ne, obj_new_ne2, obj_new_ne3, obj_new_ne4, next_upd, next_new, add_plain, cop, bin, binInt, un, shiftInt, flat, read_cells, src_ro, src_fix, src_grow, get_cells, List.getElem?_cons_zero, List.getElem?_cons_succ, write_fix, write_grow, setAt, bound, eqK, elemOk_ro, elemOk_fix, elemOk_grow, stiff_ro, stiff_fix, goInt, resultsV, resV, resL, finQ_some, Option.map_some, Option.map_none, Option.bind_some, Option.bind_none, List.map_cons, List.map_nil, List.getD_cons_zero, List.getD_cons_succ, List.getD_nil, Nat.reduceEqDiff, Nat.reduceAdd, Nat.reduceMul, Nat.reduceSub, Nat.reduceLT, Nat.reduceLeDiff, Nat.reduceBEq, if_true, if_false, ite_true, ite_false, List.length_cons, List.length_nil, Nat.zero_add, Nat.add_zero, List.drop_zero, List.drop_succ_cons, List.take_succ_cons, List.take_zero, List.set_cons_zero, List.set_cons_succ, Int.reduceLT, Int.reduceLE, Bool.not_true, Bool.not_false, Option.isNone_some, Option.isNone_none, decide_true, decide_false, beq_self_eq_true, Bool.false_eq_true, Bool.true_eq_false, if_pos, if_neg, reduceCtorEq, beq_iff_eq, BEq.rfl, wrap_i64, wrap_i32, wrap_i8, wrap_u8, wrap_u32, wrap_u64, Nat.mul_one, Int.toNat_natCast, ints_len, List.length_map, List.length_set, beq_ft, beq_tf, List.all_cons, List.all_nil, scalar, Bool.and_self, Bool.true_and, Bool.and_true, List.size_toArray, List.getElem?_toArray, binStr, fillIn, true_and, and_true, true_or, or_true, bne_self_eq_false, Int.reduceToNat, Int.reduceAdd, Int.reduceSub, Int.reduceMul]
    refine ⟨d - 1, by omega, j + 1, by omega, (o.trans (o'.x nb)).trans ⟨Nat.le_refl _, fun b _ hb => obj_upd_ne _ _ hb⟩, S3, ?_⟩
    repeat' first | assumption | rfl | apply And.intro
  · have b1 : decide ((j : Int) < (rows.length : Int)) = false := decide_eq_false (by omega)
    obtain rfl : j = rows.length := by omega
    simp (disch := omega) only [c13_l0, c13, ↓c13_r0_run, ↓c13_r1_run, ↓c13_r2_run, ↓c13_r3_run, ↓c13_r4_run, ↓c13_r5_run, ↓c13_r6_run, ↓c13_r7_run, e0, e1, e6, e24, e25, b1, ↓RunC_seq, ↓RunC_skip, ↓RunC_ret, ↓RunC_exit, ↓RunC_region, ↓RunC_condQ, condQ_true, condQ_false, ↓RunC_block, ↓RunR_done, ↓RunR_op, ↓RunR_opg, ↓RunR_snap, ↓RunR_chk, Holds, Option.getD_none, Option.getD_some, guardR_true, guardR_false, wantV_bool, wantV_none, callvQ_eq, afterR_some, ↓seqQ_normal, ↓seqQ_ret, ↓seqQ_exit, ↓blockQ_normal, ↓blockQ_ret, ↓blockQ_exit, ↓retQ_ret, ↓retQ_normal, ↓callQ_eq, ↓loopQ_normal, ↓loopQ_ret, ↓loopQ_exit, ↓upd_same, upd_at, sel_t, sel_f, initE_at, obj_upd_same, obj_upd_ne, obj_new_same, obj_updnew_same, obj_updnew_same2, obj_new2_same, obj_new3_same, obj_newupd_same, obj_new_ne, obj_new_ne2, obj_new_ne3, obj_new_ne4, next_upd, next_new, add_plain, cop, bin, binInt, un, shiftInt, flat, read_cells, src_ro, src_fix, src_grow, get_cells, List.getElem?_cons_zero, List.getElem?_cons_succ, write_fix, write_grow, setAt, bound, eqK, elemOk_ro, elemOk_fix, elemOk_grow, stiff_ro, stiff_fix, goInt, resultsV, resV, resL, finQ_some, Option.map_some, Option.map_none, Option.bind_some, Option.bind_none, List.map_cons, List.map_nil, List.getD_cons_zero, List.getD_cons_succ, List.getD_nil, Nat.reduceEqDiff, Nat.reduceAdd, Nat.reduceMul, Nat.reduceSub, Nat.reduceLT, Nat.reduceLeDiff, Nat.reduceBEq, if_true, if_false, ite_true, ite_false, List.length_cons, List.length_nil, Nat.zero_add, Nat.add_zero, List.drop_zero, List.drop_succ_cons, List.take_succ_cons, List.take_zero, List.set_cons_zero, List.set_cons_succ, Int.reduceLT, Int.reduceLE, Bool.not_true, Bool.not_false, Option.isNone_some, Option.isNone_none, decide_true, decide_false, beq_self_eq_true, Bool.false_eq_true, Bool.true_eq_false, if_pos, if_neg, reduceCtorEq, beq_iff_eq, BEq.rfl, wrap_i64, wrap_i32, wrap_i8, wrap_u8, wrap_u32, wrap_u64, Nat.mul_one, Int.toNat_natCast, ints_len, List.length_map, List.length_set, beq_ft, beq_tf, List.all_cons, List.all_nil, scalar, Bool.and_self, Bool.true_and, Bool.and_true, List.size_toArray, List.getElem?_toArray, binStr, fillIn, true_and, and_true, true_or, or_true, bne_self_eq_false, Int.reduceToNat, Int.reduceAdd, Int.reduceSub, Int.reduceMul]
    exact hQ _ o S2
theorem slotBytes_ok (h : Heap) (r w : Nat) (hr : r ≤ 8) (hw : w ≤ 4096) (Q : Value → Heap → Prop) : CALL cp 21 [.int .i64 r, .int .i64 w] h Q ↔ Q (.int .i64 ((8 * r * w : Nat) : Int)) h := by
  refine CALL_det ?_ Q
  rw [CALL_enter cp cp21]
  have hm : r * w ≤ 8 * 4096 := Nat.mul_le_mul hr hw
  have k1 : 8 * (r : Int) = ((8 * r : Nat) : Int) := by omega
  have k2 : ((8 * r : Nat) : Int) * (w : Int) = ((8 * r * w : Nat) : Int) := by rw [← Int.natCast_mul]
  have k3 : 8 * r * w ≤ 262144 := by rw [Nat.mul_assoc]; omega
  simp (disch := omega) only [c21, ↓c21_r0_run, ↓c21_r1_run, k1, k2, ↓RunC_seq, ↓RunC_skip, ↓RunC_ret, ↓RunC_exit, ↓RunC_region, ↓RunC_condQ, condQ_true, condQ_false, ↓RunC_block, ↓RunR_done, ↓RunR_op, ↓RunR_opg, ↓RunR_snap, ↓RunR_chk, Holds, Option.getD_none, Option.getD_some, guardR_true, guardR_false, wantV_bool, wantV_none, callvQ_eq, afterR_some, ↓seqQ_normal, ↓seqQ_ret, ↓seqQ_exit, ↓blockQ_normal, ↓blockQ_ret, ↓blockQ_exit, ↓retQ_ret, ↓retQ_normal, ↓callQ_eq, ↓loopQ_normal, ↓loopQ_ret, ↓loopQ_exit, ↓upd_same, upd_at, sel_t, sel_f, initE_at, obj_upd_same, obj_upd_ne, obj_new_same, obj_updnew_same, obj_updnew_same2, obj_new2_same, obj_new3_same, obj_newupd_same, obj_new_ne, obj_new_ne2, obj_new_ne3, obj_new_ne4, next_upd, next_new, add_plain, cop, bin, binInt, un, shiftInt, flat, read_cells, src_ro, src_fix, src_grow, get_cells, List.getElem?_cons_zero, List.getElem?_cons_succ, write_fix, write_grow, setAt, bound, eqK, elemOk_ro, elemOk_fix, elemOk_grow, stiff_ro, stiff_fix, goInt, resultsV, resV, resL, finQ_some, Option.map_some, Option.map_none, Option.bind_some, Option.bind_none, List.map_cons, List.map_nil, List.getD_cons_zero, List.getD_cons_succ, List.getD_nil, Nat.reduceEqDiff, Nat.reduceAdd, Nat.reduceMul, Nat.reduceSub, Nat.reduceLT, Nat.reduceLeDiff, Nat.reduceBEq, if_true, if_false, ite_true, ite_false, List.length_cons, List.length_nil, Nat.zero_add, Nat.add_zero, List.drop_zero, List.drop_succ_cons, List.take_succ_cons, List.take_zero, List.set_cons_zero, List.set_cons_succ, Int.reduceLT, Int.reduceLE, Bool.not_true, Bool.not_false, Option.isNone_some, Option.isNone_none, decide_true, decide_false, beq_self_eq_true, Bool.false_eq_true, Bool.true_eq_false, if_pos, if_neg, reduceCtorEq, beq_iff_eq, BEq.rfl, wrap_i64, wrap_i32, wrap_i8, wrap_u8, wrap_u32, wrap_u64, Nat.mul_one, Int.toNat_natCast, ints_len, List.length_map, List.length_set, beq_ft, beq_tf, List.all_cons, List.all_nil, scalar, Bool.and_self, Bool.true_and, Bool.and_true, List.size_toArray, List.getElem?_toArray, binStr, fillIn, true_and, and_true, true_or, or_true, bne_self_eq_false, Int.reduceToNat, Int.reduceAdd, Int.reduceSub, Int.reduceMul]
end Go.Proofs.Ytkoclacmomlmaaa.Can
