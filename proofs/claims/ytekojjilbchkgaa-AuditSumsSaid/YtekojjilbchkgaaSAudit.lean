/- The ledger, in the canonical machine. No condition. -/
import Derived.Test.YtekojjilbchkgaaSArith
import Derived.Test.YtekojjilbchkgaaArg
namespace Go.Proofs.Ytekojjilbchkgaa.Can
open Go
set_option linter.unusedSimpArgs false
set_option linter.unusedVariables false
attribute [local congr] RunR_congr RunC_congr afterR_congr guardR_congr condQ_congr CALL_congr finQ_congr op_congr opg_congr

abbrev Ev := Int × Int
abbrev EE : Enc Ev := Enc.pair (Enc.int .i64) (Enc.int .i64)
abbrev Wh := Int × ByteArray
abbrev KW : KK := .agg [.int, .str]
abbrev whV (w : Wh) : Value := .agg #[.int .i64 w.1, .string w.2]
def sameW (a b : Wh) : Bool := a.1 == b.1 && a.2.toList == b.2.toList
theorem sameW_self (a : Wh) : sameW a a = true := by simp [sameW]
abbrev Led := List (Wh × List Ev)
def look (w : Wh) : Led → List Ev
  | [] => []
  | x :: r => if sameW w x.1 then x.2 else look w r
def note (w : Wh) (e : Ev) : Led → Led
  | [] => [(w, [e])]
  | x :: r => if sameW w x.1 then (w, x.2 ++ [e]) :: r else x :: note w e r
def idx (w : Wh) : Led → Nat → Option Nat
  | [], _ => none
  | x :: r, k => if sameW w x.1 then some k else idx w r (k + 1)
theorem keyEq_wh (a b : Wh) : keyEq KW (whV a) (whV b) = some (sameW a b) := by
  simp only [keyEq, eqL, eqS, if_true, Option.bind_some, Option.map_some, Bool.and_true, sameW]
theorem find_es (w : Wh) : ∀ (ws : Led) (es : List MapEntry) (k : Nat), es.length = ws.length → (∀ (i : Nat) (e : MapEntry) (x : Wh × List Ev), es[i]? = some e → ws[i]? = some x → e.key = whV x.1) → findEntry KW (whV w) es k = some (idx w ws k)
  | [], [], k, _, _ => rfl
  | [], e :: es, k, h, _ => by simp at h
  | x :: ws, [], k, h, _ => by simp at h
  | x :: ws, e :: es, k, h, hk => by
    have h1 := hk 0 e x rfl rfl
    have ih := find_es w ws es (k + 1) (by simpa using h) fun i e x he hx => hk (i + 1) e x (by simpa using he) (by simpa using hx)
    simp only [findEntry, h1, keyEq_wh, Option.bind_some, idx]
    split
    · rfl
    · exact ih
theorem idx_some {w : Wh} : ∀ {ws : Led} {k i : Nat}, idx w ws k = some i → ∃ j x, i = k + j ∧ ws[j]? = some x ∧ look w ws = x.2 ∧ ∀ e, note w e ws = ws.set j (w, x.2 ++ [e])
  | [], k, i, h => by simp [idx] at h
  | x :: ws, k, i, h => by
    simp only [idx] at h
    split at h
    · rename_i hs
      obtain rfl := Option.some.inj h
      exact ⟨0, x, rfl, rfl, by simp only [look]; rw [if_pos hs], fun e => by simp only [note]; rw [if_pos hs]; rfl⟩
    · rename_i hs
      obtain ⟨j, y, h1, h2, h3, h4⟩ := idx_some h
      exact ⟨j + 1, y, by omega, by simpa using h2, by simp only [look]; rw [if_neg hs]; exact h3, fun e => by simp only [note]; rw [if_neg hs, h4 e]; rfl⟩
theorem idx_none {w : Wh} : ∀ {ws : Led} {k : Nat}, idx w ws k = none → look w ws = [] ∧ ∀ e, note w e ws = ws ++ [(w, [e])]
  | [], k, h => ⟨rfl, fun e => rfl⟩
  | x :: ws, k, h => by
    simp only [idx] at h
    split at h
    · simp at h
    · rename_i hs
      obtain ⟨h1, h2⟩ := idx_none h
      exact ⟨by simp only [look]; rw [if_neg hs]; exact h1, fun e => by simp only [note]; rw [if_neg hs, h2 e]; rfl⟩

/-- A ledger as it lies: its place, its map's, those of the lists. -/
structure LedAt (h : Heap) (p mb : Nat) (bs : List Nat) (ws : Led) : Prop where
  hp : h.obj p = .cells [.map (some mb)] 42 .fix
  lp : p < h.next
  lm : mb < h.next
  pm : p ≠ mb
  map : ∃ es, h.obj mb = .map es ws.length ∧ es.length = ws.length ∧ ∀ (i : Nat) e x b, es[i]? = some e → ws[i]? = some x → bs[i]? = some b → e.key = whV x.1 ∧ e.born = i ∧ Vec h 45 EE e.val x.2 b
  lb : bs.length = ws.length
  nd : bs.Nodup
  ob : ∀ b ∈ bs, b ≠ p ∧ b ≠ mb ∧ b < h.next
section
variable {h h' : Heap} {p mb : Nat} {bs : List Nat} {ws : Led}
theorem LedAt.old (L : LedAt h p mb bs ws) (hn : h.next ≤ h'.next) (hp : h'.obj p = h.obj p) (hm : h'.obj mb = h.obj mb) (hb : ∀ b ∈ bs, h'.obj b = h.obj b) : LedAt h' p mb bs ws := by
  obtain ⟨es, h1, h2, h3⟩ := L.map
  refine ⟨by rw [hp]; exact L.hp, Nat.lt_of_lt_of_le L.lp hn, Nat.lt_of_lt_of_le L.lm hn, L.pm, ⟨es, by rw [hm]; exact h1, h2, fun i e x b he hx hb' => ?_⟩, L.lb, L.nd, fun b hb' => ⟨(L.ob b hb').1, (L.ob b hb').2.1, Nat.lt_of_lt_of_le (L.ob b hb').2.2 hn⟩⟩
  obtain ⟨k1, k2, k3⟩ := h3 i e x b he hx hb'
  exact ⟨k1, k2, k3.keep hn fun _ => hb b (List.mem_of_getElem? hb')⟩
theorem LedAt.oldH (L : LedAt h p mb bs ws) (o : Old h h') : LedAt h' p mb bs ws :=
  L.old o.next (o.obj p L.lp) (o.obj mb L.lm) fun b hb => o.obj b (L.ob b hb).2.2
/-- A key's list, as it is looked up. -/
theorem LedAt.read (L : LedAt h p mb bs ws) (w : Wh) : ∃ v, Lst h EE v (look w ws) ∧ ∀ hh : Heap, hh.obj mb = h.obj mb → cop (.lookup KW (.slice none 0 0) false (.map (some mb)) (whV w)) hh = some (v, hh) := by
  obtain ⟨es, h1, h2, h3⟩ := L.map
  have hk := keyEq_wh w w
  rw [sameW_self] at hk
  have lb : bs.length = ws.length := L.lb
  have hf := find_es w ws es 0 h2 fun i e x he hx => by
    have hi : i < bs.length := by rw [lb]; exact (List.getElem?_eq_some_iff.1 hx).1
    exact (h3 i e x _ he hx (List.getElem?_eq_getElem hi)).1
  cases hq : idx w ws 0 with
  | none =>
    refine ⟨.slice none 0 0, by rw [(idx_none hq).1]; exact ⟨none, 0, rfl, fun i x hx => by simp at hx⟩, fun hh ho => ?_⟩
    simp only [cop, ho, h1, hk, Option.bind_some, hf, hq, Option.map_some]
    rfl
  | some i =>
    obtain ⟨j, x, rfl, hx, hl, _⟩ := idx_some hq
    have hj : j < ws.length := (List.getElem?_eq_some_iff.1 hx).1
    have he : es[j]? = some (es[j]'(by omega)) := List.getElem?_eq_getElem (by omega)
    have hb : bs[j]? = some (bs[j]'(by omega)) := List.getElem?_eq_getElem (by omega)
    refine ⟨(es[j]'(by omega)).val, by rw [hl]; exact (h3 j _ x _ he hx hb).2.2.sl, fun hh ho => ?_⟩
    simp only [cop, ho, h1, hk, Option.bind_some, hf, hq, Option.map_some, Nat.zero_add, he]
    rfl
end
theorem lnew_ok (h : Heap) {Q : Value → Heap → Prop} (hQ : ∀ h', LedAt h' (h.next + 1) h.next [] [] → h.next ≤ h'.next → (∀ x, x < h.next → h'.obj x = h.obj x) → Q (.pointer (some ⟨h.next + 1, 0, none⟩)) h') : CALL cp 9 [] h Q := by
  rw [CALL_enter cp cp9]
  simp (disch := first | omega | (simp only [next_new, next_upd, ne_eq]; omega)) only [c9, ↓c9_r0_run, ↓c9_r1_run, ↓RunC_seq, ↓RunC_skip, ↓RunC_ret, ↓RunC_exit, ↓RunC_region, ↓RunC_condQ, condQ_true, condQ_false, ↓RunC_block, ↓RunR_done, ↓RunR_op, ↓RunR_opg, ↓RunR_snap, ↓RunR_chk, Holds, Option.getD_none, Option.getD_some, guardR_true, guardR_false, wantV_bool, wantV_none, callvQ_eq, afterR_some, ↓seqQ_normal, ↓seqQ_ret, ↓seqQ_exit, ↓blockQ_normal, ↓blockQ_ret, ↓blockQ_exit, ↓retQ_ret, ↓retQ_normal, ↓callQ_eq, ↓loopQ_normal, ↓loopQ_ret, ↓loopQ_exit, ↓upd_same, upd_at, sel_t, sel_f, initE_at, obj_upd_same, obj_upd_ne, obj_new_same, obj_updnew_same, obj_updnew_same2, obj_new2_same, obj_new3_same, obj_newupd_same, obj_new_ne, obj_new_ne2, obj_new_ne3, obj_new_ne4, next_upd, next_new, add_plain, cop, bin, binInt, un, shiftInt, flat, read_cells, src_ro, src_fix, src_grow, get_cells, List.getElem?_cons_zero, List.getElem?_cons_succ, write_fix, write_grow, setAt, bound, eqK, elemOk_ro, elemOk_fix, elemOk_grow, stiff_ro, stiff_fix, goInt, resultsV, resV, resL, finQ_some, Option.map_some, Option.map_none, Option.bind_some, Option.bind_none, List.map_cons, List.map_nil, List.getD_cons_zero, List.getD_cons_succ, List.getD_nil, Nat.reduceEqDiff, Nat.reduceAdd, Nat.reduceMul, Nat.reduceSub, Nat.reduceLT, Nat.reduceLeDiff, Nat.reduceBEq, if_true, if_false, ite_true, ite_false, List.length_cons, List.length_nil, Nat.zero_add, Nat.add_zero, List.drop_zero, List.drop_succ_cons, List.take_succ_cons, List.take_zero, List.set_cons_zero, List.set_cons_succ, Int.reduceLT, Int.reduceLE, Bool.not_true, Bool.not_false, Option.isNone_some, Option.isNone_none, decide_true, decide_false, beq_self_eq_true, Bool.false_eq_true, Bool.true_eq_false, if_pos, if_neg, reduceCtorEq, beq_iff_eq, BEq.rfl, wrap_i64, wrap_i32, wrap_i8, wrap_u8, wrap_u32, wrap_u64, Nat.mul_one, Int.toNat_natCast, ints_len, List.length_map, List.length_set, beq_ft, beq_tf, List.all_cons, List.all_nil, scalar, Bool.and_self, Bool.true_and, Bool.and_true, List.size_toArray, List.getElem?_toArray, binStr, fillIn, true_and, and_true, true_or, or_true, bne_self_eq_false, Int.reduceToNat, Int.reduceAdd, Int.reduceSub, Int.reduceMul]
  refine hQ _ ⟨?_, by simp only [next_new]; omega, by simp only [next_new]; omega, by omega, ⟨[], ?_, rfl, fun i e x b he => by simp at he⟩, rfl, List.nodup_nil, fun b hb => by simp at hb⟩ (by simp only [next_new]; omega) fun x hx => ?_
  · rw [show h.next + 1 = (h.new (.map [] 0)).next from rfl, obj_new_same]
  · rw [obj_new_ne2 _ _ _ (by omega), obj_new_same]; rfl
  · rw [obj_new_ne2 _ _ _ (by omega), obj_new_ne _ _ (by omega)]
def total (ws : Led) : Nat := (ws.map fun x => x.2.length).sum
theorem look_le (w : Wh) : ∀ (ws : Led), (look w ws).length ≤ total ws
  | [] => Nat.le_refl _
  | x :: ws => by
    have ih := look_le w ws
    simp only [look, total, List.map_cons, List.sum_cons] at ih ⊢
    split <;> omega

/-- A sum of what was noted in a stretch. -/
def sumL (a b : Int) : Int → List Ev → Int
  | s, [] => s
  | s, e :: l => sumL a b (if a ≤ e.1 ∧ e.1 < b then near (s + e.2) else s) l
theorem sumL_app (a b : Int) : ∀ (l m : List Ev) (s : Int), sumL a b s (l ++ m) = sumL a b (sumL a b s l) m
  | [], m, s => rfl
  | e :: l, m, s => sumL_app a b l m _
theorem sumL_in (a b : Int) : ∀ (l : List Ev) (s : Int), I64 s → I64 (sumL a b s l)
  | [], s, h => h
  | e :: l, s, h => sumL_in a b l _ (by split; exact near_in _; exact h)
theorem lsum_ok {h : Heap} {p mb : Nat} {bs : List Nat} {ws : Led} (L : LedAt h p mb bs ws) (w : Wh) (a b : Int) (hg : ∀ e ∈ look w ws, I64 e.1 ∧ I64 e.2) (hlen : (look w ws).length ≤ 1000000) {Q : Value → Heap → Prop}
    (hQ : ∀ h', Old h h' → Q (.int .i64 (sumL a b 0 (look w ws))) h') : CALL cp 12 [.pointer (some ⟨p, 0, none⟩), .agg #[.int .i64 w.1, .string w.2], .int .i64 a, .int .i64 b] h Q := by
  rw [CALL_enter cp cp12]
  have hp := L.hp
  have lp := L.lp
  have lm := L.lm
  obtain ⟨v, ⟨a0, cap, rfl, hrd⟩, hlk⟩ := L.read w
  have old0 : Old h (h.new (.cells [.int .i64 w.1, .string w.2] 30 .fix)) := (Old.refl h).more _
  have f := hlk _ (old0.obj mb lm)
  simp (disch := first | omega | (simp only [next_new, next_upd, ne_eq]; omega)) only [c12, ↓c12_r0_run, ↓c12_r1_run, ↓c12_r2_run, ↓c12_r3_run, ↓c12_r4_run, ↓c12_r5_run, ↓c12_r6_run, ↓c12_r7_run, ↓c12_r8_run, ↓c12_r9_run, ↓c12_r10_run, hp, ↓f, ↓RunC_seq, ↓RunC_skip, ↓RunC_ret, ↓RunC_exit, ↓RunC_region, ↓RunC_condQ, condQ_true, condQ_false, ↓RunC_block, ↓RunR_done, ↓RunR_op, ↓RunR_opg, ↓RunR_snap, ↓RunR_chk, Holds, Option.getD_none, Option.getD_some, guardR_true, guardR_false, wantV_bool, wantV_none, callvQ_eq, afterR_some, ↓seqQ_normal, ↓seqQ_ret, ↓seqQ_exit, ↓blockQ_normal, ↓blockQ_ret, ↓blockQ_exit, ↓retQ_ret, ↓retQ_normal, ↓callQ_eq, ↓loopQ_normal, ↓loopQ_ret, ↓loopQ_exit, ↓upd_same, upd_at, sel_t, sel_f, initE_at, obj_upd_same, obj_upd_ne, obj_new_same, obj_updnew_same, obj_updnew_same2, obj_new2_same, obj_new3_same, obj_newupd_same, obj_new_ne, obj_new_ne2, obj_new_ne3, obj_new_ne4, next_upd, next_new, add_plain, cop, bin, binInt, un, shiftInt, flat, read_cells, src_ro, src_fix, src_grow, get_cells, List.getElem?_cons_zero, List.getElem?_cons_succ, write_fix, write_grow, setAt, bound, eqK, elemOk_ro, elemOk_fix, elemOk_grow, stiff_ro, stiff_fix, goInt, resultsV, resV, resL, finQ_some, Option.map_some, Option.map_none, Option.bind_some, Option.bind_none, List.map_cons, List.map_nil, List.getD_cons_zero, List.getD_cons_succ, List.getD_nil, Nat.reduceEqDiff, Nat.reduceAdd, Nat.reduceMul, Nat.reduceSub, Nat.reduceLT, Nat.reduceLeDiff, Nat.reduceBEq, if_true, if_false, ite_true, ite_false, List.length_cons, List.length_nil, Nat.zero_add, Nat.add_zero, List.drop_zero, List.drop_succ_cons, List.take_succ_cons, List.take_zero, List.set_cons_zero, List.set_cons_succ, Int.reduceLT, Int.reduceLE, Bool.not_true, Bool.not_false, Option.isNone_some, Option.isNone_none, decide_true, decide_false, beq_self_eq_true, Bool.false_eq_true, Bool.true_eq_false, if_pos, if_neg, reduceCtorEq, beq_iff_eq, BEq.rfl, wrap_i64, wrap_i32, wrap_i8, wrap_u8, wrap_u32, wrap_u64, Nat.mul_one, Int.toNat_natCast, ints_len, List.length_map, List.length_set, beq_ft, beq_tf, List.all_cons, List.all_nil, scalar, Bool.and_self, Bool.true_and, Bool.and_true, List.size_toArray, List.getElem?_toArray, binStr, fillIn, true_and, and_true, true_or, or_true, bne_self_eq_false, Int.reduceToNat, Int.reduceAdd, Int.reduceSub, Int.reduceMul]
  refine RunC_loop cp c12_l0 _ (fun d e hh => ∃ j, j + d = (look w ws).length ∧ Old h hh ∧ e 2 = .int .i64 a ∧ e 3 = .int .i64 b ∧ e 9 = .int .i64 (sumL a b 0 ((look w ws).take j)) ∧ e 19 = .slice a0 (look w ws).length cap ∧ e 20 = .int .i64 (look w ws).length ∧ e 21 = .int .i64 j) ?_ (look w ws).length _ _
    ⟨0, by omega, old0, rfl, rfl, rfl, rfl, rfl, rfl⟩
  rintro d e hh ⟨j, hj, old, i2, i3, i9, i19, i20, i21⟩
  by_cases hjl : j < (look w ws).length
  · have b1 : decide ((j : Int) < (look w ws).length) = true := decide_eq_true (by omega)
    have hx : (look w ws)[j]? = some (look w ws)[j] := List.getElem?_eq_getElem hjl
    have hmem : (look w ws)[j] ∈ look w ws := List.getElem_mem hjl
    obtain ⟨bb, o, rfl, hb, hr⟩ := hrd j _ hx
    rw [← old.obj bb hb] at hr
    have ht := take_get hx
    have hsum : sumL a b 0 ((look w ws).take (j + 1)) = if a ≤ ((look w ws)[j]).1 ∧ ((look w ws)[j]).1 < b then near (sumL a b 0 ((look w ws).take j) + ((look w ws)[j]).2) else sumL a b 0 ((look w ws).take j) := by rw [ht, sumL_app]; rfl
    have hin := sumL_in a b ((look w ws).take j) 0 (by unfold I64; omega)
    have hgx := hg _ hmem
    generalize (look w ws)[j] = x at hr hsum hgx
    obtain ⟨at_, cost⟩ := x
    have hr : (hh.obj bb).read (o + j * 2) 2 = some [.int .i64 at_, .int .i64 cost] := hr
    have f1 := fun h => sum_ok h (sumL a b 0 ((look w ws).take j)) cost hin hgx.2
    by_cases ca : a ≤ at_
    · have k1 : decide (at_ ≥ a) = true := decide_eq_true ca
      by_cases cb : at_ < b
      · have k2 := decide_eq_true cb
        rw [if_pos ⟨ca, cb⟩] at hsum
        simp (disch := first | omega | (simp only [next_new, next_upd, ne_eq]; omega)) only [c12_l0, c12, ↓c12_r0_run, ↓c12_r1_run, ↓c12_r2_run, ↓c12_r3_run, ↓c12_r4_run, ↓c12_r5_run, ↓c12_r6_run, ↓c12_r7_run, ↓c12_r8_run, ↓c12_r9_run, ↓c12_r10_run, i2, i3, i9, i19, i20, i21, b1, hr, k1, k2, f1, ↓RunC_seq, ↓RunC_skip, ↓RunC_ret, ↓RunC_exit, ↓RunC_region, ↓RunC_condQ, condQ_true, condQ_false, ↓RunC_block, ↓RunR_done, ↓RunR_op, ↓RunR_opg, ↓RunR_snap, ↓RunR_chk, Holds, Option.getD_none, Option.getD_some, guardR_true, guardR_false, wantV_bool, wantV_none, callvQ_eq, afterR_some, ↓seqQ_normal, ↓seqQ_ret, ↓seqQ_exit, ↓blockQ_normal, ↓blockQ_ret, ↓blockQ_exit, ↓retQ_ret, ↓retQ_normal, ↓callQ_eq, ↓loopQ_normal, ↓loopQ_ret, ↓loopQ_exit, ↓upd_same, upd_at, sel_t, sel_f, initE_at, obj_upd_same, obj_upd_ne, obj_new_same, obj_updnew_same, obj_updnew_same2, obj_new2_same, obj_new3_same, obj_newupd_same, obj_new_ne, obj_new_ne2, obj_new_ne3, obj_new_ne4, next_upd, next_new, add_plain, cop, bin, binInt, un, shiftInt, flat, read_cells, src_ro, src_fix, src_grow, get_cells, List.getElem?_cons_zero, List.getElem?_cons_succ, write_fix, write_grow, setAt, bound, eqK, elemOk_ro, elemOk_fix, elemOk_grow, stiff_ro, stiff_fix, goInt, resultsV, resV, resL, finQ_some, Option.map_some, Option.map_none, Option.bind_some, Option.bind_none, List.map_cons, List.map_nil, List.getD_cons_zero, List.getD_cons_succ, List.getD_nil, Nat.reduceEqDiff, Nat.reduceAdd, Nat.reduceMul, Nat.reduceSub, Nat.reduceLT, Nat.reduceLeDiff, Nat.reduceBEq, if_true, if_false, ite_true, ite_false, List.length_cons, List.length_nil, Nat.zero_add, Nat.add_zero, List.drop_zero, List.drop_succ_cons, List.take_succ_cons, List.take_zero, List.set_cons_zero, List.set_cons_succ, Int.reduceLT, Int.reduceLE, Bool.not_true, Bool.not_false, Option.isNone_some, Option.isNone_none, decide_true, decide_false, beq_self_eq_true, Bool.false_eq_true, Bool.true_eq_false, if_pos, if_neg, reduceCtorEq, beq_iff_eq, BEq.rfl, wrap_i64, wrap_i32, wrap_i8, wrap_u8, wrap_u32, wrap_u64, Nat.mul_one, Int.toNat_natCast, ints_len, List.length_map, List.length_set, beq_ft, beq_tf, List.all_cons, List.all_nil, scalar, Bool.and_self, Bool.true_and, Bool.and_true, List.size_toArray, List.getElem?_toArray, binStr, fillIn, true_and, and_true, true_or, or_true, bne_self_eq_false, Int.reduceToNat, Int.reduceAdd, Int.reduceSub, Int.reduceMul]
        exact ⟨d - 1, by omega, j + 1, by omega, old.put _ _, by rw [hsum], rfl⟩
      · have k2 := decide_eq_false cb
        rw [if_neg fun q => cb q.2] at hsum
        simp (disch := first | omega | (simp only [next_new, next_upd, ne_eq]; omega)) only [c12_l0, c12, ↓c12_r0_run, ↓c12_r1_run, ↓c12_r2_run, ↓c12_r3_run, ↓c12_r4_run, ↓c12_r5_run, ↓c12_r6_run, ↓c12_r7_run, ↓c12_r8_run, ↓c12_r9_run, ↓c12_r10_run, i2, i3, i9, i19, i20, i21, b1, hr, k1, k2, ↓RunC_seq, ↓RunC_skip, ↓RunC_ret, ↓RunC_exit, ↓RunC_region, ↓RunC_condQ, condQ_true, condQ_false, ↓RunC_block, ↓RunR_done, ↓RunR_op, ↓RunR_opg, ↓RunR_snap, ↓RunR_chk, Holds, Option.getD_none, Option.getD_some, guardR_true, guardR_false, wantV_bool, wantV_none, callvQ_eq, afterR_some, ↓seqQ_normal, ↓seqQ_ret, ↓seqQ_exit, ↓blockQ_normal, ↓blockQ_ret, ↓blockQ_exit, ↓retQ_ret, ↓retQ_normal, ↓callQ_eq, ↓loopQ_normal, ↓loopQ_ret, ↓loopQ_exit, ↓upd_same, upd_at, sel_t, sel_f, initE_at, obj_upd_same, obj_upd_ne, obj_new_same, obj_updnew_same, obj_updnew_same2, obj_new2_same, obj_new3_same, obj_newupd_same, obj_new_ne, obj_new_ne2, obj_new_ne3, obj_new_ne4, next_upd, next_new, add_plain, cop, bin, binInt, un, shiftInt, flat, read_cells, src_ro, src_fix, src_grow, get_cells, List.getElem?_cons_zero, List.getElem?_cons_succ, write_fix, write_grow, setAt, bound, eqK, elemOk_ro, elemOk_fix, elemOk_grow, stiff_ro, stiff_fix, goInt, resultsV, resV, resL, finQ_some, Option.map_some, Option.map_none, Option.bind_some, Option.bind_none, List.map_cons, List.map_nil, List.getD_cons_zero, List.getD_cons_succ, List.getD_nil, Nat.reduceEqDiff, Nat.reduceAdd, Nat.reduceMul, Nat.reduceSub, Nat.reduceLT, Nat.reduceLeDiff, Nat.reduceBEq, if_true, if_false, ite_true, ite_false, List.length_cons, List.length_nil, Nat.zero_add, Nat.add_zero, List.drop_zero, List.drop_succ_cons, List.take_succ_cons, List.take_zero, List.set_cons_zero, List.set_cons_succ, Int.reduceLT, Int.reduceLE, Bool.not_true, Bool.not_false, Option.isNone_some, Option.isNone_none, decide_true, decide_false, beq_self_eq_true, Bool.false_eq_true, Bool.true_eq_false, if_pos, if_neg, reduceCtorEq, beq_iff_eq, BEq.rfl, wrap_i64, wrap_i32, wrap_i8, wrap_u8, wrap_u32, wrap_u64, Nat.mul_one, Int.toNat_natCast, ints_len, List.length_map, List.length_set, beq_ft, beq_tf, List.all_cons, List.all_nil, scalar, Bool.and_self, Bool.true_and, Bool.and_true, List.size_toArray, List.getElem?_toArray, binStr, fillIn, true_and, and_true, true_or, or_true, bne_self_eq_false, Int.reduceToNat, Int.reduceAdd, Int.reduceSub, Int.reduceMul]
        exact ⟨d - 1, by omega, j + 1, by omega, old.put _ _, by rw [hsum], rfl⟩
    · have k1 : decide (at_ ≥ a) = false := decide_eq_false ca
      rw [if_neg fun q => ca q.1] at hsum
      simp (disch := first | omega | (simp only [next_new, next_upd, ne_eq]; omega)) only [c12_l0, c12, ↓c12_r0_run, ↓c12_r1_run, ↓c12_r2_run, ↓c12_r3_run, ↓c12_r4_run, ↓c12_r5_run, ↓c12_r6_run, ↓c12_r7_run, ↓c12_r8_run, ↓c12_r9_run, ↓c12_r10_run, i2, i3, i9, i19, i20, i21, b1, hr, k1, ↓RunC_seq, ↓RunC_skip, ↓RunC_ret, ↓RunC_exit, ↓RunC_region, ↓RunC_condQ, condQ_true, condQ_false, ↓RunC_block, ↓RunR_done, ↓RunR_op, ↓RunR_opg, ↓RunR_snap, ↓RunR_chk, Holds, Option.getD_none, Option.getD_some, guardR_true, guardR_false, wantV_bool, wantV_none, callvQ_eq, afterR_some, ↓seqQ_normal, ↓seqQ_ret, ↓seqQ_exit, ↓blockQ_normal, ↓blockQ_ret, ↓blockQ_exit, ↓retQ_ret, ↓retQ_normal, ↓callQ_eq, ↓loopQ_normal, ↓loopQ_ret, ↓loopQ_exit, ↓upd_same, upd_at, sel_t, sel_f, initE_at, obj_upd_same, obj_upd_ne, obj_new_same, obj_updnew_same, obj_updnew_same2, obj_new2_same, obj_new3_same, obj_newupd_same, obj_new_ne, obj_new_ne2, obj_new_ne3, obj_new_ne4, next_upd, next_new, add_plain, cop, bin, binInt, un, shiftInt, flat, read_cells, src_ro, src_fix, src_grow, get_cells, List.getElem?_cons_zero, List.getElem?_cons_succ, write_fix, write_grow, setAt, bound, eqK, elemOk_ro, elemOk_fix, elemOk_grow, stiff_ro, stiff_fix, goInt, resultsV, resV, resL, finQ_some, Option.map_some, Option.map_none, Option.bind_some, Option.bind_none, List.map_cons, List.map_nil, List.getD_cons_zero, List.getD_cons_succ, List.getD_nil, Nat.reduceEqDiff, Nat.reduceAdd, Nat.reduceMul, Nat.reduceSub, Nat.reduceLT, Nat.reduceLeDiff, Nat.reduceBEq, if_true, if_false, ite_true, ite_false, List.length_cons, List.length_nil, Nat.zero_add, Nat.add_zero, List.drop_zero, List.drop_succ_cons, List.take_succ_cons, List.take_zero, List.set_cons_zero, List.set_cons_succ, Int.reduceLT, Int.reduceLE, Bool.not_true, Bool.not_false, Option.isNone_some, Option.isNone_none, decide_true, decide_false, beq_self_eq_true, Bool.false_eq_true, Bool.true_eq_false, if_pos, if_neg, reduceCtorEq, beq_iff_eq, BEq.rfl, wrap_i64, wrap_i32, wrap_i8, wrap_u8, wrap_u32, wrap_u64, Nat.mul_one, Int.toNat_natCast, ints_len, List.length_map, List.length_set, beq_ft, beq_tf, List.all_cons, List.all_nil, scalar, Bool.and_self, Bool.true_and, Bool.and_true, List.size_toArray, List.getElem?_toArray, binStr, fillIn, true_and, and_true, true_or, or_true, bne_self_eq_false, Int.reduceToNat, Int.reduceAdd, Int.reduceSub, Int.reduceMul]
      exact ⟨d - 1, by omega, j + 1, by omega, old.put _ _, by rw [hsum], rfl⟩
  · have b1 : decide ((j : Int) < (look w ws).length) = false := decide_eq_false (by omega)
    obtain rfl : j = (look w ws).length := by omega
    rw [List.take_length] at i9
    simp (disch := first | omega | (simp only [next_new, next_upd, ne_eq]; omega)) only [c12_l0, c12, ↓c12_r0_run, ↓c12_r1_run, ↓c12_r2_run, ↓c12_r3_run, ↓c12_r4_run, ↓c12_r5_run, ↓c12_r6_run, ↓c12_r7_run, ↓c12_r8_run, ↓c12_r9_run, ↓c12_r10_run, i9, i20, i21, b1, ↓RunC_seq, ↓RunC_skip, ↓RunC_ret, ↓RunC_exit, ↓RunC_region, ↓RunC_condQ, condQ_true, condQ_false, ↓RunC_block, ↓RunR_done, ↓RunR_op, ↓RunR_opg, ↓RunR_snap, ↓RunR_chk, Holds, Option.getD_none, Option.getD_some, guardR_true, guardR_false, wantV_bool, wantV_none, callvQ_eq, afterR_some, ↓seqQ_normal, ↓seqQ_ret, ↓seqQ_exit, ↓blockQ_normal, ↓blockQ_ret, ↓blockQ_exit, ↓retQ_ret, ↓retQ_normal, ↓callQ_eq, ↓loopQ_normal, ↓loopQ_ret, ↓loopQ_exit, ↓upd_same, upd_at, sel_t, sel_f, initE_at, obj_upd_same, obj_upd_ne, obj_new_same, obj_updnew_same, obj_updnew_same2, obj_new2_same, obj_new3_same, obj_newupd_same, obj_new_ne, obj_new_ne2, obj_new_ne3, obj_new_ne4, next_upd, next_new, add_plain, cop, bin, binInt, un, shiftInt, flat, read_cells, src_ro, src_fix, src_grow, get_cells, List.getElem?_cons_zero, List.getElem?_cons_succ, write_fix, write_grow, setAt, bound, eqK, elemOk_ro, elemOk_fix, elemOk_grow, stiff_ro, stiff_fix, goInt, resultsV, resV, resL, finQ_some, Option.map_some, Option.map_none, Option.bind_some, Option.bind_none, List.map_cons, List.map_nil, List.getD_cons_zero, List.getD_cons_succ, List.getD_nil, Nat.reduceEqDiff, Nat.reduceAdd, Nat.reduceMul, Nat.reduceSub, Nat.reduceLT, Nat.reduceLeDiff, Nat.reduceBEq, if_true, if_false, ite_true, ite_false, List.length_cons, List.length_nil, Nat.zero_add, Nat.add_zero, List.drop_zero, List.drop_succ_cons, List.take_succ_cons, List.take_zero, List.set_cons_zero, List.set_cons_succ, Int.reduceLT, Int.reduceLE, Bool.not_true, Bool.not_false, Option.isNone_some, Option.isNone_none, decide_true, decide_false, beq_self_eq_true, Bool.false_eq_true, Bool.true_eq_false, if_pos, if_neg, reduceCtorEq, beq_iff_eq, BEq.rfl, wrap_i64, wrap_i32, wrap_i8, wrap_u8, wrap_u32, wrap_u64, Nat.mul_one, Int.toNat_natCast, ints_len, List.length_map, List.length_set, beq_ft, beq_tf, List.all_cons, List.all_nil, scalar, Bool.and_self, Bool.true_and, Bool.and_true, List.size_toArray, List.getElem?_toArray, binStr, fillIn, true_and, and_true, true_or, or_true, bne_self_eq_false, Int.reduceToNat, Int.reduceAdd, Int.reduceSub, Int.reduceMul]
    exact hQ _ old

/-- The greatest sum of a stretch that begins with one of these. -/
def mostL (l : List Ev) (n : Int) : Int → List Ev → Int
  | s, [] => s
  | s, e :: r => mostL l n (max s (sumL e.1 (near (e.1 + n)) 0 l)) r
theorem mostL_app (l : List Ev) (n : Int) : ∀ (r m : List Ev) (s : Int), mostL l n s (r ++ m) = mostL l n (mostL l n s r) m
  | [], m, s => rfl
  | e :: r, m, s => mostL_app l n r m _
theorem lmost_ok {h : Heap} {p mb : Nat} {bs : List Nat} {ws : Led} (L : LedAt h p mb bs ws) (w : Wh) (n : Int) (hn : I64 n) (hn1 : 1 ≤ n) (hg : ∀ e ∈ look w ws, I64 e.1 ∧ I64 e.2) (hlen : (look w ws).length ≤ 1000000) {Q : Value → Heap → Prop}
    (hQ : ∀ h', Old h h' → Q (.int .i64 (mostL (look w ws) n 0 (look w ws))) h') : CALL cp 11 [.pointer (some ⟨p, 0, none⟩), .agg #[.int .i64 w.1, .string w.2], .int .i64 n] h Q := by
  rw [CALL_enter cp cp11]
  have hp := L.hp
  have lp := L.lp
  have lm := L.lm
  obtain ⟨v, ⟨a0, cap, rfl, hrd⟩, hlk⟩ := L.read w
  have old0 : Old h (h.new (.cells [.int .i64 w.1, .string w.2] 30 .fix)) := (Old.refl h).more _
  have f := hlk _ (old0.obj mb lm)
  have k0 : decide (n < 1) = false := decide_eq_false (by omega)
  simp (disch := first | omega | (simp only [next_new, next_upd, ne_eq]; omega)) only [c11, ↓c11_r0_run, ↓c11_r1_run, ↓c11_r2_run, ↓c11_r3_run, ↓c11_r4_run, ↓c11_r5_run, ↓c11_r6_run, ↓c11_r7_c1_run, ↓c11_r7_run, ↓c11_r8_run, ↓c11_r9_run, hp, k0, ↓f, ↓RunC_seq, ↓RunC_skip, ↓RunC_ret, ↓RunC_exit, ↓RunC_region, ↓RunC_condQ, condQ_true, condQ_false, ↓RunC_block, ↓RunR_done, ↓RunR_op, ↓RunR_opg, ↓RunR_snap, ↓RunR_chk, Holds, Option.getD_none, Option.getD_some, guardR_true, guardR_false, wantV_bool, wantV_none, callvQ_eq, afterR_some, ↓seqQ_normal, ↓seqQ_ret, ↓seqQ_exit, ↓blockQ_normal, ↓blockQ_ret, ↓blockQ_exit, ↓retQ_ret, ↓retQ_normal, ↓callQ_eq, ↓loopQ_normal, ↓loopQ_ret, ↓loopQ_exit, ↓upd_same, upd_at, sel_t, sel_f, initE_at, obj_upd_same, obj_upd_ne, obj_new_same, obj_updnew_same, obj_updnew_same2, obj_new2_same, obj_new3_same, obj_newupd_same, obj_new_ne, obj_new_ne2, obj_new_ne3, obj_new_ne4, next_upd, next_new, add_plain, cop, bin, binInt, un, shiftInt, flat, read_cells, src_ro, src_fix, src_grow, get_cells, List.getElem?_cons_zero, List.getElem?_cons_succ, write_fix, write_grow, setAt, bound, eqK, elemOk_ro, elemOk_fix, elemOk_grow, stiff_ro, stiff_fix, goInt, resultsV, resV, resL, finQ_some, Option.map_some, Option.map_none, Option.bind_some, Option.bind_none, List.map_cons, List.map_nil, List.getD_cons_zero, List.getD_cons_succ, List.getD_nil, Nat.reduceEqDiff, Nat.reduceAdd, Nat.reduceMul, Nat.reduceSub, Nat.reduceLT, Nat.reduceLeDiff, Nat.reduceBEq, if_true, if_false, ite_true, ite_false, List.length_cons, List.length_nil, Nat.zero_add, Nat.add_zero, List.drop_zero, List.drop_succ_cons, List.take_succ_cons, List.take_zero, List.set_cons_zero, List.set_cons_succ, Int.reduceLT, Int.reduceLE, Bool.not_true, Bool.not_false, Option.isNone_some, Option.isNone_none, decide_true, decide_false, beq_self_eq_true, Bool.false_eq_true, Bool.true_eq_false, if_pos, if_neg, reduceCtorEq, beq_iff_eq, BEq.rfl, wrap_i64, wrap_i32, wrap_i8, wrap_u8, wrap_u32, wrap_u64, Nat.mul_one, Int.toNat_natCast, ints_len, List.length_map, List.length_set, beq_ft, beq_tf, List.all_cons, List.all_nil, scalar, Bool.and_self, Bool.true_and, Bool.and_true, List.size_toArray, List.getElem?_toArray, binStr, fillIn, true_and, and_true, true_or, or_true, bne_self_eq_false, Int.reduceToNat, Int.reduceAdd, Int.reduceSub, Int.reduceMul]
  refine RunC_loop cp c11_l0 _ (fun d e hh => ∃ j, j + d = (look w ws).length ∧ Old (h.new (.cells [.int .i64 w.1, .string w.2] 30 .fix)) hh ∧ e 0 = .pointer (some ⟨p, 0, none⟩) ∧ e 2 = .int .i64 n ∧ e 4 = .pointer (some ⟨h.next, 0, none⟩) ∧ e 7 = .int .i64 (mostL (look w ws) n 0 ((look w ws).take j)) ∧ e 21 = .slice a0 (look w ws).length cap ∧ e 22 = .int .i64 (look w ws).length ∧ e 23 = .int .i64 j) ?_ (look w ws).length _ _
    ⟨0, by omega, Old.refl _, rfl, rfl, rfl, rfl, rfl, rfl, rfl⟩
  rintro d e hh ⟨j, hj, old, i0, i2, i4, i7, i21, i22, i23⟩
  have oldh := old0.trans old
  have g0 : hh.obj h.next = .cells [.int .i64 w.1, .string w.2] 30 .fix := (old.obj h.next (Nat.lt_succ_self _)).trans (obj_new_same _ _)
  have n0 : h.next + 1 ≤ hh.next := old.next
  by_cases hjl : j < (look w ws).length
  · have b1 : decide ((j : Int) < (look w ws).length) = true := decide_eq_true (by omega)
    have hx : (look w ws)[j]? = some (look w ws)[j] := List.getElem?_eq_getElem hjl
    have hmem : (look w ws)[j] ∈ look w ws := List.getElem_mem hjl
    obtain ⟨bb, o, rfl, hb, hr⟩ := hrd j _ hx
    rw [← oldh.obj bb hb] at hr
    have ht := take_get hx
    have hsum : mostL (look w ws) n 0 ((look w ws).take (j + 1)) = max (mostL (look w ws) n 0 ((look w ws).take j)) (sumL ((look w ws)[j]).1 (near (((look w ws)[j]).1 + n)) 0 (look w ws)) := by rw [ht, mostL_app]; rfl
    have hgx := hg _ hmem
    generalize (look w ws)[j] = x at hr hsum hgx
    obtain ⟨at_, cost⟩ := x
    have hr : (hh.obj bb).read (o + j * 2) 2 = some [.int .i64 at_, .int .i64 cost] := hr
    have f1 := fun h => sum_ok h at_ n hgx.1 hn
    simp (disch := first | omega | (simp only [next_new, next_upd, ne_eq]; omega)) only [c11_l0, c11, ↓c11_r0_run, ↓c11_r1_run, ↓c11_r2_run, ↓c11_r3_run, ↓c11_r4_run, ↓c11_r5_run, ↓c11_r6_run, ↓c11_r7_c1_run, ↓c11_r7_run, ↓c11_r8_run, ↓c11_r9_run, i0, i2, i4, i7, i21, i22, i23, b1, g0, hr, f1, ↓RunC_seq, ↓RunC_skip, ↓RunC_ret, ↓RunC_exit, ↓RunC_region, ↓RunC_condQ, condQ_true, condQ_false, ↓RunC_block, ↓RunR_done, ↓RunR_op, ↓RunR_opg, ↓RunR_snap, ↓RunR_chk, Holds, Option.getD_none, Option.getD_some, guardR_true, guardR_false, wantV_bool, wantV_none, callvQ_eq, afterR_some, ↓seqQ_normal, ↓seqQ_ret, ↓seqQ_exit, ↓blockQ_normal, ↓blockQ_ret, ↓blockQ_exit, ↓retQ_ret, ↓retQ_normal, ↓callQ_eq, ↓loopQ_normal, ↓loopQ_ret, ↓loopQ_exit, ↓upd_same, upd_at, sel_t, sel_f, initE_at, obj_upd_same, obj_upd_ne, obj_new_same, obj_updnew_same, obj_updnew_same2, obj_new2_same, obj_new3_same, obj_newupd_same, obj_new_ne, obj_new_ne2, obj_new_ne3, obj_new_ne4, next_upd, next_new, add_plain, cop, bin, binInt, un, shiftInt, flat, read_cells, src_ro, src_fix, src_grow, get_cells, List.getElem?_cons_zero, List.getElem?_cons_succ, write_fix, write_grow, setAt, bound, eqK, elemOk_ro, elemOk_fix, elemOk_grow, stiff_ro, stiff_fix, goInt, resultsV, resV, resL, finQ_some, Option.map_some, Option.map_none, Option.bind_some, Option.bind_none, List.map_cons, List.map_nil, List.getD_cons_zero, List.getD_cons_succ, List.getD_nil, Nat.reduceEqDiff, Nat.reduceAdd, Nat.reduceMul, Nat.reduceSub, Nat.reduceLT, Nat.reduceLeDiff, Nat.reduceBEq, if_true, if_false, ite_true, ite_false, List.length_cons, List.length_nil, Nat.zero_add, Nat.add_zero, List.drop_zero, List.drop_succ_cons, List.take_succ_cons, List.take_zero, List.set_cons_zero, List.set_cons_succ, Int.reduceLT, Int.reduceLE, Bool.not_true, Bool.not_false, Option.isNone_some, Option.isNone_none, decide_true, decide_false, beq_self_eq_true, Bool.false_eq_true, Bool.true_eq_false, if_pos, if_neg, reduceCtorEq, beq_iff_eq, BEq.rfl, wrap_i64, wrap_i32, wrap_i8, wrap_u8, wrap_u32, wrap_u64, Nat.mul_one, Int.toNat_natCast, ints_len, List.length_map, List.length_set, beq_ft, beq_tf, List.all_cons, List.all_nil, scalar, Bool.and_self, Bool.true_and, Bool.and_true, List.size_toArray, List.getElem?_toArray, binStr, fillIn, true_and, and_true, true_or, or_true, bne_self_eq_false, Int.reduceToNat, Int.reduceAdd, Int.reduceSub, Int.reduceMul]
    refine lsum_ok (L.oldH (oldh.put _ _)) w at_ (near (at_ + n)) hg hlen fun h3 o3 => ?_
    simp (disch := first | omega | (simp only [next_new, next_upd, ne_eq]; omega)) only [c11, ↓c11_r0_run, ↓c11_r1_run, ↓c11_r2_run, ↓c11_r3_run, ↓c11_r4_run, ↓c11_r5_run, ↓c11_r6_run, ↓c11_r7_c1_run, ↓c11_r7_run, ↓c11_r8_run, ↓c11_r9_run, i23, minmaxL, minmax2, if_max, ↓RunC_seq, ↓RunC_skip, ↓RunC_ret, ↓RunC_exit, ↓RunC_region, ↓RunC_condQ, condQ_true, condQ_false, ↓RunC_block, ↓RunR_done, ↓RunR_op, ↓RunR_opg, ↓RunR_snap, ↓RunR_chk, Holds, Option.getD_none, Option.getD_some, guardR_true, guardR_false, wantV_bool, wantV_none, callvQ_eq, afterR_some, ↓seqQ_normal, ↓seqQ_ret, ↓seqQ_exit, ↓blockQ_normal, ↓blockQ_ret, ↓blockQ_exit, ↓retQ_ret, ↓retQ_normal, ↓callQ_eq, ↓loopQ_normal, ↓loopQ_ret, ↓loopQ_exit, ↓upd_same, upd_at, sel_t, sel_f, initE_at, obj_upd_same, obj_upd_ne, obj_new_same, obj_updnew_same, obj_updnew_same2, obj_new2_same, obj_new3_same, obj_newupd_same, obj_new_ne, obj_new_ne2, obj_new_ne3, obj_new_ne4, next_upd, next_new, add_plain, cop, bin, binInt, un, shiftInt, flat, read_cells, src_ro, src_fix, src_grow, get_cells, List.getElem?_cons_zero, List.getElem?_cons_succ, write_fix, write_grow, setAt, bound, eqK, elemOk_ro, elemOk_fix, elemOk_grow, stiff_ro, stiff_fix, goInt, resultsV, resV, resL, finQ_some, Option.map_some, Option.map_none, Option.bind_some, Option.bind_none, List.map_cons, List.map_nil, List.getD_cons_zero, List.getD_cons_succ, List.getD_nil, Nat.reduceEqDiff, Nat.reduceAdd, Nat.reduceMul, Nat.reduceSub, Nat.reduceLT, Nat.reduceLeDiff, Nat.reduceBEq, if_true, if_false, ite_true, ite_false, List.length_cons, List.length_nil, Nat.zero_add, Nat.add_zero, List.drop_zero, List.drop_succ_cons, List.take_succ_cons, List.take_zero, List.set_cons_zero, List.set_cons_succ, Int.reduceLT, Int.reduceLE, Bool.not_true, Bool.not_false, Option.isNone_some, Option.isNone_none, decide_true, decide_false, beq_self_eq_true, Bool.false_eq_true, Bool.true_eq_false, if_pos, if_neg, reduceCtorEq, beq_iff_eq, BEq.rfl, wrap_i64, wrap_i32, wrap_i8, wrap_u8, wrap_u32, wrap_u64, Nat.mul_one, Int.toNat_natCast, ints_len, List.length_map, List.length_set, beq_ft, beq_tf, List.all_cons, List.all_nil, scalar, Bool.and_self, Bool.true_and, Bool.and_true, List.size_toArray, List.getElem?_toArray, binStr, fillIn, true_and, and_true, true_or, or_true, bne_self_eq_false, Int.reduceToNat, Int.reduceAdd, Int.reduceSub, Int.reduceMul]
    exact ⟨d - 1, by omega, j + 1, by omega, (old.put _ _).trans o3, i0, i2, i4, by rw [hsum], i21, i22, rfl⟩
  · have b1 : decide ((j : Int) < (look w ws).length) = false := decide_eq_false (by omega)
    obtain rfl : j = (look w ws).length := by omega
    rw [List.take_length] at i7
    simp (disch := first | omega | (simp only [next_new, next_upd, ne_eq]; omega)) only [c11_l0, c11, ↓c11_r0_run, ↓c11_r1_run, ↓c11_r2_run, ↓c11_r3_run, ↓c11_r4_run, ↓c11_r5_run, ↓c11_r6_run, ↓c11_r7_c1_run, ↓c11_r7_run, ↓c11_r8_run, ↓c11_r9_run, i7, i22, i23, b1, ↓RunC_seq, ↓RunC_skip, ↓RunC_ret, ↓RunC_exit, ↓RunC_region, ↓RunC_condQ, condQ_true, condQ_false, ↓RunC_block, ↓RunR_done, ↓RunR_op, ↓RunR_opg, ↓RunR_snap, ↓RunR_chk, Holds, Option.getD_none, Option.getD_some, guardR_true, guardR_false, wantV_bool, wantV_none, callvQ_eq, afterR_some, ↓seqQ_normal, ↓seqQ_ret, ↓seqQ_exit, ↓blockQ_normal, ↓blockQ_ret, ↓blockQ_exit, ↓retQ_ret, ↓retQ_normal, ↓callQ_eq, ↓loopQ_normal, ↓loopQ_ret, ↓loopQ_exit, ↓upd_same, upd_at, sel_t, sel_f, initE_at, obj_upd_same, obj_upd_ne, obj_new_same, obj_updnew_same, obj_updnew_same2, obj_new2_same, obj_new3_same, obj_newupd_same, obj_new_ne, obj_new_ne2, obj_new_ne3, obj_new_ne4, next_upd, next_new, add_plain, cop, bin, binInt, un, shiftInt, flat, read_cells, src_ro, src_fix, src_grow, get_cells, List.getElem?_cons_zero, List.getElem?_cons_succ, write_fix, write_grow, setAt, bound, eqK, elemOk_ro, elemOk_fix, elemOk_grow, stiff_ro, stiff_fix, goInt, resultsV, resV, resL, finQ_some, Option.map_some, Option.map_none, Option.bind_some, Option.bind_none, List.map_cons, List.map_nil, List.getD_cons_zero, List.getD_cons_succ, List.getD_nil, Nat.reduceEqDiff, Nat.reduceAdd, Nat.reduceMul, Nat.reduceSub, Nat.reduceLT, Nat.reduceLeDiff, Nat.reduceBEq, if_true, if_false, ite_true, ite_false, List.length_cons, List.length_nil, Nat.zero_add, Nat.add_zero, List.drop_zero, List.drop_succ_cons, List.take_succ_cons, List.take_zero, List.set_cons_zero, List.set_cons_succ, Int.reduceLT, Int.reduceLE, Bool.not_true, Bool.not_false, Option.isNone_some, Option.isNone_none, decide_true, decide_false, beq_self_eq_true, Bool.false_eq_true, Bool.true_eq_false, if_pos, if_neg, reduceCtorEq, beq_iff_eq, BEq.rfl, wrap_i64, wrap_i32, wrap_i8, wrap_u8, wrap_u32, wrap_u64, Nat.mul_one, Int.toNat_natCast, ints_len, List.length_map, List.length_set, beq_ft, beq_tf, List.all_cons, List.all_nil, scalar, Bool.and_self, Bool.true_and, Bool.and_true, List.size_toArray, List.getElem?_toArray, binStr, fillIn, true_and, and_true, true_or, or_true, bne_self_eq_false, Int.reduceToNat, Int.reduceAdd, Int.reduceSub, Int.reduceMul]
    exact hQ _ oldh
end Go.Proofs.Ytekojjilbchkgaa.Can
