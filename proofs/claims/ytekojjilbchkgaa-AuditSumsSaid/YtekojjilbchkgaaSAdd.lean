/- A note in the ledger, in the canonical machine. No condition. -/
import Derived.Test.YtekojjilbchkgaaSAudit
namespace Go.Proofs.Ytekojjilbchkgaa.Can
open Go
set_option linter.unusedSimpArgs false
set_option linter.unusedVariables false
attribute [local congr] RunR_congr RunC_congr afterR_congr guardR_congr condQ_congr CALL_congr finQ_congr op_congr opg_congr

theorem find_born : ∀ (es : List MapEntry) (k i : Nat), (∀ (j : Nat) (e : MapEntry), es[j]? = some e → e.born = k + j) → i < es.length → es.findIdx? (fun (x : MapEntry) => (x.born : Int) == ((k + i : Nat) : Int)) = some i
  | [], k, i, _, h => by simp at h
  | e :: es, k, 0, hb, _ => by
    have := hb 0 e rfl
    rw [List.findIdx?_cons, this]
    simp
  | e :: es, k, i + 1, hb, h => by
    have h0 := hb 0 e rfl
    have ih := find_born es (k + 1) i (fun j e' he => by have := hb (j + 1) e' (by simpa using he); omega) (by simpa using h)
    rw [List.findIdx?_cons, h0]
    have hne : (((k + 0 : Nat) : Int) == ((k + (i + 1) : Nat) : Int)) = false := beq_eq_false_iff_ne.2 (by omega)
    rw [hne]
    rw [show k + (i + 1) = k + 1 + i by omega, ih]
    rfl
theorem modify_get {es : List MapEntry} {i j : Nat} {f : MapEntry → MapEntry} {e : MapEntry} (h : (es.modify i f)[j]? = some e) : ∃ e0, es[j]? = some e0 ∧ e = if i = j then f e0 else e0 := by
  rw [List.getElem?_modify] at h
  cases hq : es[j]? with
  | none => rw [hq] at h; simp at h
  | some e0 => rw [hq] at h; exact ⟨e0, rfl, by simpa using h.symm⟩

abbrev ent0 (w : Wh) (n : Nat) : MapEntry := ⟨whV w, .slice none 0 0, n⟩
theorem nodup_set : ∀ {l : List Nat} {i b : Nat}, l.Nodup → (∀ j, j ≠ i → l[j]? ≠ some b) → (l.set i b).Nodup
  | [], i, b, h, _ => by simp
  | a :: l, 0, b, h, hb => by
    rw [List.set_cons_zero, List.nodup_cons]
    refine ⟨fun hm => ?_, (List.nodup_cons.1 h).2⟩
    obtain ⟨j, hj⟩ := List.getElem?_of_mem hm
    exact hb (j + 1) (by omega) (by simpa using hj)
  | a :: l, i + 1, b, h, hb => by
    rw [List.set_cons_succ, List.nodup_cons]
    refine ⟨fun hm => ?_, nodup_set (List.nodup_cons.1 h).2 fun j hj hq => hb (j + 1) (by omega) (by simpa using hq)⟩
    rcases List.mem_or_eq_of_mem_set hm with hm | rfl
    · exact (List.nodup_cons.1 h).1 hm
    · exact hb 0 (by omega) rfl
theorem ladd_ok {h : Heap} {p mb : Nat} {bs : List Nat} {ws : Led} (L : LedAt h p mb bs ws) (w : Wh) (at_ cost : Int) (hlen : (look w ws).length ≤ 1000000) {Q : Value → Heap → Prop}
    (hQ : ∀ h' bs', LedAt h' p mb bs' (note w (at_, cost) ws) → h.next ≤ h'.next → (∀ b ∈ bs', b ∈ bs ∨ h.next ≤ b) → (∀ x, x < h.next → x ≠ mb → x ∉ bs → h'.obj x = h.obj x) → Q (.tuple #[]) h') :
    CALL cp 10 [.pointer (some ⟨p, 0, none⟩), .agg #[.int .i64 w.1, .string w.2], .int .i64 at_, .int .i64 cost] h Q := by
  rw [CALL_enter cp cp10]
  have hp := L.hp
  have lp := L.lp
  have lm := L.lm
  have pm := L.pm
  have lb : bs.length = ws.length := L.lb
  have hob := L.ob
  obtain ⟨es, h1, h2, h3⟩ := L.map
  have hk := keyEq_wh w w
  rw [sameW_self] at hk
  have hf := find_es w ws es 0 h2 fun i e x he hx => by
    have hi : i < bs.length := by rw [lb]; exact (List.getElem?_eq_some_iff.1 hx).1
    exact (h3 i e x _ he hx (List.getElem?_eq_getElem hi)).1
  have born : ∀ (j : Nat) (e : MapEntry), es[j]? = some e → e.born = j := fun j e he => by
    have hj : j < es.length := (List.getElem?_eq_some_iff.1 he).1
    exact (h3 j e (ws[j]'(by omega)) (bs[j]'(by omega)) he (List.getElem?_eq_getElem _) (List.getElem?_eq_getElem _)).2.1
  generalize hB : (h.new (.cells [.int .i64 w.1, .string w.2] 30 .fix)).new (.cells [.int .i64 at_, .int .i64 cost] 45 .grow) = B
  have oB : Old h B := by rw [← hB]; exact ((Old.refl h).more _).more _
  have nB : B.next = h.next + 2 := by rw [← hB]; rfl
  have mB : B.obj mb = .map es ws.length := by rw [oB.obj mb lm]; exact h1
  have yB : B.obj (h.next + 1) = .cells [.int .i64 at_, .int .i64 cost] 45 .grow := by rw [← hB]; exact obj_new2_same _ _ _
  cases hq : idx w ws 0 with
  | none =>
    obtain ⟨hl, hnote⟩ := idx_none hq
    have f1 : cop (.mapEntry KW (.slice none 0 0) (.map (some mb)) (whV w)) B = some (.tuple #[.slice none 0 0, goInt ws.length], B.upd mb (.map (es ++ [ent0 w ws.length]) (ws.length + 1))) := by
      simp only [cop, mB, hk, Option.bind_some, hf, hq, Option.map_some]
    simp (disch := first | omega | (simp only [next_new, next_upd, ne_eq]; omega)) only [c10, ↓c10_r0_run, ↓c10_r1_run, ↓c10_r2_c1_run, ↓c10_r2_run, hp, reps, List.append_nil, hB, ↓f1, ↓RunC_seq, ↓RunC_skip, ↓RunC_ret, ↓RunC_exit, ↓RunC_region, ↓RunC_condQ, condQ_true, condQ_false, ↓RunC_block, ↓RunR_done, ↓RunR_op, ↓RunR_opg, ↓RunR_snap, ↓RunR_chk, Holds, Option.getD_none, Option.getD_some, guardR_true, guardR_false, wantV_bool, wantV_none, callvQ_eq, afterR_some, ↓seqQ_normal, ↓seqQ_ret, ↓seqQ_exit, ↓blockQ_normal, ↓blockQ_ret, ↓blockQ_exit, ↓retQ_ret, ↓retQ_normal, ↓callQ_eq, ↓loopQ_normal, ↓loopQ_ret, ↓loopQ_exit, ↓upd_same, upd_at, sel_t, sel_f, initE_at, obj_upd_same, obj_upd_ne, obj_new_same, obj_updnew_same, obj_updnew_same2, obj_new2_same, obj_new3_same, obj_newupd_same, obj_new_ne, obj_new_ne2, obj_new_ne3, obj_new_ne4, next_upd, next_new, add_plain, cop, bin, binInt, un, shiftInt, flat, read_cells, src_ro, src_fix, src_grow, get_cells, List.getElem?_cons_zero, List.getElem?_cons_succ, write_fix, write_grow, setAt, bound, eqK, elemOk_ro, elemOk_fix, elemOk_grow, stiff_ro, stiff_fix, goInt, resultsV, resV, resL, finQ_some, Option.map_some, Option.map_none, Option.bind_some, Option.bind_none, List.map_cons, List.map_nil, List.getD_cons_zero, List.getD_cons_succ, List.getD_nil, Nat.reduceEqDiff, Nat.reduceAdd, Nat.reduceMul, Nat.reduceSub, Nat.reduceLT, Nat.reduceLeDiff, Nat.reduceBEq, if_true, if_false, ite_true, ite_false, List.length_cons, List.length_nil, Nat.zero_add, Nat.add_zero, List.drop_zero, List.drop_succ_cons, List.take_succ_cons, List.take_zero, List.set_cons_zero, List.set_cons_succ, Int.reduceLT, Int.reduceLE, Bool.not_true, Bool.not_false, Option.isNone_some, Option.isNone_none, decide_true, decide_false, beq_self_eq_true, Bool.false_eq_true, Bool.true_eq_false, if_pos, if_neg, reduceCtorEq, beq_iff_eq, BEq.rfl, wrap_i64, wrap_i32, wrap_i8, wrap_u8, wrap_u32, wrap_u64, Nat.mul_one, Int.toNat_natCast, ints_len, List.length_map, List.length_set, beq_ft, beq_tf, List.all_cons, List.all_nil, scalar, Bool.and_self, Bool.true_and, Bool.and_true, List.size_toArray, List.getElem?_toArray, binStr, fillIn, true_and, and_true, true_or, or_true, bne_self_eq_false, Int.reduceToNat, Int.reduceAdd, Int.reduceSub, Int.reduceMul]
    generalize hC : B.upd mb (.map (es ++ [ent0 w ws.length]) (ws.length + 1)) = C
    have nC : C.next = h.next + 2 := by rw [← hC]; exact nB
    have mC : C.obj mb = .map (es ++ [ent0 w ws.length]) (ws.length + 1) := by rw [← hC]; exact obj_upd_same _ _ _
    have oC : ∀ x, x < h.next → x ≠ mb → C.obj x = h.obj x := fun x hx hne => by rw [← hC, obj_upd_ne _ _ hne, oB.obj x hx]
    have yC : srcCells C 2 (.slice (some ⟨h.next + 1, 0, none⟩) 1 1) = some (EE.all [(at_, cost)], 1) := by
      unfold srcCells
      rw [← hC]
      simp only [if_true, obj_upd_ne _ _ (show h.next + 1 ≠ mb by omega), yB, src_grow]
      rfl
    refine (Vec.nil C 45 EE (h.next + 2)).app (m := [(at_, cost)]) rfl yC (by simp) (by simp) fun v' h' b' V hn hb ho => ?_
    have hbn : h.next + 2 ≤ b' := by rcases hb with rfl | hb <;> omega
    have mh' : h'.obj mb = .map (es ++ [ent0 w ws.length]) (ws.length + 1) := by rw [ho mb (by omega) (.inl rfl)]; exact mC
    have fb : (es ++ [ent0 w ws.length]).findIdx? (fun (x : MapEntry) => (x.born : Int) == ((ws.length : Nat) : Int)) = some ws.length := by
      have := find_born (es ++ [ent0 w ws.length]) 0 ws.length (fun j e he => by
        rcases Nat.lt_or_ge j es.length with hj | hj
        · rw [List.getElem?_append_left hj] at he; have := born j e he; omega
        · rw [List.getElem?_append_right hj] at he
          have hj2 : j - es.length = 0 := by
            rcases Nat.eq_zero_or_pos (j - es.length) with h | h
            · exact h
            · rw [List.getElem?_eq_none (by simp; omega)] at he; simp at he
          rw [hj2] at he
          simp at he
          rw [← he]
          show ws.length = 0 + j
          omega) (by simp; omega)
      rw [Nat.zero_add] at this
      exact this
    have f2 : cop (.entryStore (.map (some mb)) (.int .i64 ((ws.length : Nat) : Int)) v') h' = some (.tuple #[], h'.upd mb (.map ((es ++ [ent0 w ws.length]).modify ws.length fun (x : MapEntry) => { x with val := v' }) (ws.length + 1))) := by
      simp only [cop, mh', fb]
    simp (disch := first | omega | (simp only [next_new, next_upd, ne_eq]; omega)) only [c10, ↓c10_r0_run, ↓c10_r1_run, ↓c10_r2_c1_run, ↓c10_r2_run, ↓f2, ↓RunC_seq, ↓RunC_skip, ↓RunC_ret, ↓RunC_exit, ↓RunC_region, ↓RunC_condQ, condQ_true, condQ_false, ↓RunC_block, ↓RunR_done, ↓RunR_op, ↓RunR_opg, ↓RunR_snap, ↓RunR_chk, Holds, Option.getD_none, Option.getD_some, guardR_true, guardR_false, wantV_bool, wantV_none, callvQ_eq, afterR_some, ↓seqQ_normal, ↓seqQ_ret, ↓seqQ_exit, ↓blockQ_normal, ↓blockQ_ret, ↓blockQ_exit, ↓retQ_ret, ↓retQ_normal, ↓callQ_eq, ↓loopQ_normal, ↓loopQ_ret, ↓loopQ_exit, ↓upd_same, upd_at, sel_t, sel_f, initE_at, obj_upd_same, obj_upd_ne, obj_new_same, obj_updnew_same, obj_updnew_same2, obj_new2_same, obj_new3_same, obj_newupd_same, obj_new_ne, obj_new_ne2, obj_new_ne3, obj_new_ne4, next_upd, next_new, add_plain, cop, bin, binInt, un, shiftInt, flat, read_cells, src_ro, src_fix, src_grow, get_cells, List.getElem?_cons_zero, List.getElem?_cons_succ, write_fix, write_grow, setAt, bound, eqK, elemOk_ro, elemOk_fix, elemOk_grow, stiff_ro, stiff_fix, goInt, resultsV, resV, resL, finQ_some, Option.map_some, Option.map_none, Option.bind_some, Option.bind_none, List.map_cons, List.map_nil, List.getD_cons_zero, List.getD_cons_succ, List.getD_nil, Nat.reduceEqDiff, Nat.reduceAdd, Nat.reduceMul, Nat.reduceSub, Nat.reduceLT, Nat.reduceLeDiff, Nat.reduceBEq, if_true, if_false, ite_true, ite_false, List.length_cons, List.length_nil, Nat.zero_add, Nat.add_zero, List.drop_zero, List.drop_succ_cons, List.take_succ_cons, List.take_zero, List.set_cons_zero, List.set_cons_succ, Int.reduceLT, Int.reduceLE, Bool.not_true, Bool.not_false, Option.isNone_some, Option.isNone_none, decide_true, decide_false, beq_self_eq_true, Bool.false_eq_true, Bool.true_eq_false, if_pos, if_neg, reduceCtorEq, beq_iff_eq, BEq.rfl, wrap_i64, wrap_i32, wrap_i8, wrap_u8, wrap_u32, wrap_u64, Nat.mul_one, Int.toNat_natCast, ints_len, List.length_map, List.length_set, beq_ft, beq_tf, List.all_cons, List.all_nil, scalar, Bool.and_self, Bool.true_and, Bool.and_true, List.size_toArray, List.getElem?_toArray, binStr, fillIn, true_and, and_true, true_or, or_true, bne_self_eq_false, Int.reduceToNat, Int.reduceAdd, Int.reduceSub, Int.reduceMul]
    refine hQ _ (bs ++ [b']) ?_ (by rw [next_upd]; omega) (fun b hb => ?_) (fun x hx hne hnb => ?_)
    · rw [hnote]
      refine ⟨?_, by rw [next_upd]; omega, by rw [next_upd]; omega, pm, ⟨_, obj_upd_same _ _ _ |>.trans (by rw [List.length_append]; rfl), ?_, ?_⟩, by simp [lb], ?_, ?_⟩
      · rw [obj_upd_ne _ _ pm, ho p (by omega) (.inl rfl), oC p lp pm]; exact hp
      · simp [h2]
      · intro i e x b he hx hb
        obtain ⟨e0, he0, rfl⟩ := modify_get he
        rcases Nat.lt_or_ge i ws.length with hi | hi
        · rw [if_neg (by omega)]
          rw [List.getElem?_append_left (by omega)] at he0 hx hb
          obtain ⟨k1, k2, k3⟩ := h3 i e0 x b he0 hx hb
          have hbb := hob b (List.mem_of_getElem? hb)
          refine ⟨k1, k2, k3.keep (by rw [next_upd]; omega) fun _ => ?_⟩
          rw [obj_upd_ne _ _ hbb.2.1, ho b (by omega) (.inl rfl), oC b hbb.2.2 hbb.2.1]
        · have hil : i < (ws ++ [(w, [(at_, cost)])]).length := (List.getElem?_eq_some_iff.1 hx).1
          simp only [List.length_append, List.length_singleton] at hil
          obtain rfl : i = ws.length := by omega
          rw [if_pos rfl]
          rw [List.getElem?_append_right (by omega), h2, Nat.sub_self] at he0
          rw [List.getElem?_append_right (by omega), Nat.sub_self] at hx
          rw [List.getElem?_append_right (by omega), lb, Nat.sub_self] at hb
          simp at he0 hx hb
          subst hx; subst hb; subst he0
          exact ⟨rfl, rfl, V.keep (Nat.le_refl _) fun _ => obj_upd_ne _ _ (by omega)⟩
      · rw [List.nodup_append]
        exact ⟨L.nd, by simp, fun a ha c hc => by simp at hc; have := (hob a ha).2.2; omega⟩
      · intro b hb
        rcases List.mem_append.1 hb with hb | hb
        · have := hob b hb; exact ⟨this.1, this.2.1, by rw [next_upd]; omega⟩
        · obtain rfl := List.mem_singleton.1 hb
          have hbh : b < h'.next := by
            rcases V with ⟨_, hv⟩ | ⟨_, _, _, hlt, _⟩
            · simp at hv
            · exact hlt
          exact ⟨by omega, by omega, hbh⟩
    · rcases List.mem_append.1 hb with hb | hb
      · exact .inl hb
      · obtain rfl := List.mem_singleton.1 hb; right; omega
    · rw [obj_upd_ne _ _ hne, ho x (by omega) (.inl rfl), oC x hx hne]
  | some i0 =>
    obtain ⟨i, x0, rfl, hx0, hl, hnote⟩ := idx_some hq
    have hi : i < ws.length := (List.getElem?_eq_some_iff.1 hx0).1
    have he0 : es[i]? = some (es[i]'(by omega)) := List.getElem?_eq_getElem (by omega)
    have hb0 : bs[i]? = some (bs[i]'(by omega)) := List.getElem?_eq_getElem (by omega)
    obtain ⟨k1, k2, k3⟩ := h3 i _ x0 _ he0 hx0 hb0
    generalize (es[i]'(by omega)) = ei at he0 k1 k2 k3
    generalize (bs[i]'(by omega)) = bi at hb0 k3
    have hbi := hob bi (List.mem_of_getElem? hb0)
    have f1 : cop (.mapEntry KW (.slice none 0 0) (.map (some mb)) (whV w)) B = some (.tuple #[ei.val, goInt i], B.upd mb (.map (es.modify i fun (x : MapEntry) => { x with key := whV w }) ws.length)) := by
      simp only [cop, mB, hk, Option.bind_some, hf, hq, Option.map_some, Nat.zero_add, he0, Option.getD_some, k2]
    simp (disch := first | omega | (simp only [next_new, next_upd, ne_eq]; omega)) only [c10, ↓c10_r0_run, ↓c10_r1_run, ↓c10_r2_c1_run, ↓c10_r2_run, hp, reps, List.append_nil, hB, ↓f1, ↓RunC_seq, ↓RunC_skip, ↓RunC_ret, ↓RunC_exit, ↓RunC_region, ↓RunC_condQ, condQ_true, condQ_false, ↓RunC_block, ↓RunR_done, ↓RunR_op, ↓RunR_opg, ↓RunR_snap, ↓RunR_chk, Holds, Option.getD_none, Option.getD_some, guardR_true, guardR_false, wantV_bool, wantV_none, callvQ_eq, afterR_some, ↓seqQ_normal, ↓seqQ_ret, ↓seqQ_exit, ↓blockQ_normal, ↓blockQ_ret, ↓blockQ_exit, ↓retQ_ret, ↓retQ_normal, ↓callQ_eq, ↓loopQ_normal, ↓loopQ_ret, ↓loopQ_exit, ↓upd_same, upd_at, sel_t, sel_f, initE_at, obj_upd_same, obj_upd_ne, obj_new_same, obj_updnew_same, obj_updnew_same2, obj_new2_same, obj_new3_same, obj_newupd_same, obj_new_ne, obj_new_ne2, obj_new_ne3, obj_new_ne4, next_upd, next_new, add_plain, cop, bin, binInt, un, shiftInt, flat, read_cells, src_ro, src_fix, src_grow, get_cells, List.getElem?_cons_zero, List.getElem?_cons_succ, write_fix, write_grow, setAt, bound, eqK, elemOk_ro, elemOk_fix, elemOk_grow, stiff_ro, stiff_fix, goInt, resultsV, resV, resL, finQ_some, Option.map_some, Option.map_none, Option.bind_some, Option.bind_none, List.map_cons, List.map_nil, List.getD_cons_zero, List.getD_cons_succ, List.getD_nil, Nat.reduceEqDiff, Nat.reduceAdd, Nat.reduceMul, Nat.reduceSub, Nat.reduceLT, Nat.reduceLeDiff, Nat.reduceBEq, if_true, if_false, ite_true, ite_false, List.length_cons, List.length_nil, Nat.zero_add, Nat.add_zero, List.drop_zero, List.drop_succ_cons, List.take_succ_cons, List.take_zero, List.set_cons_zero, List.set_cons_succ, Int.reduceLT, Int.reduceLE, Bool.not_true, Bool.not_false, Option.isNone_some, Option.isNone_none, decide_true, decide_false, beq_self_eq_true, Bool.false_eq_true, Bool.true_eq_false, if_pos, if_neg, reduceCtorEq, beq_iff_eq, BEq.rfl, wrap_i64, wrap_i32, wrap_i8, wrap_u8, wrap_u32, wrap_u64, Nat.mul_one, Int.toNat_natCast, ints_len, List.length_map, List.length_set, beq_ft, beq_tf, List.all_cons, List.all_nil, scalar, Bool.and_self, Bool.true_and, Bool.and_true, List.size_toArray, List.getElem?_toArray, binStr, fillIn, true_and, and_true, true_or, or_true, bne_self_eq_false, Int.reduceToNat, Int.reduceAdd, Int.reduceSub, Int.reduceMul]
    generalize hC : B.upd mb (.map (es.modify i fun (x : MapEntry) => { x with key := whV w }) ws.length) = C
    have nC : C.next = h.next + 2 := by rw [← hC]; exact nB
    have mC : C.obj mb = .map (es.modify i fun (x : MapEntry) => { x with key := whV w }) ws.length := by rw [← hC]; exact obj_upd_same _ _ _
    have oC : ∀ x, x < h.next → x ≠ mb → C.obj x = h.obj x := fun x hx hne => by rw [← hC, obj_upd_ne _ _ hne, oB.obj x hx]
    have yC : srcCells C 2 (.slice (some ⟨h.next + 1, 0, none⟩) 1 1) = some (EE.all [(at_, cost)], 1) := by
      unfold srcCells
      rw [← hC]
      simp only [if_true, obj_upd_ne _ _ (show h.next + 1 ≠ mb by omega), yB, src_grow]
      rfl
    have VC : Vec C 45 EE ei.val x0.2 bi := k3.keep (by omega) fun _ => oC bi hbi.2.2 hbi.2.1
    rw [hl] at hlen
    refine VC.app (m := [(at_, cost)]) rfl yC (by rw [List.length_singleton]; omega) (by rw [List.length_singleton]; omega) fun v' h' b' V hn hb ho => ?_
    have bne : ∀ (j c : Nat), j ≠ i → bs[j]? = some c → c ≠ bi := fun j c hji hc heq => by
      rw [heq] at hc
      exact hji ((List.getElem?_inj (List.getElem?_eq_some_iff.1 hc).1 L.nd).1 (hc.trans hb0.symm))
    have hb'lt : b' < h'.next := by
      rcases V with ⟨_, hv⟩ | ⟨_, _, _, hlt, _⟩
      · simp at hv
      · exact hlt
    have hb'ne : b' ≠ p ∧ b' ≠ mb ∧ ∀ b ∈ bs, b ≠ bi → b' ≠ b := by
      rcases hb with rfl | hb
      · exact ⟨hbi.1, hbi.2.1, fun b _ hne h => hne h.symm⟩
      · exact ⟨by omega, by omega, fun b hbb _ => by have := (hob b hbb).2.2; omega⟩
    have mh' : h'.obj mb = .map (es.modify i fun (x : MapEntry) => { x with key := whV w }) ws.length := by rw [ho mb (by omega) (.inr (fun h => hbi.2.1 h.symm))]; exact mC
    have fb : (es.modify i fun (x : MapEntry) => { x with key := whV w }).findIdx? (fun (x : MapEntry) => (x.born : Int) == ((i : Nat) : Int)) = some i := by
      have := find_born (es.modify i fun (x : MapEntry) => { x with key := whV w }) 0 i (fun j e he => by
        obtain ⟨e0, h0, rfl⟩ := modify_get he
        have := born j e0 h0
        split <;> (show e0.born = 0 + j; omega)) (by rw [List.length_modify]; omega)
      rw [Nat.zero_add] at this
      exact this
    have f2 : cop (.entryStore (.map (some mb)) (.int .i64 ((i : Nat) : Int)) v') h' = some (.tuple #[], h'.upd mb (.map ((es.modify i fun (x : MapEntry) => { x with key := whV w }).modify i fun (x : MapEntry) => { x with val := v' }) ws.length)) := by
      simp only [cop, mh', fb]
    simp (disch := first | omega | (simp only [next_new, next_upd, ne_eq]; omega)) only [c10, ↓c10_r0_run, ↓c10_r1_run, ↓c10_r2_c1_run, ↓c10_r2_run, ↓f2, ↓RunC_seq, ↓RunC_skip, ↓RunC_ret, ↓RunC_exit, ↓RunC_region, ↓RunC_condQ, condQ_true, condQ_false, ↓RunC_block, ↓RunR_done, ↓RunR_op, ↓RunR_opg, ↓RunR_snap, ↓RunR_chk, Holds, Option.getD_none, Option.getD_some, guardR_true, guardR_false, wantV_bool, wantV_none, callvQ_eq, afterR_some, ↓seqQ_normal, ↓seqQ_ret, ↓seqQ_exit, ↓blockQ_normal, ↓blockQ_ret, ↓blockQ_exit, ↓retQ_ret, ↓retQ_normal, ↓callQ_eq, ↓loopQ_normal, ↓loopQ_ret, ↓loopQ_exit, ↓upd_same, upd_at, sel_t, sel_f, initE_at, obj_upd_same, obj_upd_ne, obj_new_same, obj_updnew_same, obj_updnew_same2, obj_new2_same, obj_new3_same, obj_newupd_same, obj_new_ne, obj_new_ne2, obj_new_ne3, obj_new_ne4, next_upd, next_new, add_plain, cop, bin, binInt, un, shiftInt, flat, read_cells, src_ro, src_fix, src_grow, get_cells, List.getElem?_cons_zero, List.getElem?_cons_succ, write_fix, write_grow, setAt, bound, eqK, elemOk_ro, elemOk_fix, elemOk_grow, stiff_ro, stiff_fix, goInt, resultsV, resV, resL, finQ_some, Option.map_some, Option.map_none, Option.bind_some, Option.bind_none, List.map_cons, List.map_nil, List.getD_cons_zero, List.getD_cons_succ, List.getD_nil, Nat.reduceEqDiff, Nat.reduceAdd, Nat.reduceMul, Nat.reduceSub, Nat.reduceLT, Nat.reduceLeDiff, Nat.reduceBEq, if_true, if_false, ite_true, ite_false, List.length_cons, List.length_nil, Nat.zero_add, Nat.add_zero, List.drop_zero, List.drop_succ_cons, List.take_succ_cons, List.take_zero, List.set_cons_zero, List.set_cons_succ, Int.reduceLT, Int.reduceLE, Bool.not_true, Bool.not_false, Option.isNone_some, Option.isNone_none, decide_true, decide_false, beq_self_eq_true, Bool.false_eq_true, Bool.true_eq_false, if_pos, if_neg, reduceCtorEq, beq_iff_eq, BEq.rfl, wrap_i64, wrap_i32, wrap_i8, wrap_u8, wrap_u32, wrap_u64, Nat.mul_one, Int.toNat_natCast, ints_len, List.length_map, List.length_set, beq_ft, beq_tf, List.all_cons, List.all_nil, scalar, Bool.and_self, Bool.true_and, Bool.and_true, List.size_toArray, List.getElem?_toArray, binStr, fillIn, true_and, and_true, true_or, or_true, bne_self_eq_false, Int.reduceToNat, Int.reduceAdd, Int.reduceSub, Int.reduceMul]
    refine hQ _ (bs.set i b') ?_ (by rw [next_upd]; omega) (fun b hb => ?_) (fun x hx hne hnb => ?_)
    · rw [hnote]
      refine ⟨?_, by rw [next_upd]; omega, by rw [next_upd]; omega, pm, ⟨_, obj_upd_same _ _ _ |>.trans (by rw [List.length_set]), by simp [h2], ?_⟩, by simp [lb], ?_, ?_⟩
      · rw [obj_upd_ne _ _ pm, ho p (by omega) (.inr fun h => hbi.1 h.symm), oC p lp pm]; exact hp
      · intro j e x b he hx hb
        obtain ⟨e1, he1, rfl⟩ := modify_get he
        obtain ⟨e2, he2, rfl⟩ := modify_get he1
        by_cases hij : i = j
        · subst hij
          rw [if_pos rfl, if_pos rfl]
          rw [List.getElem?_set_self (by omega)] at hx hb
          obtain rfl := Option.some.inj hx
          obtain rfl := Option.some.inj hb
          exact ⟨rfl, born i e2 he2, V.keep (Nat.le_refl _) fun _ => obj_upd_ne _ _ hb'ne.2.1⟩
        · rw [if_neg hij, if_neg hij]
          rw [List.getElem?_set_ne hij] at hx hb
          obtain ⟨q1, q2, q3⟩ := h3 j e2 x b he2 hx hb
          have hbb := hob b (List.mem_of_getElem? hb)
          have hbne : b ≠ bi := bne j b (fun h => hij h.symm) hb
          refine ⟨q1, q2, q3.keep (by rw [next_upd]; omega) fun _ => ?_⟩
          rw [obj_upd_ne _ _ hbb.2.1, ho b (by omega) (.inr hbne), oC b hbb.2.2 hbb.2.1]
      · exact nodup_set L.nd fun j hj hq => hb'ne.2.2 b' (List.mem_of_getElem? hq) (bne j b' hj hq) rfl
      · intro b hb
        rcases List.mem_or_eq_of_mem_set hb with hb | rfl
        · have := hob b hb; exact ⟨this.1, this.2.1, by rw [next_upd]; omega⟩
        · exact ⟨hb'ne.1, hb'ne.2.1, hb'lt⟩
    · rcases List.mem_or_eq_of_mem_set hb with hb | rfl
      · exact .inl hb
      · rename_i hbx
        rcases hbx with rfl | hbx
        · exact .inl (List.mem_of_getElem? hb0)
        · right; omega
    · have hxb : x ≠ bi := fun h => hnb (h ▸ List.mem_of_getElem? hb0)
      rw [obj_upd_ne _ _ hne, ho x (by omega) (.inr hxb), oC x hx hne]
end Go.Proofs.Ytekojjilbchkgaa.Can
