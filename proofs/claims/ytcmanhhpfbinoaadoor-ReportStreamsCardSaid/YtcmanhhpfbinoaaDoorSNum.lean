/- Numbers as bytes, slices of bytes, in the canonical machine. No condition. -/
import Derived.Test.YtcmanhhpfbinoaaDoorSLaw21
namespace Go.Proofs.YtcmanhhpfbinoaaDoor.Can
open Go
set_option linter.unusedSimpArgs false
set_option linter.unusedVariables false
attribute [local congr] RunR_congr RunC_congr afterR_congr guardR_congr condQ_congr CALL_congr finQ_congr op_congr opg_congr

def encN : Nat → Int → List Int
  | 0, _ => []
  | n + 1, x => encN n (x / 256) ++ [x % 256]
def decN (l : List Int) : Int := l.foldl (fun a c => a * 256 + c) 0
theorem decN_snoc (l : List Int) (c : Int) : decN (l ++ [c]) = decN l * 256 + c := by unfold decN; rw [List.foldl_append]; rfl
theorem encN_len : ∀ n x, (encN n x).length = n
  | 0, _ => rfl
  | n + 1, x => by simp only [encN, List.length_append, List.length_singleton, encN_len n]
theorem encN_byts : ∀ n x, Byts (encN n x)
  | 0, _ => fun y hy => by simp [encN] at hy
  | n + 1, x => fun y hy => by
    simp only [encN, List.mem_append, List.mem_singleton] at hy
    rcases hy with hy | rfl
    · exact encN_byts n _ y hy
    · omega
theorem decN_range : ∀ (n : Nat) (l : List Int), l.length = n → Byts l → 0 ≤ decN l ∧ decN l < 256 ^ n := by
  intro n
  induction n with
  | zero => intro l hl _; rw [List.length_eq_zero_iff.1 hl]; decide
  | succ n ih =>
    intro l hl hb
    obtain ⟨m, c, rfl⟩ : ∃ m c, l = m ++ [c] := ⟨l.dropLast, l.getLast (by intro h; rw [h] at hl; simp at hl), (List.dropLast_concat_getLast _).symm⟩
    have h1 := ih m (by simpa using hl) fun y hy => hb y (List.mem_append_left _ hy)
    have h2 := hb c (by simp)
    rw [decN_snoc, Int.pow_succ]
    omega
theorem dec_enc : ∀ (n : Nat) (x : Int), 0 ≤ x → x < 256 ^ n → decN (encN n x) = x
  | 0, x, h0, h1 => by simp at h1; have : x = 0 := by omega
                       subst this; rfl
  | n + 1, x, h0, h1 => by
    rw [Int.pow_succ] at h1
    simp only [encN]
    rw [decN_snoc, dec_enc n (x / 256) (by omega) (by omega)]
    omega
theorem enc_dec : ∀ (n : Nat) (l : List Int), l.length = n → Byts l → encN n (decN l) = l := by
  intro n
  induction n with
  | zero => intro l hl _; rw [List.length_eq_zero_iff.1 hl]; rfl
  | succ n ih =>
    intro l hl hb
    obtain ⟨m, c, rfl⟩ : ∃ m c, l = m ++ [c] := ⟨l.dropLast, l.getLast (by intro h; rw [h] at hl; simp at hl), (List.dropLast_concat_getLast _).symm⟩
    have h1 := ih m (by simpa using hl) fun y hy => hb y (List.mem_append_left _ hy)
    have h2 := hb c (by simp)
    rw [decN_snoc]
    simp only [encN]
    rw [show (decN m * 256 + c) / 256 = decN m by omega, show (decN m * 256 + c) % 256 = c by omega, h1]
theorem encN_get : ∀ (n : Nat) (x : Int) (i : Nat), i < n → (encN n x)[i]? = some (x / 256 ^ (n - 1 - i) % 256)
  | 0, _, _, h => by omega
  | n + 1, x, i, h => by
    simp only [encN]
    by_cases e : i < n
    · rw [List.getElem?_append_left (by rw [encN_len]; exact e), encN_get n (x / 256) i e]
      rw [show n + 1 - 1 - i = (n - 1 - i) + 1 by omega, Int.pow_succ, Int.mul_comm, ← Int.ediv_ediv_of_nonneg (by decide)]
    · have : i = n := by omega
      subst this
      rw [List.getElem?_append_right (by rw [encN_len]; exact Nat.le_refl _), encN_len, Nat.sub_self]
      simp
/-- A number's eight bytes; the number of eight bytes. -/
def encI (x : Int) : List Int := encN 8 (x % 18446744073709551616)
def decI (l : List Int) : Int := IntKind.i64.wrap (decN l)
theorem encI_len (x : Int) : (encI x).length = 8 := encN_len 8 _
theorem encI_byts (x : Int) : Byts (encI x) := encN_byts 8 _
theorem decI_encI {x : Int} (h : I64 x) : decI (encI x) = x := by
  unfold decI encI
  unfold I64 at h
  have : (256 : Int) ^ 8 = 18446744073709551616 := by decide
  rw [dec_enc 8 _ (by omega) (by rw [this]; omega), wi64]; omega
theorem encI_decI {l : List Int} (hl : l.length = 8) (hb : Byts l) : encI (decI l) = l ∧ I64 (decI l) := by
  have h := decN_range 8 l hl hb
  have p : (256 : Int) ^ 8 = 18446744073709551616 := by decide
  rw [p] at h
  unfold decI encI
  rw [wi64]
  refine ⟨?_, by unfold I64; omega⟩
  rw [show ((decN l + 9223372036854775808) % 18446744073709551616 - 9223372036854775808) % 18446744073709551616 = decN l by omega]
  exact enc_dec 8 l hl hb

/-! ### slices of bytes -/
theorem read_sub {ob : Obj} {o n a k : Nat} {l : List Value} (h : ob.read o n = some l) (hk : a + k ≤ n) : ob.read (o + a) k = some ((l.drop a).take k) := by
  cases ob with
  | cells c t g =>
    simp only [Obj.read] at h ⊢
    split at h
    · rename_i hle
      obtain rfl := Option.some.inj h
      rw [if_pos (by omega)]
      congr 1
      apply List.ext_getElem?
      intro i
      rw [List.getElem?_take, List.getElem?_take, List.getElem?_drop, List.getElem?_drop, List.getElem?_take, List.getElem?_drop]
      by_cases hi : i < k
      · rw [if_pos hi, if_pos hi, if_pos (by omega), Nat.add_assoc]
      · rw [if_neg hi, if_neg hi]
    · simp at h
  | _ => simp [Obj.read] at h
theorem B8_drop : ∀ (l : List Int) (a k : Nat), ((B8.all l).drop a).take k = B8.all ((l.drop a).take k) := fun l a k => by
  have e : ∀ l : List Int, B8.all l = l.map fun x => Value.int .u8 x := fun l => by
    induction l with
    | nil => rfl
    | cons x t ih => show Value.int .u8 x :: B8.all t = _; rw [ih]; rfl
  rw [e, e, ← List.map_drop, ← List.map_take]
theorem B8_len (l : List Int) : (B8.all l).length = l.length := by
  have := B8.all_len l
  rw [show B8.sz = 1 from rfl, Nat.mul_one] at this
  exact this
theorem B8_get (l : List Int) {i : Nat} {x : Int} (hx : l[i]? = some x) : (B8.all l)[i]? = some (.int .u8 x) := by
  have e : ∀ l : List Int, B8.all l = l.map fun x => Value.int .u8 x := fun l => by
    induction l with
    | nil => rfl
    | cons x t ih => show Value.int .u8 x :: B8.all t = _; rw [ih]; rfl
  rw [e, List.getElem?_map, hx]; rfl
/-- A slice of bytes that is read. -/
def Bys (h : Heap) (v : Value) (l : List Int) : Prop :=
  (v = .slice none 0 0 ∧ l = []) ∨ ∃ b o cap, v = .slice (some ⟨b, o, none⟩) l.length cap ∧ l.length ≤ cap ∧ b < h.next ∧ (h.obj b).elemOk 5 = true ∧ (h.obj b).read o l.length = some (B8.all l)
theorem Bys.old {h h' : Heap} {v : Value} {l : List Int} (s : Bys h v l) (o : Old h h') : Bys h' v l := by
  rcases s with s | ⟨b, off, cap, h1, h2, h3, h4, h5⟩
  · exact .inl s
  · exact .inr ⟨b, off, cap, h1, h2, Nat.lt_of_lt_of_le h3 o.next, by rw [o.obj b h3]; exact h4, by rw [o.obj b h3]; exact h5⟩
theorem Bys.val {h : Heap} {v : Value} {l : List Int} (s : Bys h v l) : ∃ a cap, v = .slice a l.length cap ∧ l.length ≤ cap := by
  rcases s with ⟨rfl, rfl⟩ | ⟨b, off, cap, h1, h2, _⟩
  · exact ⟨none, 0, rfl, Nat.le_refl _⟩
  · exact ⟨_, cap, h1, h2⟩
/-- Where it has bytes. -/
theorem Bys.at {h : Heap} {v : Value} {l : List Int} (s : Bys h v l) (hl : 0 < l.length) : ∃ b o cap, v = .slice (some ⟨b, o, none⟩) l.length cap ∧ l.length ≤ cap ∧ b < h.next ∧ (h.obj b).elemOk 5 = true ∧ (h.obj b).read o l.length = some (B8.all l) := by
  rcases s with ⟨rfl, rfl⟩ | s
  · simp at hl
  · exact s
theorem Bys.get {h : Heap} {l : List Int} {b o cap : Nat} (s : (h.obj b).read o l.length = some (B8.all l)) {i : Nat} {x : Int} (hx : l[i]? = some x) : (h.obj b).get (o + i) = some (.int .u8 x) :=
  read_get s (List.getElem?_eq_some_iff.1 hx).1 (B8_get l hx)
theorem Bys.sub {h : Heap} {l : List Int} {b o cap : Nat} (hb : b < h.next) (he : (h.obj b).elemOk 5 = true) (s : (h.obj b).read o l.length = some (B8.all l)) (hc : l.length ≤ cap) (i j : Nat) (hij : i ≤ j) (hj : j ≤ l.length) : Bys h (.slice (some ⟨b, o + i, none⟩) (j - i) (cap - i)) ((l.drop i).take (j - i)) := by
  have hlen : ((l.drop i).take (j - i)).length = j - i := by rw [List.length_take, List.length_drop]; omega
  refine .inr ⟨b, o + i, cap - i, by rw [hlen], by rw [hlen]; omega, hb, he, ?_⟩
  rw [hlen, read_sub s (by omega), B8_drop]
theorem SlIn.bys {h : Heap} {v : Value} {l : List Int} (s : SlIn h B8 v l) : Bys h v l := by
  rcases s with ⟨rfl, rfl⟩ | ⟨b, o, cap, rfl, h2, h3, c, t, hob, hend, hat⟩
  · exact .inl ⟨rfl, rfl⟩
  · have hs := SlIn.src (E := B8) (.inr ⟨b, o, cap, rfl, h2, h3, c, t, hob, hend, hat⟩)
    have hb1 : B8.sz = 1 := rfl
    refine .inr ⟨b, o, cap, rfl, h2, h3, by rw [hob]; rfl, ?_⟩
    unfold srcCells at hs
    simp only [if_true, hob, hb1, Nat.mul_one, src_ro] at hs
    rw [hob, read_cells]
    rw [hb1, Nat.mul_one] at hend
    rw [if_pos (by omega)]
    split at hs
    · simp only [Option.map_some, Option.some.injEq, Prod.mk.injEq] at hs
      rw [hs.1]; rfl
    · simp at hs
theorem or_u64' (i : Nat) (x y : Int) (hx0 : 0 ≤ x) (hx : x % 2 ^ i = 0) (hx1 : x < 18446744073709551616) (hy0 : 0 ≤ y) (hy : y < 2 ^ i) (hy1 : y < 18446744073709551616) :
    IntKind.u64.wrap ((BitVec.ofInt IntKind.u64.bits x ||| BitVec.ofInt IntKind.u64.bits y).toNat : Int) = x + y :=
  bits_join .u64 64 (by decide) (u64_low 64 (by decide)) i x y hx0 hx (by omega) hy0 hy (by omega)
theorem num_ok (h : Heap) (v : Value) (l : List Int) (s : Bys h v l) (hl : l.length ≤ 8) (byt : Byts l) {Q : Value → Heap → Prop} (hQ : Q (.int .u64 (decN l)) h) : CALL cp 20 [v] h Q := by
  obtain ⟨a, cap, rfl, hcap⟩ := s.val
  rw [CALL_enter cp cp20]
  simp (disch := omega) only [c20, ↓c20_r0_run, ↓c20_r1_run, ↓c20_r2_run, ↓c20_r3_run, ↓c20_r4_run, ↓c20_r5_run, ↓c20_r6_run, ↓c20_r7_run, ↓RunC_seq, ↓RunC_skip, ↓RunC_ret, ↓RunC_exit, ↓RunC_region, ↓RunC_condQ, condQ_true, condQ_false, ↓RunC_block, ↓RunR_done, ↓RunR_op, ↓RunR_opg, ↓RunR_snap, ↓RunR_chk, Holds, Option.getD_none, Option.getD_some, guardR_true, guardR_false, wantV_bool, wantV_none, callvQ_eq, afterR_some, ↓seqQ_normal, ↓seqQ_ret, ↓seqQ_exit, ↓blockQ_normal, ↓blockQ_ret, ↓blockQ_exit, ↓retQ_ret, ↓retQ_normal, ↓callQ_eq, ↓loopQ_normal, ↓loopQ_ret, ↓loopQ_exit, ↓upd_same, upd_at, sel_t, sel_f, initE_at, obj_upd_same, obj_upd_ne, obj_new_same, obj_updnew_same, obj_updnew_same2, obj_new2_same, obj_new3_same, obj_newupd_same, obj_new_ne, obj_new_ne2, obj_new_ne3, obj_new_ne4, next_upd, next_new, add_plain, cop, bin, binInt, un, shiftInt, flat, read_cells, src_ro, src_fix, src_grow, get_cells, List.getElem?_cons_zero, List.getElem?_cons_succ, write_fix, write_grow, setAt, bound, eqK, elemOk_ro, elemOk_fix, elemOk_grow, stiff_ro, stiff_fix, goInt, resultsV, resV, resL, finQ_some, Option.map_some, Option.map_none, Option.bind_some, Option.bind_none, List.map_cons, List.map_nil, List.getD_cons_zero, List.getD_cons_succ, List.getD_nil, Nat.reduceEqDiff, Nat.reduceAdd, Nat.reduceMul, Nat.reduceSub, Nat.reduceLT, Nat.reduceLeDiff, Nat.reduceBEq, if_true, if_false, ite_true, ite_false, List.length_cons, List.length_nil, Nat.zero_add, Nat.add_zero, List.drop_zero, List.drop_succ_cons, List.take_succ_cons, List.take_zero, List.set_cons_zero, List.set_cons_succ, Int.reduceLT, Int.reduceLE, Bool.not_true, Bool.not_false, Option.isNone_some, Option.isNone_none, decide_true, decide_false, beq_self_eq_true, Bool.false_eq_true, Bool.true_eq_false, if_pos, if_neg, reduceCtorEq, beq_iff_eq, BEq.rfl, wrap_i64, wrap_i32, wrap_i8, wrap_u8, wrap_u32, wrap_u64, Nat.mul_one, Int.toNat_natCast, ints_len, List.length_map, List.length_set, beq_ft, beq_tf, List.all_cons, List.all_nil, scalar, Bool.and_self, Bool.true_and, Bool.and_true, List.size_toArray, List.getElem?_toArray, binStr, fillIn, true_and, and_true, true_or, or_true, bne_self_eq_false, Int.reduceToNat, Int.reduceAdd, Int.reduceSub, Int.reduceMul]
  refine RunC_loop cp c20_l0 _ (fun d e hh => ∃ i : Nat, i + d = l.length ∧ hh = h ∧ e 3 = .int .u64 (decN (l.take i)) ∧ e 6 = .slice a l.length cap ∧ e 7 = .int .i64 l.length ∧ e 8 = .int .i64 i) ?_ l.length _ _
    ⟨0, by omega, rfl, rfl, rfl, rfl, rfl⟩
  rintro d e hh ⟨i, hi, rfl, e3, e6, e7, e8⟩
  by_cases ci : i < l.length
  · have b1 : decide ((i : Int) < (l.length : Int)) = true := decide_eq_true (by omega)
    have nx : (i : Int) + 1 = ((i + 1 : Nat) : Int) := by omega
    have hx : l[i]? = some l[i] := List.getElem?_eq_getElem ci
    obtain ⟨c, hc⟩ : ∃ c, c = l[i] := ⟨_, rfl⟩
    rw [← hc] at hx
    have cr := byt c (List.mem_of_getElem? hx)
    obtain ⟨b, o, cap', hv, _, _, _, hr⟩ := s.at (by omega)
    simp only [Value.slice.injEq] at hv
    obtain ⟨rfl, _, _⟩ := hv
    have hg := Bys.get (cap := cap) hr hx
    have s8' := fun x : Int => shl_k .u64 x 8 (by decide)
    have p8 : (2 : Int) ^ 8 = 256 := by decide
    have bt : Byts (l.take i) := fun y hy => byt y (List.mem_of_mem_take hy)
    have il : (l.take i).length = i := by rw [List.length_take]; omega
    have rg := decN_range i _ il bt
    have pw : (256 : Int) ^ i ≤ 72057594037927936 := by
      have : i = 0 ∨ i = 1 ∨ i = 2 ∨ i = 3 ∨ i = 4 ∨ i = 5 ∨ i = 6 ∨ i = 7 := by omega
      rcases this with rfl | rfl | rfl | rfl | rfl | rfl | rfl | rfl <;> decide
    obtain ⟨x, hxd⟩ : ∃ x, x = decN (l.take i) := ⟨_, rfl⟩
    rw [← hxd] at rg e3
    have nxd : decN (l.take (i + 1)) = x * 256 + c := by rw [take_get hx, decN_snoc, hxd]
    have eor : IntKind.u64.wrap ((BitVec.ofInt IntKind.u64.bits (x * 256) ||| BitVec.ofInt IntKind.u64.bits c).toNat : Int) = decN (l.take (i + 1)) := by
      rw [nxd]
      exact or_u64' 8 _ _ (by omega) (by rw [p8]; omega) (by omega) (by omega) (by rw [p8]; omega) (by omega)
    simp (disch := omega) only [c20_l0, c20, ↓c20_r0_run, ↓c20_r1_run, ↓c20_r2_run, ↓c20_r3_run, ↓c20_r4_run, ↓c20_r5_run, ↓c20_r6_run, ↓c20_r7_run, e3, e6, e7, e8, b1, hg, s8', p8, eor, nx, Nat.mul_one, ↓RunC_seq, ↓RunC_skip, ↓RunC_ret, ↓RunC_exit, ↓RunC_region, ↓RunC_condQ, condQ_true, condQ_false, ↓RunC_block, ↓RunR_done, ↓RunR_op, ↓RunR_opg, ↓RunR_snap, ↓RunR_chk, Holds, Option.getD_none, Option.getD_some, guardR_true, guardR_false, wantV_bool, wantV_none, callvQ_eq, afterR_some, ↓seqQ_normal, ↓seqQ_ret, ↓seqQ_exit, ↓blockQ_normal, ↓blockQ_ret, ↓blockQ_exit, ↓retQ_ret, ↓retQ_normal, ↓callQ_eq, ↓loopQ_normal, ↓loopQ_ret, ↓loopQ_exit, ↓upd_same, upd_at, sel_t, sel_f, initE_at, obj_upd_same, obj_upd_ne, obj_new_same, obj_updnew_same, obj_updnew_same2, obj_new2_same, obj_new3_same, obj_newupd_same, obj_new_ne, obj_new_ne2, obj_new_ne3, obj_new_ne4, next_upd, next_new, add_plain, cop, bin, binInt, un, shiftInt, flat, read_cells, src_ro, src_fix, src_grow, get_cells, List.getElem?_cons_zero, List.getElem?_cons_succ, write_fix, write_grow, setAt, bound, eqK, elemOk_ro, elemOk_fix, elemOk_grow, stiff_ro, stiff_fix, goInt, resultsV, resV, resL, finQ_some, Option.map_some, Option.map_none, Option.bind_some, Option.bind_none, List.map_cons, List.map_nil, List.getD_cons_zero, List.getD_cons_succ, List.getD_nil, Nat.reduceEqDiff, Nat.reduceAdd, Nat.reduceMul, Nat.reduceSub, Nat.reduceLT, Nat.reduceLeDiff, Nat.reduceBEq, if_true, if_false, ite_true, ite_false, List.length_cons, List.length_nil, Nat.zero_add, Nat.add_zero, List.drop_zero, List.drop_succ_cons, List.take_succ_cons, List.take_zero, List.set_cons_zero, List.set_cons_succ, Int.reduceLT, Int.reduceLE, Bool.not_true, Bool.not_false, Option.isNone_some, Option.isNone_none, decide_true, decide_false, beq_self_eq_true, Bool.false_eq_true, Bool.true_eq_false, if_pos, if_neg, reduceCtorEq, beq_iff_eq, BEq.rfl, wrap_i64, wrap_i32, wrap_i8, wrap_u8, wrap_u32, wrap_u64, Nat.mul_one, Int.toNat_natCast, ints_len, List.length_map, List.length_set, beq_ft, beq_tf, List.all_cons, List.all_nil, scalar, Bool.and_self, Bool.true_and, Bool.and_true, List.size_toArray, List.getElem?_toArray, binStr, fillIn, true_and, and_true, true_or, or_true, bne_self_eq_false, Int.reduceToNat, Int.reduceAdd, Int.reduceSub, Int.reduceMul]
    refine ⟨d - 1, by omega, i + 1, by omega, rfl, ?_⟩
    repeat' first | assumption | rfl | apply And.intro
  · have b1 : decide ((i : Int) < (l.length : Int)) = false := decide_eq_false (by omega)
    obtain rfl : i = l.length := by omega
    rw [List.take_length] at e3
    simp (disch := omega) only [c20_l0, c20, ↓c20_r0_run, ↓c20_r1_run, ↓c20_r2_run, ↓c20_r3_run, ↓c20_r4_run, ↓c20_r5_run, ↓c20_r6_run, ↓c20_r7_run, e3, e6, e7, e8, b1, ↓RunC_seq, ↓RunC_skip, ↓RunC_ret, ↓RunC_exit, ↓RunC_region, ↓RunC_condQ, condQ_true, condQ_false, ↓RunC_block, ↓RunR_done, ↓RunR_op, ↓RunR_opg, ↓RunR_snap, ↓RunR_chk, Holds, Option.getD_none, Option.getD_some, guardR_true, guardR_false, wantV_bool, wantV_none, callvQ_eq, afterR_some, ↓seqQ_normal, ↓seqQ_ret, ↓seqQ_exit, ↓blockQ_normal, ↓blockQ_ret, ↓blockQ_exit, ↓retQ_ret, ↓retQ_normal, ↓callQ_eq, ↓loopQ_normal, ↓loopQ_ret, ↓loopQ_exit, ↓upd_same, upd_at, sel_t, sel_f, initE_at, obj_upd_same, obj_upd_ne, obj_new_same, obj_updnew_same, obj_updnew_same2, obj_new2_same, obj_new3_same, obj_newupd_same, obj_new_ne, obj_new_ne2, obj_new_ne3, obj_new_ne4, next_upd, next_new, add_plain, cop, bin, binInt, un, shiftInt, flat, read_cells, src_ro, src_fix, src_grow, get_cells, List.getElem?_cons_zero, List.getElem?_cons_succ, write_fix, write_grow, setAt, bound, eqK, elemOk_ro, elemOk_fix, elemOk_grow, stiff_ro, stiff_fix, goInt, resultsV, resV, resL, finQ_some, Option.map_some, Option.map_none, Option.bind_some, Option.bind_none, List.map_cons, List.map_nil, List.getD_cons_zero, List.getD_cons_succ, List.getD_nil, Nat.reduceEqDiff, Nat.reduceAdd, Nat.reduceMul, Nat.reduceSub, Nat.reduceLT, Nat.reduceLeDiff, Nat.reduceBEq, if_true, if_false, ite_true, ite_false, List.length_cons, List.length_nil, Nat.zero_add, Nat.add_zero, List.drop_zero, List.drop_succ_cons, List.take_succ_cons, List.take_zero, List.set_cons_zero, List.set_cons_succ, Int.reduceLT, Int.reduceLE, Bool.not_true, Bool.not_false, Option.isNone_some, Option.isNone_none, decide_true, decide_false, beq_self_eq_true, Bool.false_eq_true, Bool.true_eq_false, if_pos, if_neg, reduceCtorEq, beq_iff_eq, BEq.rfl, wrap_i64, wrap_i32, wrap_i8, wrap_u8, wrap_u32, wrap_u64, Nat.mul_one, Int.toNat_natCast, ints_len, List.length_map, List.length_set, beq_ft, beq_tf, List.all_cons, List.all_nil, scalar, Bool.and_self, Bool.true_and, Bool.and_true, List.size_toArray, List.getElem?_toArray, binStr, fillIn, true_and, and_true, true_or, or_true, bne_self_eq_false, Int.reduceToNat, Int.reduceAdd, Int.reduceSub, Int.reduceMul]
    exact hQ
end Go.Proofs.YtcmanhhpfbinoaaDoor.Can
