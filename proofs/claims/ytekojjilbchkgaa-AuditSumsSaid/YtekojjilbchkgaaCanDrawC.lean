/- A statement whose operations may change places: what holds on the way, and each step. No condition. -/
import Derived.Test.YtekojjilbchkgaaCanDrawB
namespace Go.Proofs.Ytekojjilbchkgaa.Can
open Go
set_option linter.unusedSimpArgs false
set_option linter.unusedVariables false

section
variable {P : Program} {call : CallFn} {p : Pers} {ops : Array Oper} {ah : List (List Nat)} {E L : Nat → Env} {H : Nat → Heap} {V : Nat → Value} {R : Nat → Bool}

/-- Which are done. -/
structure Ctl (P : Program) (p : Pers) (ops : Array Oper) (ah : List (List Nat)) (E L : Nat → Env) (D : Nat → Prop) (q : Nat) : Prop where
  closed : ∀ j, D j → ∀ i, (ah.getD j []).elem i = true → D i
  lt : ∀ j, D j → j < ops.size
  wq : ∀ j o, ops[j]? = some o → kindC (At P p E L j o) = .write → (D j ↔ j < q)
  qw : q = 0 ∨ ∃ j o, q = j + 1 ∧ ops[j]? = some o ∧ kindC (At P p E L j o) = .write ∧ D j

def qNext (P : Program) (p : Pers) (E L : Nat → Env) (o : Oper) (j q : Nat) : Nat := if kindC (At P p E L j o) = .write then j + 1 else q

theorem Ctl.qle {D : Nat → Prop} {q : Nat} (c : Ctl P p ops ah E L D q) : q ≤ ops.size := by
  rcases c.qw with h | ⟨j, o, rfl, ho, _⟩
  · omega
  · exact lt_of_op ho

theorem Ctl.step (T : Trace P call p ops ah 0 ops.toList E L H V R) {D : Nat → Prop} {q : Nat} (c : Ctl P p ops ah E L D q) {j : Nat} {o : Oper} (hj : ops[j]? = some o) (hD : ¬ D j) (hah : ∀ i, (ah.getD j []).elem i = true → D i) :
    Ctl P p ops ah E L (fun i => i = j ∨ D i) (qNext P p E L o j q) := by
  refine ⟨fun i hi k hk => ?_, fun i hi => ?_, fun i x hx hw => ?_, ?_⟩
  · rcases hi with rfl | hi
    · exact .inr (hah k hk)
    · exact .inr (c.closed i hi k hk)
  · rcases hi with rfl | hi
    · exact lt_of_op hj
    · exact c.lt i hi
  · unfold qNext
    by_cases hij : i = j
    · subst hij
      rw [hj] at hx; obtain rfl := Option.some.inj hx
      rw [if_pos hw]
      simp
    · split
      · rename_i hk
        constructor
        · rintro (h | h)
          · exact absurd h hij
          · rcases Nat.lt_or_ge i j with h1 | h1
            · omega
            · exact absurd (c.closed i h j (T.ww0 (by omega) hj hx hk hw)) hD
        · intro h
          exact .inr (hah i (T.ww0 (by omega) hx hj hw hk))
      · rw [← c.wq i x hx hw]
        constructor
        · rintro (h | h)
          · exact absurd h hij
          · exact h
        · exact .inr
  · unfold qNext
    split
    · rename_i hk
      exact .inr ⟨j, o, rfl, hj, hk, .inl rfl⟩
    · rcases c.qw with h | ⟨i, x, h1, h2, h3, h4⟩
      · exact .inl h
      · exact .inr ⟨i, x, h1, h2, h3, .inr h4⟩

/-- Before a writer that is next there is no other undone one. -/
theorem Ctl.ahead (T : Trace P call p ops ah 0 ops.toList E L H V R) {D : Nat → Prop} {q : Nat} (c : Ctl P p ops ah E L D q) {j : Nat} {o : Oper} (hj : ops[j]? = some o) (hD : ¬ D j) (hah : ∀ i, (ah.getD j []).elem i = true → D i)
    (hk : kindC (At P p E L j o) = .write) : q ≤ j ∧ NW P p ops E L q j := by
  refine ⟨?_, fun i x h1 h2 hx hw => ?_⟩
  · rcases Nat.lt_or_ge j q with h | h
    · exact absurd ((c.wq j o hj hk).2 h) hD
    · exact h
  · have := (c.wq i x hx hw).1 (hah i (T.ww0 h2 hx hj hw hk))
    omega

/-! ### slots -/
theorem putE_look (p : Pers) (e l : Env) (d : Option Tmp) (v : Value) (t : Nat) : lookT p (putE p e l d v).1 (putE p e l d v).2 t = if d = some t then v else lookT p e l t := by
  cases d with
  | none => simp [putE]
  | some s =>
    unfold putE lookT
    by_cases hs : p.has s = true
    · simp only [hs, if_true]
      by_cases ht : s = t
      · subst ht; simp [hs, Env.upd]
      · have : t ≠ s := fun h => ht h.symm
        simp only [Env.upd, this, if_false, Option.some.injEq, ht]
    · simp only [hs, Bool.false_eq_true, if_false]
      by_cases ht : s = t
      · subst ht; simp [hs, Env.upd]
      · have : t ≠ s := fun h => ht h.symm
        simp only [Env.upd, this, if_false, Option.some.injEq, ht]

theorem look_stays (T : Trace P call p ops ah 0 ops.toList E L H V R) {t a : Nat} : ∀ {n : Nat}, a ≤ n → n ≤ ops.size → (∀ i o, a ≤ i → i < n → ops[i]? = some o → o.dst ≠ some t) → lookT p (E n) (L n) t = lookT p (E a) (L a) t
  | 0, h, _, _ => by rw [Nat.le_zero.1 h]
  | n + 1, h, hn, hno => by
    rcases Nat.lt_or_ge a (n + 1) with h1 | h1
    · obtain ⟨o, ho⟩ := op_of_lt (ops := ops) (j := n) (by omega)
      have s := T.st ho
      rw [s.env, s.loc, putE_look, if_neg (hno n o (by omega) (by omega) ho)]
      exact look_stays T (by omega) (by omega) fun i o h1 h2 => hno i o h1 (by omega)
    · rw [Nat.le_antisymm h h1]

theorem put_getD {a : Act} {d : Option Tmp} {v : Value} (hs : p.size ≤ a.tmps.size) (hd : dstOk p d = true) (x : Nat) : (a.put d v).tmps.getD x undef = if d = some x then v else a.tmps.getD x undef := by
  cases d with
  | none => simp [Act.put]
  | some t =>
    have ht : t < p.size := by simpa [dstOk, Nat.blt_eq] using hd
    simp only [Act.put, Array.getD_eq_getD_getElem?, Option.some.injEq]
    by_cases hx : t = x
    · subst hx
      rw [if_pos rfl, Array.getElem?_setIfInBounds_self_of_lt (Nat.lt_of_lt_of_le ht hs)]; rfl
    · rw [if_neg hx, Array.getElem?_setIfInBounds_ne hx]

structure Sl (p : Pers) (ops : Array Oper) (E L : Nat → Env) (D : Nat → Prop) (m : Map) (a : Act) : Prop where
  rel : ∀ t n, n ≤ ops.size → (∀ i o, ops[i]? = some o → o.dst = some t → (D i ↔ i < n)) → VR m (lookT p (E n) (L n) t) (a.tmps.getD t undef)
  size : p.size ≤ a.tmps.size
  defers : a.defers = []

/-- Those not ahead share no slot. -/
def Apart (ops : Array Oper) (ah : List (List Nat)) : Prop := ∀ j y, ops[j]? = some y → ∀ i x, i < j → ops[i]? = some x → (ah.getD j []).elem i = true ∨ x.apart ops y = true
theorem apart_of (h : apartOk ops ah = true) : Apart ops ah := by
  intro j y hj i x hij hi
  unfold apartOk at h
  have h1 := List.all_eq_true.1 h j (List.mem_range.2 (lt_of_op hj))
  have h2 := List.all_eq_true.1 h1 i (List.mem_range.2 hij)
  rw [hi, hj] at h2
  simpa using h2

theorem Sl.step (T : Trace P call p ops ah 0 ops.toList E L H V R) (hap : Apart ops ah) {D : Nat → Prop} (hcl : ∀ j, D j → ∀ i, (ah.getD j []).elem i = true → D i) {m m1 : Map} {a : Act} (s : Sl p ops E L D m a) (hx : Ext m m1)
    {j : Nat} {o : Oper} (hj : ops[j]? = some o) (hD : ¬ D j) {v' : Value} (hv : VR m1 (V j) v') : Sl p ops E L (fun i => i = j ∨ D i) m1 (a.put o.dst v') := by
  have hst := T.st hj
  refine ⟨fun t n hn hc => ?_, ?_, ?_⟩
  · rw [put_getD s.size hst.dst]
    by_cases hd : o.dst = some t
    · rw [if_pos hd]
      have hjn : j < n := (hc j o hj hd).1 (.inl rfl)
      have hno : ∀ i x, j + 1 ≤ i → i < n → ops[i]? = some x → x.dst ≠ some t := by
        intro i x h1 h2 hi hdx
        have hDi : D i := by
          rcases (hc i x hi hdx).2 h2 with h | h
          · omega
          · exact h
        rcases hap i x hi j o (by omega) hj with h | h
        · exact hD (hcl i hDi j h)
        · exact (Oper.apart_spec h).2.1 t hd hdx
      rw [look_stays T (by omega) hn hno, hst.env, hst.loc, putE_look, if_pos hd]
      exact hv
    · rw [if_neg hd]
      refine (s.rel t n hn fun i x hi hdx => ?_).ext hx
      have hij : i ≠ j := by
        intro h; subst h; rw [hj] at hi; obtain rfl := Option.some.inj hi; exact hd hdx
      rw [← hc i x hi hdx]
      exact ⟨.inr, fun h => h.resolve_left hij⟩
  · cases hd : o.dst with
    | none => exact s.size
    | some t => simp only [Act.put, Array.size_setIfInBounds]; exact s.size
  · cases o.dst <;> exact s.defers

/-- An operation that is next finds what the text's order finds. -/
theorem Sl.at (T : Trace P call p ops ah 0 ops.toList E L H V R) (hap : Apart ops ah) {D : Nat → Prop} (hcl : ∀ j, D j → ∀ i, (ah.getD j []).elem i = true → D i) {m : Map} {a : Act} (s : Sl p ops E L D m a)
    {j : Nat} {o : Oper} (hj : ops[j]? = some o) (hD : ¬ D j) (hah : ∀ i, (ah.getD j []).elem i = true → D i) {t : Nat} (ht : t ∈ o.looksAt ops) : VR m (lookT p (E j) (L j) t) (a.tmps.getD t undef) := by
  refine s.rel t j (Nat.le_of_lt (lt_of_op hj)) fun i x hi hd => ?_
  rcases Nat.lt_trichotomy i j with h | h | h
  · refine ⟨fun _ => h, fun _ => ?_⟩
    rcases hap j o hj i x h hi with h1 | h1
    · exact hah i h1
    · exact absurd ht ((Oper.apart_spec h1).1 t hd)
  · subst h; exact ⟨fun h => absurd h hD, fun h => absurd h (Nat.lt_irrefl _)⟩
  · refine ⟨fun hDi => ?_, fun h1 => by omega⟩
    rcases hap i x hi j o h hj with h1 | h1
    · exact absurd (hcl i hDi j h1) hD
    · exact absurd ht ((Oper.apart_spec h1).2.2 t hd)

/-! ### memory -/
structure Hp (P : Program) (S : Stay) (ops : Array Oper) (H : Nat → Heap) (m0 : Map) (w0 : World) (D : Nat → Prop) (q : Nat) (m : Map) (w : World) : Prop where
  ext : Ext m0 m
  dom : ∀ b, m b ≠ none → m0 b ≠ none ∨ ∃ i, D i ∧ i < ops.size ∧ (H i).next ≤ b ∧ b < (H (i + 1)).next
  emb : Emb P S m (AH H ops.size q m) w
  wd : Wd S w0 w
  same : ∀ b, b < (H q).next → m b = none → (H q).obj b = Orig H ops.size b
  wf : ∀ n, n ≤ q → (H n).Wf

theorem AH.wf (T : Trace P call p ops ah 0 ops.toList E L H V R) (hcall : CallsOK P call) {q : Nat} (hq : q ≤ ops.size) (m : Map) : (AH H ops.size q m).Wf := by
  intro b hb
  have hb2 : (H ops.size).next ≤ b := hb
  have := T.nexts hcall hq (Nat.le_refl _)
  show (if (m b).isNone then Obj.gone else Cur H ops.size q b) = .gone
  split
  · rfl
  · unfold Cur; rw [if_neg (by omega), if_neg (by omega)]
theorem AH.obj {q : Nat} {m : Map} {b : Nat} (hb : m b ≠ none) : (AH H ops.size q m).obj b = Cur H ops.size q b := by
  show (if (m b).isNone then Obj.gone else Cur H ops.size q b) = _
  cases h : m b with
  | none => exact absurd h hb
  | some _ => rfl

section
variable {S : Stay} {m0 : Map} {w0 : World} {D : Nat → Prop} {q : Nat} {m : Map} {w : World}

/-- The numbers the next one gives out are not taken. -/
theorem Hp.fresh (T : Trace P call p ops ah 0 ops.toList E L H V R) (hcall : CallsOK P call) (hf : Free m0 (H 0).next (H ops.size).next) (h : Hp P S ops H m0 w0 D q m w) {j : Nat} {o : Oper} (hj : ops[j]? = some o) (hD : ¬ D j) : Free m (H j).next (H (j + 1)).next := by
  have hlt := lt_of_op hj
  intro b h1 h2
  cases hm : m b with
  | none => rfl
  | some K =>
    exfalso
    rcases h.dom b (by simp [hm]) with h3 | ⟨i, hi, his, h4, h5⟩
    · have k1 := T.nexts hcall (Nat.zero_le j) (by omega)
      have k2 := T.nexts hcall (i := j + 1) (n := ops.size) (by omega) (Nat.le_refl _)
      exact h3 (hf b (by omega) (by omega))
    · rcases Nat.lt_trichotomy i j with h6 | h6 | h6
      · have := T.nexts hcall (i := i + 1) (n := j) (by omega) (by omega); omega
      · subst h6; exact hD hi
      · have := T.nexts hcall (i := j + 1) (n := i) (by omega) (by omega); omega

theorem ext_ne {m m1 : Map} (h : Ext m m1) {b : Nat} (hb : m1 b = none) : m b = none := by
  cases hq : m b with
  | none => rfl
  | some K => rw [h b K hq] at hb; simp at hb

/-- What a view shows. -/
theorem Hp.shows (T : Trace P call p ops ah 0 ops.toList E L H V R) (hcall : CallsOK P call) (h : Hp P S ops H m0 w0 D q m w) {n : Nat} (hq : q ≤ n) (hn : n ≤ ops.size) (hnw : NW P p ops E L q n) :
    (H n).Wf ∧ (∀ b, m b ≠ none → (H n).obj b = .gone ∨ (H n).obj b = (AH H ops.size q m).obj b) ∧ Emb P (Beh S m (AH H ops.size q m) (H n)) m (H n) w := by
  have hw := wf_of T (h.wf q (Nat.le_refl _)) hq hn hnw
  have hv : ∀ b, m b ≠ none → (H n).obj b = .gone ∨ (H n).obj b = (AH H ops.size q m).obj b := fun b hb => by
    rw [AH.obj hb]
    by_cases hlt : b < (H n).next
    · exact .inr (cur_of T hcall hq hn hnw hlt)
    · exact .inl (hw b (Nat.le_of_not_lt hlt))
  exact ⟨hw, hv, h.emb.view hv hw⟩

theorem Hp.write (T : Trace P call p ops ah 0 ops.toList E L H V R) (hcall : CallsOK P call) (h : Hp P S ops H m0 w0 D q m w) {j : Nat} {o : Oper} (hj : ops[j]? = some o) (hq : q ≤ j) (hnw : NW P p ops E L q j)
    {m1 : Map} {w1 : World} (ho : Out P (Beh S m (AH H ops.size q m) (H j)) m (H j) w m1 (H (j + 1)) w1) : Hp P S ops H m0 w0 (fun i => i = j ∨ D i) (j + 1) m1 w1 := by
  have hlt := lt_of_op hj
  obtain ⟨hw, hv, _⟩ := h.shows T hcall hq (Nat.le_of_lt hlt) hnw
  have n1 := T.next1 hcall hlt
  have n2 := T.nexts hcall (i := q) (n := j) hq (by omega)
  have n3 := T.nexts hcall (i := j + 1) (n := ops.size) hlt (Nat.le_refl _)
  refine ⟨h.ext.trans ho.ext, fun b hb => ?_, h.emb.back ho (fun b hb => ?_) (AH.wf T hcall hlt m1), h.wd.trans ho.wd.beh, fun b hb hm => ?_, fun n hn => ?_⟩
  · rcases ho.dom b hb with h1 | ⟨h1, h2⟩
    · rcases h.dom b h1 with h3 | ⟨i, hi, h4⟩
      · exact .inl h3
      · exact .inr ⟨i, .inr hi, h4⟩
    · exact .inr ⟨j, .inl rfl, hlt, h1, h2⟩
  · rw [AH.obj hb]
    by_cases hbn : b < (H (j + 1)).next
    · left; unfold Cur; rw [if_pos hbn]
    · right
      have hmb : m b ≠ none := by
        rcases ho.dom b hb with h1 | ⟨h1, h2⟩
        · exact h1
        · omega
      refine ⟨hmb, ?_, hw b (by omega)⟩
      rw [AH.obj hmb]
      unfold Cur
      rw [if_neg hbn, if_neg (by omega : ¬ b < (H q).next)]
  · have hm' := ext_ne ho.ext hm
    by_cases hbj : b < (H j).next
    · rw [ho.same b hbj hm', cur_of T hcall hq (Nat.le_of_lt hlt) hnw hbj]
      unfold Cur
      split
      · rename_i hbq; exact h.same b hbq hm'
      · rw [if_pos (by omega)]
    · rw [orig_stays T hcall hb hlt (Nat.le_refl _)]
      simp only [Orig, if_neg hbj]
  · rcases Nat.lt_or_ge n (j + 1) with h1 | h1
    · rcases Nat.lt_or_ge n q with h2 | h2
      · exact h.wf n (Nat.le_of_lt h2)
      · exact wf_of T (h.wf q (Nat.le_refl _)) h2 (by omega) fun i x a1 a2 => hnw i x a1 (by omega)
    · rw [Nat.le_antisymm hn h1]; exact ho.emb.wf

theorem Hp.read (T : Trace P call p ops ah 0 ops.toList E L H V R) (hcall : CallsOK P call) (h : Hp P S ops H m0 w0 D q m w) {j n : Nat} (hq : q ≤ n) (hn : n ≤ ops.size) (hnw : NW P p ops E L q n)
    {m1 : Map} {w1 : World} (ho : Out P (Beh S m (AH H ops.size q m) (H n)) m (H n) w m1 (H n) w1) : Hp P S ops H m0 w0 (fun i => i = j ∨ D i) q m1 w1 := by
  obtain ⟨hw, hv, _⟩ := h.shows T hcall hq hn hnw
  have hd : ∀ b, m1 b ≠ none → m b ≠ none := fun b hb => by
    rcases ho.dom b hb with h1 | ⟨h1, h2⟩
    · exact h1
    · omega
  refine ⟨h.ext.trans ho.ext, fun b hb => ?_, h.emb.back ho (fun b hb => ?_) (AH.wf T hcall (Nat.le_trans hq hn) m1), h.wd.trans ho.wd.beh, fun b hb hm => h.same b hb (ext_ne ho.ext hm), h.wf⟩
  · rcases h.dom b (hd b hb) with h3 | ⟨i, hi, h4⟩
    · exact .inl h3
    · exact .inr ⟨i, .inr hi, h4⟩
  · rw [AH.obj hb]
    by_cases hlt : b < (H n).next
    · exact .inl (cur_of T hcall hq hn hnw hlt).symm
    · exact .inr ⟨hd b hb, (AH.obj (hd b hb)).symm, hw b (Nat.le_of_not_lt hlt)⟩

theorem Hp.alloc (T : Trace P call p ops ah 0 ops.toList E L H V R) (hcall : CallsOK P call) (hf : Free m0 (H 0).next (H ops.size).next) (h : Hp P S ops H m0 w0 D q m w) (hq : q ≤ ops.size) {j : Nat} {o : Oper} (hj : ops[j]? = some o) (hD : ¬ D j) {ob : Obj} (hH : H (j + 1) = (H j).new ob)
    {m1 : Map} {w1 : World} (ho : Out P (Beh S m (AH H ops.size q m) ⟨fun _ => .gone, (H j).next⟩) m ⟨fun _ => .gone, (H j).next⟩ w m1 (Heap.new ⟨fun _ => .gone, (H j).next⟩ ob) w1) : Hp P S ops H m0 w0 (fun i => i = j ∨ D i) q m1 w1 := by
  have hlt := lt_of_op hj
  have hfr := h.fresh T hcall hf hj hD
  have hnx : (H (j + 1)).next = (H j).next + 1 := by rw [hH]; rfl
  have n3 := T.nexts hcall (i := j + 1) (n := ops.size) hlt (Nat.le_refl _)
  have hd : ∀ b, m1 b ≠ none → m b ≠ none ∨ b = (H j).next := fun b hb => by
    rcases ho.dom b hb with h1 | ⟨h1, h2⟩
    · exact .inl h1
    · right
      have h1' : (H j).next ≤ b := h1
      have h2' : b < (H j).next + 1 := h2
      omega
  have horig : Orig H ops.size (H j).next = ob := by
    rw [orig_stays T hcall (b := (H j).next) (n := j + 1) (by omega) hlt (Nat.le_refl _)]
    simp only [Orig, Nat.lt_irrefl, if_false]
    rw [hH]; simp [Heap.new]
  refine ⟨h.ext.trans ho.ext, fun b hb => ?_, h.emb.back ho (fun b hb => ?_) (AH.wf T hcall hq m1), h.wd.trans ho.wd.beh, fun b hb hm => h.same b hb (ext_ne ho.ext hm), h.wf⟩
  · rcases hd b hb with h1 | h1
    · rcases h.dom b h1 with h3 | ⟨i, hi, h4⟩
      · exact .inl h3
      · exact .inr ⟨i, .inr hi, h4⟩
    · exact .inr ⟨j, .inl rfl, hlt, by omega, by omega⟩
  · rw [AH.obj hb]
    by_cases hbn : b = (H j).next
    · left
      subst hbn
      simp only [Heap.new, if_true]
      unfold Cur
      split
      · rename_i hbq
        rw [h.same _ hbq (hfr _ (Nat.le_refl _) (by omega)), horig]
      · rw [if_pos (by omega), horig]
    · have hm := (hd b hb).resolve_right hbn
      exact .inr ⟨hm, (AH.obj hm).symm, rfl⟩

theorem Hp.idle (h : Hp P S ops H m0 w0 D q m w) {j : Nat} : Hp P S ops H m0 w0 (fun i => i = j ∨ D i) q m w :=
  ⟨h.ext, fun b hb => by
    rcases h.dom b hb with h3 | ⟨i, hi, h4⟩
    · exact .inl h3
    · exact .inr ⟨i, .inr hi, h4⟩, h.emb, h.wd, h.same, h.wf⟩
end
end
end Go.Proofs.Ytekojjilbchkgaa.Can
