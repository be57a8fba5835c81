/- A statement whose operations may change places: the memory that stands for a state on the way, and the laws of its views. No condition. -/
import Derived.Test.YtekojjilbchkgaaCanDraw
namespace Go.Proofs.Ytekojjilbchkgaa.Can
open Go
set_option linter.unusedSimpArgs false
set_option linter.unusedVariables false

def Heap.Wf (h : Heap) : Prop := ∀ b, h.next ≤ b → h.obj b = .gone

/-- What is hidden from a view is not touched. -/
def Beh (S : Stay) (m : Map) (A G : Heap) : Stay := ⟨S.keep, fun k => S.far k ∨ ∃ b L, m b = some L ∧ L.blk = k ∧ (A.obj b).live = true ∧ G.obj b = .gone⟩

theorem Emb.view {P : Program} {S : Stay} {m : Map} {A G : Heap} {w : World} (e : Emb P S m A w) (hv : ∀ b, m b ≠ none → G.obj b = .gone ∨ G.obj b = A.obj b) (hw : G.Wf) : Emb P (Beh S m A G) m G w := by
  have lv : ∀ b L, m b = some L → (G.obj b).live = true → G.obj b = A.obj b := fun b L hb hl => by
    rcases hv b (by simp [hb]) with h | h
    · rw [h] at hl; simp [Obj.live] at hl
    · exact h
  refine ⟨fun b L hb hl => e.lt b L hb (by rw [← lv b L hb hl]; exact hl), fun b c L K hb hc hlb hlc heq => ?_, fun b L hb => ?_, fun b L hb hwr => ?_, fun b L hb hl hs => ?_, fun k hk => ?_, hw⟩
  · exact e.inj b c L K hb hc (by rw [← lv b L hb hlb]; exact hlb) (by rw [← lv c K hc hlc]; exact hlc) heq
  · rcases hv b (by simp [hb]) with h | h
    · rw [h]; trivial
    · rw [h]; exact e.obj b L hb
  · rcases hv b (by simp [hb]) with h | h
    · rw [h] at hwr; simp [Obj.wr] at hwr
    · rw [h] at hwr; exact e.prot b L hb hwr
  · have hA : (A.obj b).live = true := by rw [← lv b L hb hl]; exact hl
    rcases hs with hs | ⟨c, K, hc, hk, hlc, hg⟩
    · exact e.far b L hb hA hs
    · have := e.inj b c L K hb hc hA hlc hk.symm
      subst this
      rw [hg] at hl; simp [Obj.live] at hl
  · rcases hk with hk | hk | ⟨b, L, hb, rfl, hl, _⟩
    · exact e.sLt k (.inl hk)
    · exact e.sLt k (.inr hk)
    · exact e.lt b L hb hl

theorem Emb.same {P : Program} {S : Stay} {m : Map} {A G : Heap} {w : World} (e : Emb P S m A w) (hv : ∀ b, m b ≠ none → G.obj b = A.obj b) (hw : G.Wf) : Emb P S m G w := by
  have lv : ∀ b L, m b = some L → G.obj b = A.obj b := fun b L hb => hv b (by simp [hb])
  refine ⟨fun b L hb hl => e.lt b L hb (by rw [lv b L hb] at hl; exact hl), fun b c L K hb hc hlb hlc heq => ?_, fun b L hb => ?_, fun b L hb hwr => ?_, fun b L hb hl => ?_, e.sLt, hw⟩
  · rw [lv b L hb] at hlb; rw [lv c K hc] at hlc; exact e.inj b c L K hb hc hlb hlc heq
  · rw [lv b L hb]; exact e.obj b L hb
  · rw [lv b L hb] at hwr; exact e.prot b L hb hwr
  · rw [lv b L hb] at hl; exact e.far b L hb hl

theorem Emb.back {P : Program} {S : Stay} {m m1 : Map} {A A1 G G1 : Heap} {w w1 : World} (e : Emb P S m A w) (o : Out P (Beh S m A G) m G w m1 G1 w1)
    (hA : ∀ b, m1 b ≠ none → A1.obj b = G1.obj b ∨ (m b ≠ none ∧ A1.obj b = A.obj b ∧ G.obj b = .gone)) (hw : A1.Wf) : Emb P S m1 A1 w1 := by
  -- a hidden one lies where it lay, and is not where a seen one is
  have old : ∀ b L, m1 b = some L → m b ≠ none → m b = some L := fun b L hb hm => by
    cases hq : m b with
    | none => exact absurd hq hm
    | some K => have := o.ext b K hq; rw [hb] at this; exact this.symm
  have hid : ∀ b L, m b = some L → (A.obj b).live = true → G.obj b = .gone → (Beh S m A G).far L.blk := fun b L hb hl hg => .inr ⟨b, L, hb, rfl, hl, hg⟩
  refine ⟨fun b L hb hl => ?_, fun b c L K hb hc hlb hlc heq => ?_, fun b L hb => ?_, fun b L hb hwr => ?_, fun b L hb hl => ?_, fun k hk => Nat.lt_of_lt_of_le (e.sLt k hk) o.wd.size, hw⟩
  · rcases hA b (by simp [hb]) with h1 | ⟨h1, h2, h3⟩
    · rw [h1] at hl; exact o.emb.lt b L hb hl
    · rw [h2] at hl; exact Nat.lt_of_lt_of_le (e.lt b L (old b L hb h1) hl) o.wd.size
  · rcases hA b (by simp [hb]) with h1 | ⟨h1, h2, h3⟩
    · rcases hA c (by simp [hc]) with k1 | ⟨k1, k2, k3⟩
      · rw [h1] at hlb; rw [k1] at hlc; exact o.emb.inj b c L K hb hc hlb hlc heq
      · exfalso
        rw [h1] at hlb; rw [k2] at hlc
        exact o.emb.far b L hb hlb (heq ▸ hid c K (old c K hc k1) hlc k3)
    · rcases hA c (by simp [hc]) with k1 | ⟨k1, k2, k3⟩
      · exfalso
        rw [h2] at hlb; rw [k1] at hlc
        exact o.emb.far c K hc hlc (heq ▸ hid b L (old b L hb h1) hlb h3)
      · rw [h2] at hlb; rw [k2] at hlc
        exact e.inj b c L K (old b L hb h1) (old c K hc k1) hlb hlc heq
  · rcases hA b (by simp [hb]) with h1 | ⟨h1, h2, h3⟩
    · rw [h1]; exact o.emb.obj b L hb
    · rw [h2]
      by_cases hl : (A.obj b).live = true
      · exact ((e.obj b L (old b L hb h1)).of_block (o.wd.block _ (.inr (hid b L (old b L hb h1) hl h3)))).ext o.ext
      · cases hx : A.obj b with
        | gone => trivial
        | _ => rw [hx] at hl; exact absurd rfl hl
  · rcases hA b (by simp [hb]) with h1 | ⟨h1, h2, h3⟩
    · rw [h1] at hwr; exact o.emb.prot b L hb hwr
    · rw [h2] at hwr; exact e.prot b L (old b L hb h1) hwr
  · rcases hA b (by simp [hb]) with h1 | ⟨h1, h2, h3⟩
    · rw [h1] at hl; exact fun hs => o.emb.far b L hb hl (.inl hs)
    · rw [h2] at hl; exact e.far b L (old b L hb h1) hl

theorem Wd.beh {S : Stay} {m : Map} {A G : Heap} {w w1 : World} (h : Wd (Beh S m A G) w w1) : Wd S w w1 :=
  ⟨h.os, h.tape, h.output, h.size, fun k hk => h.block k (hk.imp id .inl)⟩

/-! ### the canonical run's heaps -/
/-- An object as it was when it was made. -/
def Orig (H : Nat → Heap) : Nat → Nat → Obj
  | 0, b => (H 0).obj b
  | n + 1, b => if b < (H n).next then Orig H n b else (H (n + 1)).obj b
def Cur (H : Nat → Heap) (N q b : Nat) : Obj := if b < (H q).next then (H q).obj b else if b < (H N).next then Orig H N b else .gone
def AH (H : Nat → Heap) (N q : Nat) (m : Map) : Heap := ⟨fun b => if (m b).isNone then .gone else Cur H N q b, (H N).next⟩

section
variable {P : Program} {call : CallFn} {p : Pers} {ops : Array Oper} {ah : List (List Nat)} {E L : Nat → Env} {H : Nat → Heap} {V : Nat → Value} {R : Nat → Bool}

theorem Trace.st (T : Trace P call p ops ah 0 ops.toList E L H V R) {j : Nat} {o : Oper} (hj : ops[j]? = some o) : StepT P call p ops j o E L H V R := by
  have := T.step j o (by simpa using hj)
  simpa using this
theorem Trace.rw0 (T : Trace P call p ops ah 0 ops.toList E L H V R) {r j : Nat} {x y : Oper} (hlt : r < j) (hr : ops[r]? = some x) (hj : ops[j]? = some y)
    (h1 : kindC (At P p E L r x) = .read) (h2 : kindC (At P p E L j y) = .write) (h3 : (ah.getD j []).elem r = false) (h4 : R r = true) : cop (At P p E L r x) (H (j + 1)) = some (V r, H (j + 1)) := by
  have := T.rw r j x y hlt (by simpa using hr) (by simpa using hj)
  simp only [Nat.zero_add] at this
  exact this h1 h2 h3 h4
theorem Trace.wr0 (T : Trace P call p ops ah 0 ops.toList E L H V R) {j r : Nat} {y x : Oper} (hlt : j < r) (hj : ops[j]? = some y) (hr : ops[r]? = some x)
    (h1 : kindC (At P p E L j y) = .write) (h2 : kindC (At P p E L r x) = .read) (h3 : (ah.getD r []).elem j = false) (h4 : R r = true) : cop (At P p E L r x) (H j) = some (V r, H j) := by
  have := T.wr j r y x hlt (by simpa using hj) (by simpa using hr)
  simp only [Nat.zero_add] at this
  exact this h1 h2 h3 h4
theorem Trace.ww0 (T : Trace P call p ops ah 0 ops.toList E L H V R) {j r : Nat} {y x : Oper} (hlt : j < r) (hj : ops[j]? = some y) (hr : ops[r]? = some x)
    (h1 : kindC (At P p E L j y) = .write) (h2 : kindC (At P p E L r x) = .write) : (ah.getD r []).elem j = true := by
  have := T.ww j r y x hlt (by simpa using hj) (by simpa using hr)
  simp only [Nat.zero_add] at this
  exact this h1 h2

theorem op_of_lt {j : Nat} (h : j < ops.size) : ∃ o, ops[j]? = some o := ⟨ops[j], Array.getElem?_eq_getElem h⟩
theorem lt_of_op {j : Nat} {o : Oper} (h : ops[j]? = some o) : j < ops.size := (Array.getElem?_eq_some_iff.1 h).1

theorem Trace.next1 (T : Trace P call p ops ah 0 ops.toList E L H V R) (hcall : CallsOK P call) {j : Nat} (hj : j < ops.size) : (H j).next ≤ (H (j + 1)).next := by
  obtain ⟨o, ho⟩ := op_of_lt hj
  have s := T.st ho
  cases hr : R j with
  | true => exact evOp_next hcall (s.ran hr)
  | false => rw [(s.idle hr).2]; exact Nat.le_refl _
theorem Trace.nexts (T : Trace P call p ops ah 0 ops.toList E L H V R) (hcall : CallsOK P call) {i : Nat} : ∀ {n : Nat}, i ≤ n → n ≤ ops.size → (H i).next ≤ (H n).next
  | 0, h, _ => by rw [Nat.le_zero.1 h]; exact Nat.le_refl _
  | n + 1, h, hn => by
    rcases Nat.lt_or_ge i (n + 1) with h1 | h1
    · exact Nat.le_trans (Trace.nexts T hcall (Nat.le_of_lt_succ h1) (by omega)) (T.next1 hcall (by omega))
    · rw [Nat.le_antisymm h h1]; exact Nat.le_refl _

theorem Trace.quiet (T : Trace P call p ops ah 0 ops.toList E L H V R) {j : Nat} {o : Oper} (hj : ops[j]? = some o) (hk : kindC (At P p E L j o) ≠ .write) : H (j + 1) = H j ∨ ∃ ob, H (j + 1) = (H j).new ob := by
  have s := T.st hj
  cases hr : R j with
  | false => exact .inl (s.idle hr).2
  | true =>
    have hc := s.ran hr
    rw [evOp_plain hk] at hc
    cases hq : kindC (At P p E L j o) with
    | write => exact absurd hq hk
    | read => exact .inl (kind_read hq hc)
    | pure => exact .inl (kind_pure hq hc).1
    | alloc => obtain ⟨ob, h1, _⟩ := kind_alloc hq hc; exact .inr ⟨ob, h1⟩

/-- No writer stands from q on before n. -/
def NW (P : Program) (p : Pers) (ops : Array Oper) (E L : Nat → Env) (q n : Nat) : Prop := ∀ i o, q ≤ i → i < n → ops[i]? = some o → kindC (At P p E L i o) ≠ .write

theorem orig_stays (T : Trace P call p ops ah 0 ops.toList E L H V R) (hcall : CallsOK P call) {b n : Nat} (hb : b < (H n).next) : ∀ {k : Nat}, n ≤ k → k ≤ ops.size → Orig H k b = Orig H n b
  | 0, h, _ => by rw [Nat.le_zero.1 h]
  | k + 1, h, hk => by
    rcases Nat.lt_or_ge n (k + 1) with h1 | h1
    · have hlt := Nat.lt_of_lt_of_le hb (T.nexts hcall (Nat.le_of_lt_succ h1) (by omega))
      simp only [Orig, if_pos hlt]
      exact orig_stays T hcall hb (Nat.le_of_lt_succ h1) (by omega)
    · rw [Nat.le_antisymm h h1]

theorem cur_of (T : Trace P call p ops ah 0 ops.toList E L H V R) (hcall : CallsOK P call) {q b : Nat} : ∀ {n : Nat}, q ≤ n → n ≤ ops.size → NW P p ops E L q n → b < (H n).next → (H n).obj b = Cur H ops.size q b := by
  have key : ∀ {n : Nat}, q ≤ n → n ≤ ops.size → NW P p ops E L q n → b < (H n).next → (H n).obj b = if b < (H q).next then (H q).obj b else Orig H n b := by
    intro n
    induction n with
    | zero =>
      intro hq _ _ hb
      have hq0 : q = 0 := by omega
      subst hq0; rw [if_pos hb]
    | succ n ih =>
      intro hq hn hnw hb
      rcases Nat.lt_or_ge q (n + 1) with h1 | h1
      · obtain ⟨o, ho⟩ := op_of_lt (ops := ops) (j := n) (by omega)
        have hk := hnw n o (by omega) (by omega) ho
        have hq1 : (H (n + 1)).obj b = (H n).obj b ∨ ¬ b < (H n).next := by
          rcases T.quiet ho hk with h | ⟨ob, h⟩
          · left; rw [h]
          · by_cases hlt : b < (H n).next
            · left; rw [h]; simp only [Heap.new]; rw [if_neg (by omega)]
            · exact .inr hlt
        by_cases hlt : b < (H n).next
        · rcases hq1 with h | h
          · rw [h, ih (by omega) (by omega) (fun i o h1 h2 => hnw i o h1 (by omega)) hlt]
            simp only [Orig, if_pos hlt]
          · exact absurd hlt h
        · have hqn := T.nexts hcall (i := q) (n := n) (by omega) (by omega)
          rw [if_neg (by omega)]
          simp only [Orig, if_neg hlt]
      · have : q = n + 1 := by omega
        subst this; rw [if_pos hb]
  intro n hq hn hnw hb
  rw [key hq hn hnw hb]
  unfold Cur
  have hlt := Nat.lt_of_lt_of_le hb (T.nexts hcall hn (Nat.le_refl _))
  rw [if_pos hlt, orig_stays T hcall hb hn (Nat.le_refl _)]

theorem wf_of (T : Trace P call p ops ah 0 ops.toList E L H V R) {q : Nat} (hw : (H q).Wf) : ∀ {n : Nat}, q ≤ n → n ≤ ops.size → NW P p ops E L q n → (H n).Wf := by
  intro n
  induction n with
  | zero =>
    intro hq _ _
    have hq0 : q = 0 := by omega
    subst hq0; exact hw
  | succ n ih =>
    intro hq hn hnw
    rcases Nat.lt_or_ge q (n + 1) with h1 | h1
    · obtain ⟨o, ho⟩ := op_of_lt (ops := ops) (j := n) (by omega)
      have hk := hnw n o (by omega) (by omega) ho
      have i := ih (by omega) (by omega) fun i o h1 h2 => hnw i o h1 (by omega)
      rcases T.quiet ho hk with h | ⟨ob, h⟩
      · rw [h]; exact i
      · rw [h]; intro b hb
        have hb2 : (H n).next + 1 ≤ b := hb
        simp only [Heap.new]; rw [if_neg (by omega)]; exact i b (by omega)
    · have : q = n + 1 := by omega
      subst this; exact hw
end
end Go.Proofs.Ytekojjilbchkgaa.Can
